/- Whole operations do the same where they look at the same; two that are apart may change places. -/
import Derived.Test.YtajbaocfdlopbaaLhU
set_option linter.unusedSimpArgs false
set_option linter.unusedVariables false
namespace Go.Lh

/-- what is read, what is written, and whether it is a call (so that it may make blocks) -/
def touchO (P : Program) (O : Orc) (idx : Nat) (g : Fm) (h : Heap) (op : Op) : Option (List Nat × List Nat × Bool) :=
  match op with
  | .call { callee := .value f, args, .. } => (match opnd g f, opnds g args.toList with
    | some (.fn fid first cap), some l => (match O.ext fid (first ++ l ++ cap) with
      | some _ => some ([], [], false)
      | none => some (reach h 100 (refsVs (first ++ l ++ cap)) [], reach h 100 (refsVs (first ++ l ++ cap)) [], true))
    | _, _ => none)
  | .panic _ => none
  | op => (match touchN P idx g op with
    | some (R, W) => some (R, W, false)
    | none => none)

theorem reach_acc (h : Heap) : ∀ (fuel : Nat) (todo acc : List Nat), ∀ i ∈ acc, i ∈ reach h fuel todo acc
  | 0, _, _, i, hi => by simpa [reach] using hi
  | _ + 1, [], _, i, hi => by simpa [reach] using hi
  | fuel + 1, j :: todo, acc, i, hi => by
    simp only [reach]
    split
    · exact reach_acc h fuel _ _ i hi
    · split
      · exact reach_acc h fuel _ _ i (by simp [hi])
      · exact reach_acc h fuel _ _ i hi

theorem reach_same {h h2 : Heap} (hl : h2.length = h.length) : ∀ (fuel : Nat) (todo acc : List Nat), SameAt (reach h fuel todo acc) h h2 → reach h2 fuel todo acc = reach h fuel todo acc
  | 0, _, _, _ => rfl
  | _ + 1, [], _, _ => rfl
  | fuel + 1, i :: todo, acc, H => by
    simp only [reach] at H ⊢
    split
    · rename_i hm
      rw [if_pos hm] at H
      exact reach_same hl fuel _ _ H
    · rename_i hm
      rw [if_neg hm] at H
      cases hb : h[i]? with
      | some b =>
        rw [hb] at H
        simp only at H
        have : h2[i]? = some b := by rw [H i (reach_acc h fuel _ _ i (by simp)), hb]
        rw [this]
        exact reach_same hl fuel _ _ H
      | none =>
        rw [hb] at H
        have : h2[i]? = none := by
          rw [List.getElem?_eq_none_iff] at hb ⊢; omega
        rw [this]
        exact reach_same hl fuel _ _ H

theorem subHeap_same {h h2 : Heap} {τ : Nat → Option Nat} : ∀ {rd : List Nat}, SameAt rd h h2 → subHeap h2 τ rd = subHeap h τ rd
  | [], _ => rfl
  | i :: r, H => by
    simp only [subHeap]
    rw [H i (by simp), subHeap_same (rd := r) (fun j hj => H j (by simp [hj]))]

theorem setAll_appU : ∀ (rd : List Nat) (bs : List Blk) (h : Heap), setAll h rd bs = appU h (rd.zip bs)
  | [], _, h => by simp [setAll, appU]
  | _ :: _, [], h => by simp [setAll, appU]
  | i :: r, b :: s, h => by simp [setAll, appU, setAll_appU r s]

section
variable {P : Program} {O : Orc} {idx : Nat} {g : Fm} {h : Heap}

theorem stepO_loc {op : Op} {k : Bool} {fin : Fin} {h' : Heap} {R W : List Nat} {c : Bool} (hs : stepO P O idx g h op = some (k, fin, h')) (ht : touchO P O idx g h op = some (R, W, c)) :
    ∃ (U : List (Nat × Blk)) (N : Heap), (∀ p ∈ U, p.1 ∈ W) ∧ (c = false → N = []) ∧
      ∀ h2 : Heap, SameAt R h h2 → (c = true → h2.length = h.length) → stepO P O idx g h2 op = some (k, fin, appU h2 U ++ N) ∧ touchO P O idx g h2 op = some (R, W, c) := by
  have plain : (∀ h2, stepO P O idx g h2 op = asmRes (asmOf O.asm op) (stepN P idx g h2 op)) →
      (∀ h2, touchO P O idx g h2 op = match touchN P idx g op with | some (R, W) => some (R, W, false) | none => none) →
      ∃ (U : List (Nat × Blk)) (N : Heap), (∀ p ∈ U, p.1 ∈ W) ∧ (c = false → N = []) ∧
      ∀ h2 : Heap, SameAt R h h2 → (c = true → h2.length = h.length) → stepO P O idx g h2 op = some (k, fin, appU h2 U ++ N) ∧ touchO P O idx g h2 op = some (R, W, c) := by
    intro e1 e2
    rw [e1 h] at hs
    rw [e2 h] at ht
    cases hN : stepN P idx g h op with
    | none => obtain ⟨_, _, e, _⟩ := asmRes_some hs; rw [hN] at e; cases e
    | some r =>
      obtain ⟨k', v, h'', hfin, hall⟩ := asmRes_some hs
      rw [hN] at h''
      cases h''
      cases hT : touchN P idx g op with
      | none => simp [hT] at ht
      | some t =>
        obtain ⟨R', W'⟩ := t
        simp only [hT, Option.some.injEq, Prod.mk.injEq] at ht
        obtain ⟨rfl, rfl, rfl⟩ := ht
        obtain ⟨U, u1, u2⟩ := stepN_loc hN hT
        refine ⟨U, [], u1, fun _ => rfl, fun h2 H _ => ⟨?_, ?_⟩⟩
        · rw [e1 h2, u2 h2 H, hall]; simp
        · rw [e2 h2, hT]
  cases op with
  | call cl =>
    obtain ⟨cal, args, ts⟩ := cl
    cases cal with
    | value f =>
      simp only [stepO, touchO] at hs ht ⊢
      cases hf : opnd g f with
      | none => simp [hf] at hs
      | some fv =>
        cases hl : opnds g args.toList with
        | none => cases fv <;> simp [hf, hl] at hs
        | some l =>
          cases fv <;> simp only [hf, hl, reduceCtorEq] at hs ht ⊢
          rename_i fid first cap
          cases hx : O.ext fid (first ++ l ++ cap) with
          | some r =>
            obtain ⟨k', v⟩ := r
            simp only [hx, Option.some.injEq, Prod.mk.injEq] at hs ht ⊢
            obtain ⟨rfl, rfl, rfl⟩ := hs
            obtain ⟨rfl, rfl, rfl⟩ := ht
            exact ⟨[], [], by simp, fun _ => rfl, fun h2 _ _ => by simp [appU]⟩
          | none =>
            simp only [hx, Option.some.injEq, Prod.mk.injEq] at hs ht ⊢
            obtain ⟨rfl, rfl, rfl⟩ := ht
            generalize hrd : reach h 100 (refsVs (first ++ l ++ cap)) [] = rd at *
            have hs0 := hs
            unfold callO at hs
            simp only [hrd] at hs
            split at hs <;> try simp only [reduceCtorEq] at hs
            rename_i args2 hs2 hra hsub
            split at hs <;> try simp only [reduceCtorEq] at hs
            rename_i k' fin2 hs3 hcall
            split at hs <;> try simp only [reduceCtorEq] at hs
            rename_i hle
            split at hs <;> simp only [Option.some.injEq, Prod.mk.injEq, reduceCtorEq] at hs
            rename_i fin' lb hfin hlb
            obtain ⟨rfl, rfl, rfl⟩ := hs
            refine ⟨rd.zip (lb.take rd.length), lb.drop rd.length, fun p hp => (List.of_mem_zip hp).1, by simp, fun h2 H hlen => ?_⟩
            have hl2 := hlen rfl
            have hr2 : reach h2 100 (refsVs (first ++ l ++ cap)) [] = rd := by rw [reach_same hl2 100 _ _ (by rw [hrd]; exact H), hrd]
            refine ⟨?_, hr2, hr2, rfl⟩
            unfold callO
            simp only [hr2, hra, subHeap_same H, hsub, hcall, hle, if_true, hl2, hfin, hlb, setAll_appU]
    | invoke _ _ => exact plain (fun h2 => rfl) (fun h2 => rfl)
    | builtin b => exact plain (fun h2 => rfl) (fun h2 => rfl)
  | panic x => simp [touchO] at ht
  | _ => exact plain (fun h2 => rfl) (fun h2 => rfl)

/-! ### what is looked at in the frame -/

theorem opnd_congr {g2 : Fm} {x : Operand} (h : ∀ t, x = .tmp t → g2 t = g t) : opnd g2 x = opnd g x := by
  cases x with
  | tmp t => exact h t rfl
  | _ => rfl

theorem opnds_congr {g2 : Fm} : ∀ {l : List Operand}, (∀ t, Operand.tmp t ∈ l → g2 t = g t) → opnds g2 l = opnds g l
  | [], _ => rfl
  | x :: r, h => by
    simp only [opnds]
    rw [opnd_congr (x := x) (fun t e => h t (by simp [e])), opnds_congr (l := r) (fun t ht => h t (by simp [ht]))]

theorem partsV_congr {g2 : Fm} : ∀ {l : List (Nat × Operand)}, (∀ t i, (i, Operand.tmp t) ∈ l → g2 t = g t) → partsV g2 l = partsV g l
  | [], _ => rfl
  | (i, x) :: r, h => by
    simp only [partsV]
    rw [opnd_congr (x := x) (fun t e => h t i (by simp [e])), partsV_congr (l := r) (fun t j ht => h t j (by simp [ht]))]

theorem optIx_congr {g2 : Fm} {x : Option Operand} {d : Int} (h : ∀ t, x = some (.tmp t) → g2 t = g t) : optIx g2 x d = optIx g x d := by
  cases x with
  | none => rfl
  | some y =>
    simp only [optIx]
    rw [opnd_congr (x := y) (fun t e => h t (by rw [e]))]

/-- the temporaries that an operation names -/
def tmpsOf (op : Op) (t : Nat) : Prop := Operand.tmp t ∈ op.operands.toList

theorem stepT_congr {g2 : Fm} {op : Op} (h : ∀ t, tmpsOf op t → g2 t = g t) : stepT P g2 op = stepT P g op := by
  have o : ∀ x, x ∈ op.operands.toList → opnd g2 x = opnd g x := fun x hx => opnd_congr (fun t e => h t (by unfold tmpsOf; rw [← e]; exact hx))
  cases op <;> simp only [stepT]
  case move x => rw [o x (by simp [Op.operands])]
  case assign x => rw [o x (by simp [Op.operands])]
  case pick c x y => rw [o c (by simp [Op.operands]), o x (by simp [Op.operands]), o y (by simp [Op.operands])]
  case nilCheck x => rw [o x (by simp [Op.operands])]
  case binOp op t x y t' => rw [o x (by simp [Op.operands]), o y (by simp [Op.operands])]
  case unOp op t x => rw [o x (by simp [Op.operands])]
  case convert s d x => rw [o x (by simp [Op.operands])]
  case sliceToArrayPointer d x => rw [o x (by simp [Op.operands])]
  case makeInterface t x => rw [o x (by simp [Op.operands])]
  case makeFunc fn first cap =>
    cases fn <;> simp only []
    rw [opnds_congr (l := first.toList) (fun t ht => h t (by simp only [tmpsOf, Op.operands, Array.toList_append, List.mem_append]; exact .inl ht)), opnds_congr (l := cap.toList) (fun t ht => h t (by simp only [tmpsOf, Op.operands, Array.toList_append, List.mem_append]; exact .inr ht))]
  case slice t x lo hi mx =>
    cases mx <;> simp only []
    rw [o x (by simp [Op.operands])]
    have e1 : ∀ y, lo = some y → optIx g2 (some y) 0 = optIx g (some y) 0 := fun y hy => optIx_congr (fun t e => h t (by simp only [Option.some.injEq] at e; subst e; simp [tmpsOf, Op.operands, hy]))
    have e2 : ∀ y, hi = some y → optIx g2 (some y) 0 = optIx g (some y) 0 := fun y hy => optIx_congr (fun t e => h t (by simp only [Option.some.injEq] at e; subst e; simp [tmpsOf, Op.operands, hy]))
    cases lo <;> cases hi <;> simp only []
    · rw [e2 _ rfl]
    · rw [e1 _ rfl]
    · rw [e1 _ rfl, e2 _ rfl]
  case fieldAddr t x n => rw [o x (by simp [Op.operands])]
  case field t x n => rw [o x (by simp [Op.operands])]
  case indexAddr t x ix => rw [o x (by simp [Op.operands]), o ix (by simp [Op.operands])]
  case index t x ix => rw [o x (by simp [Op.operands]), o ix (by simp [Op.operands])]
  case extract x n => rw [o x (by simp [Op.operands])]
  case build t parts =>
    rw [partsV_congr (l := parts.toList) (fun t i ht => h t (by simp only [tmpsOf, Op.operands, List.mem_map]; exact ⟨_, ht, rfl⟩))]
  case typeAssert x t s ok => cases ok <;> simp only []; rw [o x (by simp [Op.operands])]
  case call c =>
    rw [opnds_congr (l := c.args.toList) (fun t ht => h t (by simp only [tmpsOf, Op.operands, Call.operands, Array.toList_append, List.mem_append]; exact .inr ht))]

theorem stepH_congr {g2 : Fm} {op : Op} (h0 : ∀ t, tmpsOf op t → g2 t = g t) : stepH P idx g2 h op = stepH P idx g h op := by
  have o : ∀ x, x ∈ op.operands.toList → opnd g2 x = opnd g x := fun x hx => opnd_congr (fun t e => h0 t (by unfold tmpsOf; rw [← e]; exact hx))
  cases op <;> try rfl
  case box t x => simp only [stepH]; rw [o x (by simp [Op.operands])]
  case load t x => simp only [stepH]; rw [o x (by simp [Op.operands])]
  case store t x y => simp only [stepH]; rw [o x (by simp [Op.operands]), o y (by simp [Op.operands])]
  case slice t x lo hi mx =>
    cases mx <;> simp only [stepH]
    rw [o x (by simp [Op.operands])]
    have e1 : optIx g2 lo = optIx g lo := funext fun d => optIx_congr (fun t e => h0 t (by subst e; simp [tmpsOf, Op.operands]))
    have e2 : optIx g2 hi = optIx g hi := funext fun d => optIx_congr (fun t e => h0 t (by subst e; simp [tmpsOf, Op.operands]))
    simp only [e1, e2]
  case buildSlice t len parts =>
    simp only [stepH]
    rw [partsV_congr (l := parts.toList) (fun t i ht => h0 t (by simp only [tmpsOf, Op.operands, List.mem_map]; exact ⟨_, ht, rfl⟩))]
  case makeSlice t x y => simp only [stepH]; rw [o x (by simp [Op.operands]), o y (by simp [Op.operands])]
  case convert s d x => simp only [stepH]; rw [o x (by simp [Op.operands])]
  case call c =>
    obtain ⟨cal, args, ts⟩ := c
    have oa : opnds g2 args.toList = opnds g args.toList := opnds_congr (fun t ht => h0 t (by simp only [tmpsOf, Op.operands, Call.operands, Array.toList_append, List.mem_append]; exact .inr ht))
    cases cal with
    | builtin b => cases b <;> first | rfl | (simp only [stepH]; rw [oa])
    | value _ => rfl
    | invoke _ _ => rfl

theorem touchN_congr {g2 : Fm} {op : Op} (h0 : ∀ t, tmpsOf op t → g2 t = g t) : touchN P idx g2 op = touchN P idx g op := by
  have o : ∀ x, x ∈ op.operands.toList → opnd g2 x = opnd g x := fun x hx => opnd_congr (fun t e => h0 t (by unfold tmpsOf; rw [← e]; exact hx))
  unfold touchN
  rw [stepT_congr h0]
  cases stepT P g op with
  | some _ => rfl
  | none =>
    simp only
    cases op <;> try rfl
    case load t x => simp only; rw [o x (by simp [Op.operands])]
    case store t x y => simp only; rw [o x (by simp [Op.operands])]
    case slice t x lo hi mx => simp only; rw [o x (by simp [Op.operands])]
    case convert s d x => simp only; rw [o x (by simp [Op.operands])]
    case call c =>
      obtain ⟨cal, args, ts⟩ := c
      have oa : opnds g2 args.toList = opnds g args.toList := opnds_congr (fun t ht => h0 t (by simp only [tmpsOf, Op.operands, Call.operands, Array.toList_append, List.mem_append]; exact .inr ht))
      cases cal with
      | builtin b => cases b <;> first | rfl | (simp only; rw [oa])
      | value _ => rfl
      | invoke _ _ => rfl

theorem stepO_congr {g2 : Fm} {op : Op} (h0 : ∀ t, tmpsOf op t → g2 t = g t) : stepO P O idx g2 h op = stepO P O idx g h op ∧ touchO P O idx g2 h op = touchO P O idx g h op := by
  have o : ∀ x, x ∈ op.operands.toList → opnd g2 x = opnd g x := fun x hx => opnd_congr (fun t e => h0 t (by unfold tmpsOf; rw [← e]; exact hx))
  have n1 : stepN P idx g2 h op = stepN P idx g h op := by unfold stepN; rw [stepT_congr h0, stepH_congr h0]
  have n2 := touchN_congr (P := P) (idx := idx) h0
  cases op with
  | panic x => exact ⟨by simp only [stepO]; rw [o x (by simp [Op.operands])], rfl⟩
  | call c =>
    obtain ⟨cal, args, ts⟩ := c
    have oa : opnds g2 args.toList = opnds g args.toList := opnds_congr (fun t ht => h0 t (by simp only [tmpsOf, Op.operands, Call.operands, Array.toList_append, List.mem_append]; exact .inr ht))
    cases cal with
    | value f =>
      have of := o f (by simp [Op.operands, Call.operands])
      exact ⟨by simp only [stepO]; rw [of, oa], by simp only [touchO]; rw [of, oa]⟩
    | invoke _ _ => exact ⟨by simp only [stepO, n1], by simp only [touchO, n2]⟩
    | builtin _ => exact ⟨by simp only [stepO, n1], by simp only [touchO, n2]⟩
  | _ => exact ⟨by simp only [stepO, n1], by simp only [touchO, n2]⟩
end
end Go.Lh
