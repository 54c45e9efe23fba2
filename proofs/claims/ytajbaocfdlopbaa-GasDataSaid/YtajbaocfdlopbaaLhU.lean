/- What an operation reads and writes; it does the same where that is the same. -/
import Derived.Test.YtajbaocfdlopbaaLhT
set_option linter.unusedSimpArgs false
set_option linter.unusedVariables false
namespace Go.Lh

def refsOf : V → List Nat
  | .ptr i _ => [i]
  | .sl i _ _ _ _ => [i]
  | _ => []

/-- blocks that an operation looks at, blocks that it writes -/
def touchN (P : Program) (idx : Nat) (g : Fm) (op : Op) : Option (List Nat × List Nat) :=
  match stepT P g op with
  | some _ => some ([], [])
  | none => (match op with
    | .alloc _ => some ([], [idx])
    | .box _ _ => some ([], [idx])
    | .makeSlice _ _ _ => some ([], [idx])
    | .buildSlice _ _ _ => some ([], [idx])
    | .load _ a => (match opnd g a with | some v => some (refsOf v, []) | none => none)
    | .store _ a _ => (match opnd g a with | some v => some (refsOf v, refsOf v) | none => none)
    | .slice _ x _ _ _ => (match opnd g x with | some v => some (refsOf v, []) | none => none)
    | .convert _ _ x => (match opnd g x with | some (.str _) => some ([], [idx]) | some v => some (refsOf v, []) | none => none)
    | .call { callee := .builtin .append, args, .. } => (match opnds g args.toList with
      | some [x, y] => some (refsOf x ++ refsOf y, idx :: refsOf x)
      | _ => none)
    | .call { callee := .builtin .copy, args, .. } => (match opnds g args.toList with
      | some [x, y] => some (refsOf x ++ refsOf y, refsOf x)
      | _ => none)
    | _ => none)

def SameAt (l : List Nat) (h h2 : Heap) : Prop := ∀ i ∈ l, h2[i]? = h[i]?

def appU (h : Heap) : List (Nat × Blk) → Heap
  | [] => h
  | p :: r => appU (h.set p.1 p.2) r

theorem SameAt.left {l m : List Nat} {h h2 : Heap} (H : SameAt (l ++ m) h h2) : SameAt l h h2 := fun i hi => H i (by simp [hi])
theorem SameAt.right {l m : List Nat} {h h2 : Heap} (H : SameAt (l ++ m) h h2) : SameAt m h h2 := fun i hi => H i (by simp [hi])

section
variable {P : Program} {idx : Nat} {g : Fm} {h : Heap}

theorem srcB_same {s : Nat} {x : V} {h2 : Heap} (H : SameAt (refsOf x) h h2) : srcB h2 s x = srcB h s x := by
  cases x <;> try rfl
  rename_i i o s' len cap
  simp only [srcB]
  rw [H i (by simp [refsOf])]

theorem appH_loc {e : TypeId} {s n : Nat} {x : V} {c : Blk} {k : Bool} {v : V} {h' : Heap} (hs : appH P idx h e s x n c = some (k, v, h')) :
    ∃ U : List (Nat × Blk), (∀ p ∈ U, p.1 ∈ idx :: refsOf x) ∧ ∀ h2 : Heap, SameAt (refsOf x) h h2 → appH P idx h2 e s x n c = some (k, v, appU h2 U) := by
  cases x <;> simp only [appH, reduceCtorEq] at hs
  case nilSl =>
    split at hs
    · rename_i hn
      simp only [Option.some.injEq, Prod.mk.injEq] at hs
      obtain ⟨rfl, rfl, rfl⟩ := hs
      exact ⟨[], by simp, fun h2 _ => by simp [appH, hn, appU]⟩
    · rename_i hn
      simp only [Option.some.injEq, Prod.mk.injEq] at hs
      obtain ⟨rfl, rfl, rfl⟩ := hs
      exact ⟨[(idx, c)], by simp, fun h2 _ => by simp [appH, hn, appU]⟩
  case sl i o s' len cap =>
    split at hs <;> try simp only [reduceCtorEq] at hs
    rename_i hss
    split at hs <;> try simp only [reduceCtorEq] at hs
    rename_i b hb
    split at hs <;> try simp only [reduceCtorEq] at hs
    rename_i hd
    have key : ∀ h2 : Heap, SameAt (refsOf (.sl i o s' len cap)) h h2 → h2[i]? = some b := fun h2 H => by rw [H i (by simp [refsOf]), hb]
    cases cap with
    | some m =>
      simp only at hs
      split at hs
      · rename_i hle
        split at hs <;> simp only [Option.some.injEq, Prod.mk.injEq, reduceCtorEq] at hs
        rename_i b' hb'
        obtain ⟨rfl, rfl, rfl⟩ := hs
        exact ⟨[(i, b')], by simp [refsOf], fun h2 H => by simp [appH, hss, key h2 H, hd, hle, hb', appU]⟩
      · rename_i hle
        split at hs <;> simp only [Option.some.injEq, Prod.mk.injEq, reduceCtorEq] at hs
        rename_i b' hb'
        obtain ⟨rfl, rfl, rfl⟩ := hs
        exact ⟨[(idx, b')], by simp, fun h2 H => by simp [appH, hss, key h2 H, hd, hle, hb', appU] <;> simp [← hss, hb']⟩
    | none =>
      simp only at hs
      split at hs <;> simp only [Option.some.injEq, Prod.mk.injEq, reduceCtorEq] at hs
      rename_i b' hb'
      obtain ⟨rfl, rfl, rfl⟩ := hs
      exact ⟨[(i, .dead), (idx, b')], by simp [refsOf], fun h2 H => by simp [appH, hss, key h2 H, hd, hb', appU] <;> simp [← hss, hb']⟩

/-- an operation without a call: what it writes, wherever it looks at the same -/
theorem stepN_loc {op : Op} {k : Bool} {v : V} {h' : Heap} {R W : List Nat} (hs : stepN P idx g h op = some (k, v, h')) (ht : touchN P idx g op = some (R, W)) :
    ∃ U : List (Nat × Blk), (∀ p ∈ U, p.1 ∈ W) ∧ ∀ h2 : Heap, SameAt R h h2 → stepN P idx g h2 op = some (k, v, appU h2 U) := by
  unfold stepN touchN at *
  cases hT : stepT P g op with
  | some q =>
    obtain ⟨k', v'⟩ := q
    simp only [hT, Option.some.injEq, Prod.mk.injEq] at hs ht ⊢
    obtain ⟨rfl, rfl, rfl⟩ := hs
    exact ⟨[], by simp, fun h2 _ => ⟨rfl, rfl, rfl⟩⟩
  | none =>
    simp only [hT] at hs ht ⊢
    cases op <;> try (simp only [stepH, reduceCtorEq] at hs; done)
    case alloc e =>
      simp only [Option.some.injEq, Prod.mk.injEq] at ht; obtain ⟨rfl, rfl⟩ := ht
      simp only [stepH] at hs ⊢
      split at hs <;> simp only [Option.some.injEq, Prod.mk.injEq, reduceCtorEq] at hs
      rename_i b hb
      obtain ⟨rfl, rfl, rfl⟩ := hs
      exact ⟨[(idx, b)], by simp, fun h2 _ => by simp [appU]⟩
    case box e x =>
      simp only [Option.some.injEq, Prod.mk.injEq] at ht; obtain ⟨rfl, rfl⟩ := ht
      simp only [stepH] at hs ⊢
      split at hs <;> simp only [Option.some.injEq, Prod.mk.injEq, reduceCtorEq] at hs
      rename_i v0 hna hx
      obtain ⟨rfl, rfl, rfl⟩ := hs
      exact ⟨[(idx, mkBlk v0.cells)], by simp, fun h2 _ => by simp [appU]⟩
    case load t x =>
      cases hx : opnd g x with
      | none => simp [hx] at ht
      | some y =>
        simp only [hx, Option.some.injEq, Prod.mk.injEq] at ht; obtain ⟨rfl, rfl⟩ := ht
        refine ⟨[], by simp, fun h2 H => ?_⟩
        have e : stepH P idx g h2 (.load t x) = match stepH P idx g h (.load t x) with | some (k, v, _) => some (k, v, h2) | none => none := by
          simp only [stepH, hx]
          cases y <;> cases isAggT P t with
            | none => cases sizeT P t <;> rfl
            | some ag => cases ag <;> cases sizeT P t <;> first | rfl | (simp only [H _ (List.mem_singleton.2 rfl)]; split <;> first | rfl | (split <;> rfl))
        rw [e, hs]; rfl
    case store t x y =>
      cases hx : opnd g x with
      | none => simp [hx] at ht
      | some z =>
        simp only [hx, Option.some.injEq, Prod.mk.injEq] at ht; obtain ⟨rfl, rfl⟩ := ht
        simp only [stepH, hx] at hs ⊢
        split at hs <;> try simp only [reduceCtorEq] at hs
        rename_i i q v0 n hna hx' hy hsz
        cases hx'
        split at hs <;> try simp only [reduceCtorEq] at hs
        rename_i hn
        split at hs <;> try simp only [reduceCtorEq] at hs
        rename_i b hb
        split at hs <;> try simp only [reduceCtorEq] at hs
        rename_i hdead
        split at hs <;> simp only [Option.some.injEq, Prod.mk.injEq, reduceCtorEq] at hs
        rename_i b' hb'
        obtain ⟨rfl, rfl, rfl⟩ := hs
        refine ⟨[(i, b')], by simp [refsOf], fun h2 H => ?_⟩
        have : h2[i]? = some b := by rw [H i (by simp [refsOf]), hb]
        simp [hy, hsz, hn, this, hdead, hb', appU]
    case slice t x lo hi mx =>
      cases mx with
      | some _ => simp [stepH] at hs
      | none =>
        cases hx : opnd g x with
        | none => simp [hx] at ht
        | some z =>
          simp only [hx, Option.some.injEq, Prod.mk.injEq] at ht; obtain ⟨rfl, rfl⟩ := ht
          simp only [stepH, hx] at hs ⊢
          split at hs <;> try simp only [reduceCtorEq] at hs
          rename_i n e i q hu hx'
          cases hx'
          split at hs <;> try simp only [reduceCtorEq] at hs
          rename_i s b l u hsz hb hlo hhi
          split at hs <;> simp only [Option.some.injEq, Prod.mk.injEq, reduceCtorEq] at hs
          rename_i hdead
          obtain ⟨rfl, rfl, rfl⟩ := hs
          refine ⟨[], by simp, fun h2 H => ?_⟩
          have : h2[i]? = some b := by rw [H i (by simp [refsOf]), hb]
          simp [hu, hsz, this, hlo, hhi, hdead, appU]
    case buildSlice t len parts =>
      simp only [Option.some.injEq, Prod.mk.injEq] at ht; obtain ⟨rfl, rfl⟩ := ht
      simp only [stepH] at hs ⊢
      split at hs <;> try simp only [reduceCtorEq] at hs
      rename_i e ps hu hps
      split at hs <;> try simp only [reduceCtorEq] at hs
      rename_i s z hsz hz
      split at hs <;> simp only [Option.some.injEq, Prod.mk.injEq, reduceCtorEq] at hs
      rename_i cs hcs
      obtain ⟨rfl, rfl, rfl⟩ := hs
      exact ⟨[(idx, mkBlk cs)], by simp, fun h2 _ => by simp [hu, hps, hsz, hz, hcs, appU]⟩
    case makeSlice t x y =>
      simp only [Option.some.injEq, Prod.mk.injEq] at ht; obtain ⟨rfl, rfl⟩ := ht
      simp only [stepH] at hs ⊢
      split at hs <;> try simp only [reduceCtorEq] at hs
      rename_i e lv cv hu hx hy
      split at hs <;> try simp only [reduceCtorEq] at hs
      rename_i l c s hl hc hsz
      split at hs <;> simp only [Option.some.injEq, Prod.mk.injEq, reduceCtorEq] at hs
      rename_i b hb
      obtain ⟨rfl, rfl, rfl⟩ := hs
      exact ⟨[(idx, b)], by simp, fun h2 _ => by simp [hu, hx, hy, hl, hc, hsz, hb, appU]⟩
    case convert src dst x =>
      cases hx : opnd g x with
      | none => simp [hx] at ht
      | some z =>
        simp only [stepH, hx] at hs ⊢
        split at hs <;> try simp only [reduceCtorEq] at hs
        · rename_i e s hsrc hdst hx'
          cases hx'
          simp only [hx, Option.some.injEq, Prod.mk.injEq] at ht; obtain ⟨rfl, rfl⟩ := ht
          split at hs <;> simp only [Option.some.injEq, Prod.mk.injEq, reduceCtorEq] at hs
          rename_i he
          obtain ⟨rfl, rfl, rfl⟩ := hs
          exact ⟨[(idx, .b8 s)], by simp, fun h2 _ => by simp [hsrc, hdst, he, appU]⟩
        · rename_i e i q s len cap hsrc hdst hx'
          cases hx'
          simp only [hx, Option.some.injEq, Prod.mk.injEq] at ht; obtain ⟨rfl, rfl⟩ := ht
          split at hs <;> try simp only [reduceCtorEq] at hs
          rename_i xs he hb
          split at hs <;> simp only [Option.some.injEq, Prod.mk.injEq, reduceCtorEq] at hs
          rename_i hs1
          obtain ⟨rfl, rfl, rfl⟩ := hs
          refine ⟨[], by simp, fun h2 H => ?_⟩
          have : h2[i]? = some (.b8 xs) := by rw [H i (by simp [refsOf]), hb]
          simp [hsrc, hdst, he, this, hs1, appU]
        · rename_i e hsrc hdst hx'
          cases hx'
          simp only [hx, Option.some.injEq, Prod.mk.injEq] at ht; obtain ⟨rfl, rfl⟩ := ht
          split at hs <;> simp only [Option.some.injEq, Prod.mk.injEq, reduceCtorEq] at hs
          rename_i he
          obtain ⟨rfl, rfl, rfl⟩ := hs
          exact ⟨[], by simp, fun h2 _ => by simp [hsrc, hdst, he, appU]⟩
    case call c =>
      obtain ⟨cal, args, ts⟩ := c
      cases cal with
      | value _ => simp [stepH] at hs
      | invoke _ _ => simp [stepH] at hs
      | builtin b =>
        cases b <;> try (simp only [stepH, reduceCtorEq] at hs; done)
        case append =>
          simp only at ht
          split at ht <;> simp only [Option.some.injEq, Prod.mk.injEq, reduceCtorEq] at ht
          rename_i x y hargs
          obtain ⟨rfl, rfl⟩ := ht
          simp only [stepH, hargs] at hs ⊢
          split at hs <;> try simp only [reduceCtorEq] at hs
          rename_i t t' tr x' y' hts hxy
          simp only [Option.some.injEq, List.cons.injEq, and_true] at hxy
          obtain ⟨rfl, rfl⟩ := hxy
          split at hs <;> try simp only [reduceCtorEq] at hs
          rename_i e hu
          split at hs <;> try simp only [reduceCtorEq] at hs
          · rename_i s kk hsz hut'
            split at hs <;> try simp only [reduceCtorEq] at hs
            rename_i n hn
            split at hs <;> try simp only [reduceCtorEq] at hs
            rename_i c hc
            split at hs <;> simp only [Option.some.injEq, Prod.mk.injEq, reduceCtorEq] at hs
            rename_i k' r hap
            obtain ⟨rfl, hr⟩ := hs
            subst hr
            obtain ⟨U, u1, u2⟩ := appH_loc hap
            exact ⟨U, u1, fun h2 H => by simp [hu, hsz, hut', hn, hc, u2 h2 H.left]⟩
          · rename_i s d hnint hsz hut'
            split at hs <;> try simp only [reduceCtorEq] at hs
            rename_i k' n c hsrc
            split at hs <;> simp only [Option.some.injEq, Prod.mk.injEq, reduceCtorEq] at hs
            rename_i k2 r hap
            obtain ⟨rfl, hr⟩ := hs
            subst hr
            obtain ⟨U, u1, u2⟩ := appH_loc hap
            refine ⟨U, u1, fun h2 H => ?_⟩
            rw [srcB_same H.right, hsrc]
            simp [u2 h2 H.left]
        case copy =>
          simp only at ht
          split at ht <;> simp only [Option.some.injEq, Prod.mk.injEq, reduceCtorEq] at ht
          rename_i x y hargs
          obtain ⟨rfl, rfl⟩ := ht
          simp only [stepH, hargs] at hs ⊢
          split at hs <;> try simp only [reduceCtorEq] at hs
          rename_i t tr i q s len cap y' hts hxy
          simp only [Option.some.injEq, List.cons.injEq, and_true] at hxy
          obtain ⟨rfl, rfl⟩ := hxy
          split at hs <;> try simp only [reduceCtorEq] at hs
          rename_i e hu
          split at hs <;> try simp only [reduceCtorEq] at hs
          rename_i hsz
          split at hs <;> try simp only [reduceCtorEq] at hs
          rename_i k n c b hsrc hb
          split at hs <;> try simp only [reduceCtorEq] at hs
          rename_i hd
          split at hs <;> simp only [Option.some.injEq, Prod.mk.injEq, reduceCtorEq] at hs
          rename_i b' hb'
          obtain ⟨rfl, rfl, rfl⟩ := hs
          refine ⟨[(i, b')], by simp [refsOf], fun h2 H => ?_⟩
          have h1 : h2[i]? = some b := by rw [H.left i (by simp [refsOf]), hb]
          rw [srcB_same H.right, hsrc, h1]
          simp [hsz, hd, hb', appU]
end
end Go.Lh
