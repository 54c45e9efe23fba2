/- Regions: operations in the text's order; in any order that the edges allow. -/
import Derived.Test.YtajbaocfdlopbaaLhV
set_option linter.unusedSimpArgs false
set_option linter.unusedVariables false
namespace Go.Lh

def wantV (ops : List Oper) (g : Fm) (o : Oper) : Option Bool :=
  match o.guard with
  | none => some true
  | some (j, want) => (match ops[j]? with
    | some oj => (match oj.dst with
      | some d => (match g d with
        | some (.bool b) => some (b == want)
        | some (.tup _) => some false
        | _ => none)
      | none => none)
    | none => none)

def putO (dst : Option Tmp) (v : V) (fr : Fr) : Fr := match dst with | some t => fr.put t v | none => fr

theorem get_putO (dst : Option Tmp) (v : V) (fr : Fr) : (putO dst v fr).get = Fm.put fr.get dst v := by
  cases dst with
  | none => rfl
  | some t => exact Fr.get_put t v fr

def nextIdx (P : Program) (o : Oper) (idx : Nat) : Nat := if Op.makes P o.op then idx + 1 else idx

def nMakes (P : Program) : List Oper → Nat
  | [] => 0
  | o :: r => if Op.makes P o.op then nMakes P r + 1 else nMakes P r

def runOps (P : Program) (O : Orc) (ops : List Oper) : List Oper → Nat → Fr → Heap → Option (Bool × Option V × Fr × Heap)
  | [], _, fr, h => some (true, none, fr, h)
  | o :: r, idx, fr, h => match wantV ops fr.get o with
    | some w => if w then (match stepO P O idx fr.get h o.op with
        | some (k, .ret v, h') => (match runOps P O ops r (nextIdx P o idx) (putO o.dst v fr) h' with
          | some (k', q) => some (k && k', q)
          | none => none)
        | some (k, .pan v, h') => some (k, some v, fr, h')
        | none => none)
      else runOps P O ops r (nextIdx P o idx) (putO o.dst (.tup []) fr) h
    | none => none

structure Tch where
  R : List Nat
  W : List Nat
  c : Bool
  len : Nat

def touches (P : Program) (O : Orc) (ops : List Oper) : List Oper → Nat → Fr → Heap → Option (List Tch)
  | [], _, _, _ => some []
  | o :: r, idx, fr, h => match wantV ops fr.get o with
    | some w => if w then (match touchO P O idx fr.get h o.op, stepO P O idx fr.get h o.op with
        | some (R, W, c), some (_, .ret v, h') => (match touches P O ops r (nextIdx P o idx) (putO o.dst v fr) h' with
          | some l => some (⟨R, W, c, h.length⟩ :: l)
          | none => none)
        | _, _ => none)
      else (match touches P O ops r (nextIdx P o idx) (putO o.dst (.tup []) fr) h with
        | some l => some (⟨[], [], false, h.length⟩ :: l)
        | none => none)
    | none => none

def disj (l m : List Nat) : Bool := l.all fun i => !memN i m

def Tch.indep (s t : Tch) : Bool :=
  disj s.W (t.R ++ t.W) && disj t.W (s.R ++ s.W) && !(s.c && t.c) &&
  (!s.c || (t.R ++ t.W).all fun i => Nat.blt i s.len) && (!t.c || (s.R ++ s.W).all fun i => Nat.blt i t.len)

/-- an operation waits for one of these, in any order that the edges allow -/
def waitsAny (o : Oper) (bl : List Nat) : Bool := o.after.toList.any fun e => memN e.on bl && Region.binds .any e

def backEdges : Nat → List Oper → Bool
  | _, [] => true
  | k, o :: r => (o.after.toList.all fun e => !Region.binds .any e || Nat.blt e.on k) && backEdges (k + 1) r

/-- one operation and those behind it (from number m on): each waits for it (bl: those that do), or may change places with it -/
def oneOk (ops : Array Oper) (o : Oper) (t : Tch) : Nat → List Nat → List Oper → List Tch → Bool
  | _, _, [], [] => true
  | m, bl, p :: r, s :: l => if waitsAny p bl then oneOk ops o t (m + 1) (m :: bl) r l else (o.apart ops p && t.indep s) && oneOk ops o t (m + 1) bl r l
  | _, _, _, _ => false

def allOk (ops : Array Oper) : Nat → List Oper → List Tch → Bool
  | _, [], [] => true
  | i, o :: r, t :: l => oneOk ops o t (i + 1) [i] r l && allOk ops (i + 1) r l
  | _, _, _ => false

def drawOk (P : Program) (O : Orc) (ops : Array Oper) (idx : Nat) (fr : Fr) (h : Heap) : Bool :=
  Region.noSelect ops && backEdges 0 ops.toList && (match touches P O ops.toList ops.toList idx fr h with
    | some l => allOk ops 0 ops.toList l
    | none => false)

def runRegion (P : Program) (O : Orc) (ops : Array Oper) (draw : Bool) (fr : Fr) (h : Heap) : Option (Bool × Option V × Fr × Heap) :=
  let h0 := h ++ List.replicate (nMakes P ops.toList) .dead
  if draw then (if drawOk P O ops h.length fr h0 then (match runOps P O ops.toList ops.toList h.length fr h0 with
      | some (k, none, r) => some (k, none, r)
      | _ => none) else none)
  else runOps P O ops.toList ops.toList h.length fr h0

/-! ### the text's order -/

theorem appH_len {P : Program} {idx : Nat} {h : Heap} {e : TypeId} {s : Nat} {x : V} {n : Nat} {c : Blk} {k : Bool} {v : V} {h' : Heap} (hs : appH P idx h e s x n c = some (k, v, h')) : h'.length = h.length := by
  unfold appH at hs
  repeat' split at hs
  all_goals first
    | (simp only [reduceCtorEq] at hs; done)
    | (simp only [Option.some.injEq, Prod.mk.injEq] at hs; obtain ⟨_, _, rfl⟩ := hs; simp)

theorem stepN_len {P : Program} {idx : Nat} {g : Fm} {h : Heap} {op : Op} {k : Bool} {v : V} {h' : Heap} (hs : stepN P idx g h op = some (k, v, h')) : h'.length = h.length := by
  unfold stepN at hs
  split at hs
  · simp only [Option.some.injEq, Prod.mk.injEq] at hs; obtain ⟨_, _, rfl⟩ := hs; rfl
  · unfold stepH at hs
    repeat' split at hs
    all_goals first
      | (simp only [reduceCtorEq] at hs; done)
      | (simp only [Option.some.injEq, Prod.mk.injEq] at hs; obtain ⟨_, _, rfl⟩ := hs; simp; done)
      | (rename_i hap; simp only [Option.some.injEq, Prod.mk.injEq] at hs; obtain ⟨_, hr⟩ := hs; subst hr; exact appH_len hap)

theorem stepO_len {P : Program} {O : Orc} {idx : Nat} {g : Fm} {h : Heap} {op : Op} {k : Bool} {fin : Fin} {h' : Heap} (hs : stepO P O idx g h op = some (k, fin, h')) : h.length ≤ h'.length := by
  unfold stepO at hs
  split at hs
  · split at hs <;> try simp only [reduceCtorEq] at hs
    split at hs
    · simp only [Option.some.injEq, Prod.mk.injEq] at hs; obtain ⟨_, _, rfl⟩ := hs; exact Nat.le_refl _
    · unfold callO at hs
      simp only at hs
      repeat' split at hs
      all_goals first
        | (simp only [reduceCtorEq] at hs; done)
        | (simp only [Option.some.injEq, Prod.mk.injEq] at hs; obtain ⟨_, _, rfl⟩ := hs; simp [setAll_length]; done)
  · split at hs <;> simp only [Option.some.injEq, Prod.mk.injEq, reduceCtorEq] at hs
    obtain ⟨_, _, rfl⟩ := hs; exact Nat.le_refl _
  · obtain ⟨_, _, hN, _⟩ := asmRes_some hs
    exact Nat.le_of_eq (stepN_len hN).symm

theorem stepN_idx {P : Program} {i j : Nat} {g : Fm} {h : Heap} {op : Op} (hm : Op.makes P op = false) : stepN P i g h op = stepN P j g h op := by
  unfold stepN
  cases stepT P g op with
  | some _ => rfl
  | none =>
    simp only
    cases op with
    | alloc _ => simp [Op.makes] at hm
    | box _ _ => simp [Op.makes] at hm
    | buildSlice _ _ _ => simp [Op.makes] at hm
    | makeSlice _ _ _ => simp [Op.makes] at hm
    | convert src dst x =>
      simp only [stepH]
      simp only [Op.makes] at hm
      split at hm
      · cases hm
      · rename_i hn
        split
        · rename_i h1 h2 _; exact (hn _ h1 h2).elim
        · rfl
        · rfl
        · rfl
    | call c =>
      obtain ⟨cal, args, ts⟩ := c
      cases cal with
      | builtin b => cases b <;> first | rfl | simp [Op.makes] at hm
      | value _ => rfl
      | invoke _ _ => rfl
    | slice _ _ _ _ mx => cases mx <;> rfl
    | _ => rfl

theorem stepO_idx {P : Program} {O : Orc} {i j : Nat} {g : Fm} {h : Heap} {op : Op} (hm : Op.makes P op = false) : stepO P O i g h op = stepO P O j g h op := by
  have e := stepN_idx (i := i) (j := j) (g := g) (h := h) hm
  cases op with
  | call c =>
    obtain ⟨cal, args, ts⟩ := c
    cases cal with
    | value _ => rfl
    | builtin _ => simp only [stepO, e]
    | invoke _ _ => simp only [stepO, e]
  | panic _ => rfl
  | _ => simp only [stepO, e]

theorem dead_of_free {ρ : Ren} {I : Nat → Prop} {w : World} {h : Heap} {F : Nat → Prop} (R : Rel ρ I w h F) {i : Nat} (hF : F i) (hi : i < h.length) : h[i]? = some .dead := by
  cases hb : h[i] with
  | dead => rw [List.getElem?_eq_getElem hi, hb]
  | _ =>
    obtain ⟨l, hl, _⟩ := R.blk i _ (List.getElem?_eq_getElem hi) (by rw [hb]; simp)
    rw [R.free i hF] at hl; cases hl

/-- the state of the machine is as the local state says -/
structure Sim (N : Nat) (ρ : Ren) (I : Nat → Prop) (w : World) (a : Act) (g : Fm) (h : Heap) (F : Nat → Prop) : Prop where
  size : a.tmps.size = N
  defers : a.defers = []
  fr : FRel I w ρ g a
  rel : Rel ρ I w h F

def dstIn (N : Nat) (o : Oper) : Bool := match o.dst with | some d => Nat.blt d N | none => true

theorem dstIn_iff {N : Nat} {o : Oper} (h : dstIn N o = true) : ∀ d, o.dst = some d → d < N := by
  intro d hd
  simp only [dstIn, hd, Nat.blt_eq] at h
  exact h

section
variable {P : Program} {O : Orc} {N : Nat}

theorem want_sound {ops : Array Oper} {g : Fm} {I : Nat → Prop} {w : World} {ρ : Ren} {a : Act} {o : Oper} {b : Bool} (F : FRel I w ρ g a) (hin : ∀ d, d ∈ ops.toList.filterMap (·.dst) → d < a.tmps.size) (h : wantV ops.toList g o = some b) :
    Region.wanted o (yielded ops a.tmps) = b := by
  unfold wantV at h
  unfold Region.wanted
  cases hg : o.guard with
  | none => simp only [hg, Option.some.injEq] at h; exact h
  | some q =>
    obtain ⟨j, want⟩ := q
    simp only [hg] at h ⊢
    split at h <;> try simp only [reduceCtorEq] at h
    rename_i oj hj
    split at h <;> try simp only [reduceCtorEq] at h
    rename_i d hd
    rw [Array.getElem?_toList] at hj
    have hdlt : d < a.tmps.size := hin d (List.mem_filterMap.2 ⟨oj, Array.mem_toList_iff.2 (Array.mem_of_getElem? hj), hd⟩)
    have ey : yielded ops a.tmps j = match a.tmps.getD d undef with | .bool b => some b | _ => none := by
      simp only [yielded, hj, hd, Option.bind_some]
      rw [Array.getElem?_eq_getElem hdlt]
      have e0 : a.tmps.getD d undef = a.tmps[d] := by simp [Array.getD, hdlt]
      rw [e0]
      cases a.tmps[d] <;> rfl
    split at h <;> simp only [Option.some.injEq, reduceCtorEq] at h
    · rename_i c hc
      have r := F d _ hc
      rw [ey]
      cases hv : a.tmps.getD d undef <;> rw [hv] at r <;> cases r
      simpa using h
    · rename_i c hc
      have r := F d _ hc
      rw [ey]
      cases hv : a.tmps.getD d undef <;> rw [hv] at r <;> cases r
      subst h; rfl

/-- the numbers for the blocks that the operations will make from here on -/
def Pend (P : Program) (l : List Oper) (idx : Nat) : Nat → Prop := fun i => idx ≤ i ∧ i < idx + nMakes P l

theorem runOps_sound (hO : OrcSound P O) {ops : Array Oper} (Q : Exit → Act → World → Prop)
    (hin : ∀ d, d ∈ ops.toList.filterMap (·.dst) → d < N) :
    ∀ (l pre : List Oper) (idx : Nat) (fr : Fr) (h : Heap) (ρ : Ren) (I : Nat → Prop) (w : World) (a : Act) (x : Option V) (fr' : Fr) (h' : Heap), ops.toList = pre ++ l →
      Sim N ρ I w a fr.get h (Pend P l idx) → idx + nMakes P l ≤ h.length → runOps P O ops.toList l idx fr h = some (true, x, fr', h') →
      (∀ ρ' I' w' a', x = none → Sim N ρ' I' w' a' fr'.get h' (fun _ => False) → Went ρ I w h ρ' I' w' h' → Q .normal a' w') →
      (∀ v ρ' I' w' a' v', x = some v → VRel I' w' ρ' v v' → Sim N ρ' I' w' a' fr'.get h' (fun _ => False) → Went ρ I w h ρ' I' w' h' → Q (.panic [{ v := v', recovered := false }]) a' w') →
      wpOps P ops Q (List.range' pre.length l.length) a w
  | [], pre, idx, fr, h, ρ, I, w, a, x, fr', h', _, S, _, hr, hq, _ => by
    simp only [runOps, Option.some.injEq, Prod.mk.injEq, true_and] at hr
    obtain ⟨rfl, rfl, rfl⟩ := hr
    simp only [List.length_nil, List.range'_zero, wpOps]
    exact hq ρ I w a rfl ⟨S.size, S.defers, S.fr, S.rel.weaken (fun _ h => h.elim)⟩ (.refl _ _ _ _)
  | o :: l, pre, idx, fr, h, ρ, I, w, a, x, fr', h', hops, S, hlen, hr, hq, hp => by
    have hget : ops[pre.length]? = some o := by rw [← Array.getElem?_toList, hops]; simp
    have hdst : ∀ d, o.dst = some d → d < N := fun d hd => hin d (List.mem_filterMap.2 ⟨o, by rw [hops]; simp, hd⟩)
    simp only [List.length_cons, List.range'_succ, wpOps, hget]
    simp only [runOps] at hr
    have hnm : nMakes P (o :: l) = if Op.makes P o.op then nMakes P l + 1 else nMakes P l := rfl
    have hidx' : nextIdx P o idx + nMakes P l = idx + nMakes P (o :: l) := by
      rw [hnm]; unfold nextIdx; split <;> omega
    have hidxle : idx ≤ nextIdx P o idx := by unfold nextIdx; split <;> omega
    split at hr <;> try simp only [reduceCtorEq] at hr
    rename_i b hw
    have hwant := want_sound (ops := ops) S.fr (by rw [S.size]; exact hin) hw
    rw [hwant]
    cases b with
    | false =>
      simp only [Bool.false_eq_true, if_false] at hr ⊢
      have ih := runOps_sound hO Q hin l (pre ++ [o]) (nextIdx P o idx) (putO o.dst (.tup []) fr) h ρ I w (a.put o.dst undef) x fr' h' (by simp [hops])
        ⟨by rw [put_size]; exact S.size, by rw [put_defers]; exact S.defers, by rw [get_putO]; exact S.fr.put (.tup _ _ _ (.nil _)) (fun d hd => by rw [S.size]; exact hdst d hd), S.rel.weaken (fun i hi => ⟨by have := hi.1; omega, by have := hi.2; omega⟩)⟩
        (by omega) hr hq hp
      simpa using ih
    | true =>
      simp only [if_true] at hr ⊢
      left
      -- the number at which the operation is looked at
      obtain ⟨id2, hid2, hmk, hleft⟩ : ∃ id2, stepO P O idx fr.get h o.op = stepO P O id2 fr.get h o.op ∧ (Op.makes P o.op = true → Pend P (o :: l) idx id2 ∧ h[id2]? = some .dead) ∧
          (∀ i, Pend P l (nextIdx P o idx) i → Pend P (o :: l) idx i ∧ i ≠ id2) := by
        cases hm : Op.makes P o.op with
        | true =>
          have hpos : 0 < nMakes P (o :: l) := by rw [hnm, if_pos hm]; omega
          have hP : Pend P (o :: l) idx idx := ⟨Nat.le_refl _, by omega⟩
          refine ⟨idx, rfl, fun _ => ⟨hP, dead_of_free S.rel hP (by omega)⟩, fun i hi => ?_⟩
          have hn : nextIdx P o idx = idx + 1 := by simp [nextIdx, hm]
          obtain ⟨h1, h2⟩ := hi
          rw [hn] at h1
          exact ⟨⟨by omega, by omega⟩, by omega⟩
        | false =>
          have hn : nextIdx P o idx = idx := by simp [nextIdx, hm]
          refine ⟨idx + nMakes P l, stepO_idx hm, by simp, fun i hi => ?_⟩
          obtain ⟨h1, h2⟩ := hi
          rw [hn] at h1 h2
          exact ⟨⟨h1, by omega⟩, by omega⟩
      rw [hid2] at hr
      split at hr <;> try simp only [reduceCtorEq] at hr
      · rename_i k v h1 hst
        split at hr <;> simp only [Option.some.injEq, Prod.mk.injEq, Bool.and_eq_true, reduceCtorEq] at hr
        rename_i k' q hrest
        obtain ⟨⟨rfl, rfl⟩, rfl⟩ := hr
        have hle := stepO_len hst
        refine stepO_wp hO S.rel S.fr hmk hst _ Q ?_ (fun _ e => by cases e)
        intro v' e w' ρ' I' u hu hR hW
        cases e
        have L := hW.le S.rel
        have ih := runOps_sound hO Q hin l (pre ++ [o]) (nextIdx P o idx) (putO o.dst v fr) h1 ρ' I' w' (a.put o.dst u) x fr' h' (by simp [hops])
          ⟨by rw [put_size]; exact S.size, by rw [put_defers]; exact S.defers, by rw [get_putO]; exact (S.fr.le L).put hu (fun d hd => by rw [S.size]; exact hdst d hd), hR.weaken (fun i hi => by
            obtain ⟨g1, g2⟩ := hleft i hi
            refine ⟨g1, g2, ?_⟩
            have := g1.2
            omega)⟩
          (by omega) hrest (fun ρ₂ I₂ w₂ a₂ e1 s1 w1 => hq ρ₂ I₂ w₂ a₂ e1 s1 (hW.trans w1)) (fun v₂ ρ₂ I₂ w₂ a₂ v₃ e1 r1 s1 w1 => hp v₂ ρ₂ I₂ w₂ a₂ v₃ e1 r1 s1 (hW.trans w1))
        simpa using ih
      · rename_i k v h1 hst
        simp only [Option.some.injEq, Prod.mk.injEq] at hr
        obtain ⟨rfl, rfl, rfl, rfl⟩ := hr
        refine stepO_wp hO S.rel S.fr hmk hst _ Q (fun _ e => by cases e) ?_
        intro v' e w' ρ' I' u hu hR hW
        cases e
        exact hp v ρ' I' w' a u rfl hu ⟨S.size, S.defers, S.fr.le (hW.le S.rel), hR.weaken (fun _ h => h.elim)⟩ hW

end
end Go.Lh
