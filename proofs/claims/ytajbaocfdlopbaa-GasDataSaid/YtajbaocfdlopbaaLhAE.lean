/- Contracts by reading; functions walked in place by their numbers; loops told by summaries. -/
import Derived.Test.YtajbaocfdlopbaaLhAD
set_option linter.unusedSimpArgs false
set_option linter.unusedVariables false
namespace Go.Lh

abbrev Known := List (FuncId × (List V → Heap → Option (Bool × Fin × Heap)))
def lookK : Known → FuncId → Option (List V → Heap → Option (Bool × Fin × Heap))
  | [], _ => none
  | (i, g) :: r, f => if Nat.beq i f then some g else lookK r f

def KOk (P : Program) (K : Known) : Prop := ∀ f g, lookK K f = some g → Enters P f ∧ ∀ args h fin h', g args h = some (true, fin, h') → LFn P f args h fin h'

theorem KOk.nil {P : Program} : KOk P [] := fun f g h => by simp [lookK] at h
theorem KOk.cons {P : Program} {K : Known} {i : FuncId} {g : List V → Heap → Option (Bool × Fin × Heap)} (he : Enters P i) (hg : ∀ args h fin h', g args h = some (true, fin, h') → LFn P i args h fin h') (hK : KOk P K) : KOk P ((i, g) :: K) := by
  intro f g' h
  simp only [lookK] at h
  split at h
  · rename_i e
    have := Nat.eq_of_beq_eq_true e
    subst this
    cases h
    exact ⟨he, hg⟩
  · exact hK f g' h

theorem Enters.of {P : Program} {i : FuncId} {fn : Func} (hf : P.funcs[i]? = some fn) (h : (!fn.body.isNone && !(fn.name == "runtime.NumGoroutine")) = true) : Enters P i := by
  simp only [Bool.and_eq_true, Bool.not_eq_true'] at h
  exact ⟨fn, hf, h.1, h.2⟩

/-- may these functions be walked in place? -/
def insOk (P : Program) : List FuncId → Bool
  | [] => true
  | f :: r => (match P.funcs[f]? with | some fn => !fn.body.isNone && !(fn.name == "runtime.NumGoroutine") | none => false) && insOk P r

theorem insOk_iff {P : Program} : ∀ {ins : List FuncId}, insOk P ins = true → ∀ f, f ∈ ins → Enters P f
  | [], _, f, hf => by simp at hf
  | i :: r, h, f, hf => by
    simp only [insOk, Bool.and_eq_true] at h
    rcases List.mem_cons.1 hf with rfl | hf
    · have h1 := h.1
      split at h1
      · rename_i fn e
        exact Enters.of e h1
      · cases h1
    · exact insOk_iff h.2 f hf

/-- what is known of functions, and the others that are walked in place -/
def auto (P : Program) (ext : FuncId → List V → Option (Bool × V)) (K : Known) (ins : List FuncId) : Nat → Orc
  | 0 => ⟨fun _ _ _ => none, ext, []⟩
  | d + 1 => ⟨fun f args h => match lookK K f with
      | some g => g args h
      | none => if memN f ins then (match P.funcs[f]? with | some fn => execF P (auto P ext K ins d) noLoops 1000 fn args h | none => none) else none, ext, []⟩

def ExtOk (P : Program) (ext : FuncId → List V → Option (Bool × V)) : Prop := ∀ f args v, ext f args = some (true, v) → ∀ (I : Nat → Prop) (w : World) (ρ : Ren) (args' : List Value), VsRel I w ρ args args' →
    ∃ v', (callFunc f ⟨args'⟩).run P w = .ok (.value v') w ∧ VRel I w ρ v v'
def noExt : FuncId → List V → Option (Bool × V) := fun _ _ => none
theorem noExt_ok {P : Program} : ExtOk P noExt := fun _ _ _ h => by simp [noExt] at h

theorem auto_sound {P : Program} {ext : FuncId → List V → Option (Bool × V)} {K : Known} {ins : List FuncId} (hm : P.follows .mixedOrders = true) (hx : ExtOk P ext) (hK : KOk P K) (hi : insOk P ins = true) : ∀ d, OrcSound P (auto P ext K ins d)
  | 0 => ⟨fun _ _ _ _ _ h => by simp [auto] at h, fun _ _ _ _ h => by simp [auto] at h, hx⟩
  | d + 1 => by
    have ih := auto_sound hm hx hK hi d
    refine ⟨fun f args h fin h' hg => ?_, fun f args h r hg => ?_, hx⟩
    · simp only [auto] at hg
      split at hg
      · rename_i g e
        exact (hK f g e).2 _ _ _ _ hg
      · split at hg <;> try simp only [reduceCtorEq] at hg
        split at hg <;> try simp only [reduceCtorEq] at hg
        rename_i fn e
        exact execF_sound ih hm e (fun _ _ _ _ => LoopOk.none) hg
    · simp only [auto] at hg
      split at hg
      · rename_i g e
        exact (hK f g e).1
      · split at hg <;> try simp only [reduceCtorEq] at hg
        rename_i e
        exact insOk_iff hi f ((memN_iff _ _).1 e)

/-- a contract, by a reading of the arguments -/
def ct {α : Type} (read : List V → Heap → Option α) (ok : α → Bool) (fin : α → Fin) (h' : α → Heap) : List V → Heap → Option (Bool × Fin × Heap) :=
  fun args h => match read args h with | some a => some (ok a, fin a, h' a) | none => none

theorem ct_ok {P : Program} {i : FuncId} {α : Type} {read : List V → Heap → Option α} {ok : α → Bool} {fin : α → Fin} {h' : α → Heap} (A : α → List V) (H : α → Heap)
    (hr : ∀ args h a, read args h = some a → args = A a ∧ h = H a) (hf : ∀ a, ok a = true → LFn P i (A a) (H a) (fin a) (h' a)) :
    ∀ args h fin2 h2, ct read ok fin h' args h = some (true, fin2, h2) → LFn P i args h fin2 h2 := by
  intro args h fin2 h2 e
  simp only [ct] at e
  split at e <;> simp only [Option.some.injEq, Prod.mk.injEq, reduceCtorEq] at e
  rename_i a ha
  obtain ⟨h1, rfl, rfl⟩ := e
  obtain ⟨rfl, rfl⟩ := hr _ _ _ ha
  exact hf a h1

/-! ### loops -/

/-- the blocks that count, behind the first n0: those that the slots, or the first ones, come to -/
def rdOf (n0 : Nat) (fr : Fr) (h : Heap) (slots : List Nat) : List Nat := reach h 300 (rootsOf fr slots ++ refsUpto h n0) (upto n0)
def tellN (n0 : Nat) (slots : List Nat) (fr : Fr) (h : Heap) : Option (Fr × Heap) := tell n0 (rdOf n0 fr h slots) slots fr h

/-- code, and its end told by slots -/
def execN (P : Program) (O : Orc) (L : Loops) (dec : List (Nat × Bool)) (fuel : Nat) (n0 : Nat) (slots : List Nat) (c : Code) (fr : Fr) (h : Heap) : Option (Bool × X × Fr × Heap) :=
  match execD P O L dec fuel c fr h with
  | some (k, x, fr', h') => (match tellN n0 slots fr' h' with
    | some (f, g) => some (k, x, f, g)
    | none => none)
  | none => none

theorem execN_sound {P : Program} {O : Orc} {N n0 : Nat} {fr : Fr} {h : Heap} (hO : OrcSound P O) (hm : P.follows .mixedOrders = true) {L : Loops} {dec : List (Nat × Bool)} {fuel : Nat} {ts : List Nat} {c : Code} {x : X} {fr' : Fr} {h' : Heap}
    (hL : ∀ d, d ∈ loopsOf c → LoopOk P N n0 L d) (hd : dstsIn N c = true) (hp : ∀ v, x ≠ .pan v)
    (hx : execN P O L dec fuel n0 ts c fr h = some (true, x, fr', h')) : Runs P N n0 c fr h (EndW N n0 x fr' h') := by
  unfold execN at hx
  split at hx <;> try simp only [reduceCtorEq] at hx
  rename_i k y f g he
  split at hx <;> simp only [Option.some.injEq, Prod.mk.injEq, reduceCtorEq] at hx
  rename_i f2 g2 ht
  obtain ⟨rfl, rfl, rfl, rfl⟩ := hx
  refine (execD_sound hO hm c hL _ _ _ _ _ hd he).mono ?_
  rintro z f k ⟨rfl, hw⟩
  refine ⟨rfl, ?_⟩
  cases z with
  | pan _ => exact (hp _ rfl).elim
  | _ => exact Weaker.trans hw (tell_weaker ht)

def loopBody (fn : Func) (k : Nat) : Code := (loopsOf (fn.body.getD .skip)).getD k .skip

/-- what is known of a loop: its first region's number; the slots that count; what it comes to -/
structure Sm where
  id : Nat
  slots : List Nat
  f : Fr → Heap → Option (Bool × X × Fr × Heap)

def smL (n0 : Nat) : List Sm → Loops
  | [] => noLoops
  | s :: r => fun n fr h => if Nat.beq n s.id then (match tellN n0 s.slots fr h with | some (f, k) => s.f f k | none => none) else smL n0 r n fr h

def SmAt (P : Program) (fn : Func) (n0 : Nat) (s : Sm) (k : Nat) : Prop :=
  headNo (loopBody fn k) = s.id ∧ k < (loopsOf (fn.body.getD .skip)).length ∧ ∀ fr h x fr' h', s.f fr h = some (true, x, fr', h') → Runs P fn.ntmps n0 (.loop (loopBody fn k)) fr h (EndW fn.ntmps n0 x fr' h')

def LoopsOk (P : Program) (fn : Func) (n0 : Nat) (L : Loops) : Prop := ∀ c, fn.body = some c → ∀ d, d ∈ loopsOf c → LoopOk P fn.ntmps n0 L d
theorem LoopsOk.none {P : Program} {fn : Func} {n0 : Nat} : LoopsOk P fn n0 noLoops := fun _ _ _ _ => LoopOk.none

theorem smL_at {P : Program} {fn : Func} {n0 : Nat} (hnd : nodupN ((loopsOf (fn.body.getD .skip)).map headNo) = true) : ∀ {l : List (Sm × Nat)}, (∀ p, p ∈ l → SmAt P fn n0 p.1 p.2) → ∀ d, d ∈ loopsOf (fn.body.getD .skip) → LoopOk P fn.ntmps n0 (smL n0 (l.map (·.1))) d
  | [], _, d, _ => LoopOk.none
  | (s, k) :: r, H, d, hd => by
    intro fr h x fr' h' e
    simp only [List.map_cons, smL] at e
    split at e
    · rename_i hid
      have hid := Nat.eq_of_beq_eq_true hid
      obtain ⟨h1, h2, h3⟩ := H (s, k) (by simp)
      split at e <;> try simp only [reduceCtorEq] at e
      rename_i f g ht
      obtain ⟨j, hj, hjd⟩ := List.mem_iff_getElem.1 hd
      have hjk : j = k := by
        have hn := nodupN_iff hnd
        refine nodup_inj (x := s.id) hn ?_ ?_
        · rw [List.getElem?_map, List.getElem?_eq_getElem hj, hjd]; simp [hid]
        · have : loopBody fn k = (loopsOf (fn.body.getD .skip))[k] := by simp [loopBody, List.getD_eq_getElem?_getD, List.getElem?_eq_getElem h2]
          rw [List.getElem?_map, List.getElem?_eq_getElem h2, ← this]; simp only at h1; simp [h1]
      subst hjk
      have : loopBody fn j = d := by simp [loopBody, List.getD_eq_getElem?_getD, List.getElem?_eq_getElem h2, hjd]
      subst this
      exact Runs.weaken (tell_weaker ht) (h3 _ _ _ _ _ e)
    · exact smL_at hnd (fun p hp => H p (by simp [hp])) d hd fr h x fr' h' e

theorem LoopsOk.of {P : Program} {fn : Func} {n0 : Nat} (l : List (Sm × Nat)) (hnd : nodupN ((loopsOf (fn.body.getD .skip)).map headNo) = true) (H : ∀ p, p ∈ l → SmAt P fn n0 p.1 p.2) : LoopsOk P fn n0 (smL n0 (l.map (·.1))) := by
  intro c hc d hd
  have : fn.body.getD .skip = c := by rw [hc]; rfl
  rw [← this] at hd
  exact smL_at hnd H d hd

/-- the loops in a loop -/
theorem LoopsOk.inner {P : Program} {fn : Func} {n0 : Nat} {L : Loops} (H : LoopsOk P fn n0 L) {c : Code} (hs : ∀ d, d ∈ loopsOf c → d ∈ loopsOf (fn.body.getD .skip)) : ∀ d, d ∈ loopsOf c → LoopOk P fn.ntmps n0 L d := by
  intro d hd
  cases hb : fn.body with
  | none =>
    have := hs d hd
    rw [hb] at this
    simp [loopsOf] at this
  | some b => exact H b hb d (by have := hs d hd; rw [hb] at this; exact this)

def whS {α : Type} (id : Nat) (slots : List Nat) (read : Fr → Heap → Option α) (ok : α → Bool) (E : α → X × Fr × Heap) : Sm :=
  ⟨id, slots, fun fr h => match read fr h with | some a => some (ok a, E a) | none => none⟩

/-- a loop that goes from state to state -/
theorem whS_at {P : Program} {fn : Func} {n0 : Nat} {α : Type} {id : Nat} {slots : List Nat} {read : Fr → Heap → Option α} {ok : α → Bool} {E : α → X × Fr × Heap} {k : Nat} (S : α → Fr × Heap) (μ : α → Nat)
    (hid : headNo (loopBody fn k) = id) (hk : Nat.blt k (loopsOf (fn.body.getD .skip)).length = true) (hr : ∀ f g a, read f g = some a → (f, g) = S a)
    (round : ∀ a, ok a = true → (∃ a', ok a' = true ∧ μ a' < μ a ∧ E a' = E a ∧ Runs P fn.ntmps n0 (loopBody fn k) (S a).1 (S a).2 (EndW fn.ntmps n0 .normal (S a').1 (S a').2)) ∨
      ((E a).1 ≠ .normal ∧ Runs P fn.ntmps n0 (loopBody fn k) (S a).1 (S a).2 (EndW fn.ntmps n0 (E a).1 (E a).2.1 (E a).2.2))) : SmAt P fn n0 (whS id slots read ok E) k := by
  refine ⟨hid, Nat.le_of_ble_eq_true hk, ?_⟩
  intro fr h x fr' h' e
  simp only [whS] at e
  split at e <;> simp only [Option.some.injEq, Prod.mk.injEq, reduceCtorEq] at e
  rename_i a ha
  obtain ⟨h1, h2⟩ := e
  have hS := hr _ _ _ ha
  obtain ⟨e1, e2⟩ : fr = (S a).1 ∧ h = (S a).2 := by rw [← hS]; exact ⟨rfl, rfl⟩
  subst e1; subst e2
  refine Runs.rounds (fun a => S a) (fun b => ok b = true ∧ E b = E a) μ a ⟨h1, rfl⟩ ?_
  rintro b ⟨hb, hE⟩
  rcases round b hb with ⟨a', q1, q2, q3, q4⟩ | ⟨q1, q2⟩
  · exact .inl ⟨a', ⟨q1, q3.trans hE⟩, q2, q4⟩
  · refine .inr ⟨_, _, _, q1, q2, ?_⟩
    intro f g hw
    rw [hE, h2] at hw
    rw [hE, h2]
    exact hw

/-- a loop that counts -/
theorem cnt_at {P : Program} {fn : Func} {n0 : Nat} {α : Type} {id : Nat} {slots : List Nat} {read : Fr → Heap → Option α} {ok : α → Bool} {E : α → X × Fr × Heap} {k : Nat} (S : α → Nat → Fr × Heap) (m : α → Nat)
    (hid : headNo (loopBody fn k) = id) (hk : Nat.blt k (loopsOf (fn.body.getD .skip)).length = true) (hr : ∀ f g a, read f g = some a → (f, g) = S a 0) (hx : ∀ a, (E a).1 ≠ .normal)
    (body : ∀ a, ok a = true → ∀ n, n < m a → Runs P fn.ntmps n0 (loopBody fn k) (S a n).1 (S a n).2 (EndW fn.ntmps n0 .normal (S a (n + 1)).1 (S a (n + 1)).2))
    (last : ∀ a, ok a = true → Runs P fn.ntmps n0 (loopBody fn k) (S a (m a)).1 (S a (m a)).2 (EndW fn.ntmps n0 (E a).1 (E a).2.1 (E a).2.2)) : SmAt P fn n0 (whS id slots read ok E) k := by
  refine ⟨hid, Nat.le_of_ble_eq_true hk, ?_⟩
  intro fr h x fr' h' e
  simp only [whS] at e
  split at e <;> simp only [Option.some.injEq, Prod.mk.injEq, reduceCtorEq] at e
  rename_i a ha
  obtain ⟨h1, h2⟩ := e
  have hS := hr _ _ _ ha
  obtain ⟨e1, e2⟩ : fr = (S a 0).1 ∧ h = (S a 0).2 := by rw [← hS]; exact ⟨rfl, rfl⟩
  subst e1; subst e2
  have e3 : x = (E a).1 ∧ fr' = (E a).2.1 ∧ h' = (E a).2.2 := by rw [h2]; exact ⟨rfl, rfl, rfl⟩
  obtain ⟨rfl, rfl, rfl⟩ := e3
  exact Runs.count (S a) (m a) (hx a) (body a h1) (last a h1)

theorem loopsOf_trans {c d : Code} : ∀ {b : Code}, c ∈ loopsOf b → d ∈ loopsOf c → d ∈ loopsOf b := by
  intro b
  induction b with
  | seq x y ihx ihy => intro h hd; simp only [loopsOf, List.mem_append] at h ⊢; exact h.elim (fun h => .inl (ihx h hd)) (fun h => .inr (ihy h hd))
  | cond o x y ihx ihy => intro h hd; simp only [loopsOf, List.mem_append] at h ⊢; exact h.elim (fun h => .inl (ihx h hd)) (fun h => .inr (ihy h hd))
  | block i x ih => intro h hd; simp only [loopsOf] at h ⊢; exact ih h hd
  | loop x ih => intro h hd; simp only [loopsOf, List.mem_cons] at h ⊢; rcases h with rfl | h; exact .inr hd; exact .inr (ih h hd)
  | _ => intro h _; simp [loopsOf] at h

/-- the loops in a loop -/
theorem LoopsOk.innerAt {P : Program} {fn : Func} {n0 : Nat} {L : Loops} (H : LoopsOk P fn n0 L) (k : Nat) : ∀ d, d ∈ loopsOf (loopBody fn k) → LoopOk P fn.ntmps n0 L d := by
  refine LoopsOk.inner H fun d hd => ?_
  by_cases hk : k < (loopsOf (fn.body.getD .skip)).length
  · have : loopBody fn k ∈ loopsOf (fn.body.getD .skip) := by
      have e : loopBody fn k = (loopsOf (fn.body.getD .skip))[k] := by simp [loopBody, List.getD_eq_getElem?_getD, List.getElem?_eq_getElem hk]
      rw [e]; exact List.getElem_mem hk
    exact loopsOf_trans this hd
  · have : loopBody fn k = .skip := by simp [loopBody, List.getD_eq_getElem?_getD, List.getElem?_eq_none (Nat.le_of_not_lt hk)]
    rw [this] at hd
    simp [loopsOf] at hd

theorem stX {k : Bool} {x : X} {f f' : Fr} {h h' : Heap} (hk : k = true) (hf : f = f') (hh : h = h') : some (k, x, f, h) = some (true, x, f', h') := by rw [hk, hf, hh]
theorem stF {k : Bool} {f f' : Fin} {h h' : Heap} (hk : k = true) (hf : f = f') (hh : h = h') : some (k, f, h) = some (true, f', h') := by rw [hk, hf, hh]

theorem lit_mul (a b : Nat) : (no_index (OfNat.ofNat a) : Int) * (b : Int) = ((OfNat.ofNat a * b : Nat) : Int) := by simp
theorem lit_add (a b : Nat) : (no_index (OfNat.ofNat a) : Int) + (b : Int) = ((OfNat.ofNat a + b : Nat) : Int) := by simp
theorem add_nat (a b : Nat) : (a : Int) + (b : Int) = ((a + b : Nat) : Int) := by simp
theorem mul_nat (a b : Nat) : (a : Int) * (b : Int) = ((a * b : Nat) : Int) := by simp
theorem sub_lit (a b : Nat) (h : OfNat.ofNat b ≤ a) : (a : Int) - (no_index (OfNat.ofNat b)) = ((a - OfNat.ofNat b : Nat) : Int) := by
  have : (OfNat.ofNat b : Int) = ((OfNat.ofNat b : Nat) : Int) := rfl
  rw [this]; omega
theorem lit_sub (a b : Nat) (h : b ≤ OfNat.ofNat a) : (no_index (OfNat.ofNat a) : Int) - (b : Int) = ((OfNat.ofNat a - b : Nat) : Int) := by
  have : (OfNat.ofNat a : Int) = ((OfNat.ofNat a : Nat) : Int) := rfl
  rw [this]; omega
theorem sub_nat (a b : Nat) (h : b ≤ a) : (a : Int) - (b : Int) = ((a - b : Nat) : Int) := by omega
theorem toNat_lit (a : Nat) : (no_index (OfNat.ofNat a) : Int).toNat = OfNat.ofNat a := rfl
end Go.Lh
