/- Code: what it does to the local state. -/
import Derived.Test.YtajbaocfdlopbaaLhY
set_option linter.unusedSimpArgs false
set_option linter.unusedVariables false
namespace Go.Lh

inductive X where
  | normal
  | exit (id : Nat)
  | ret
  | pan (v : V)

def loopN : Nat → (Fr → Heap → Option (Bool × X × Fr × Heap)) → Fr → Heap → Option (Bool × X × Fr × Heap)
  | 0, _, _, _ => none
  | n + 1, f, fr, h => match f fr h with
    | some (k, .normal, fr', h') => (match loopN n f fr' h' with
      | some (k', r) => some (k && k', r)
      | none => none)
    | r => r

/-- what is known of loops, by the first region's number in each -/
abbrev Loops := Nat → Fr → Heap → Option (Bool × X × Fr × Heap)
def noLoops : Loops := fun _ _ _ => none

def headId : Code → Option Nat
  | .region id _ _ => some id
  | .seq a b => (match headId a with | some i => some i | none => headId b)
  | .cond _ a b => (match headId a with | some i => some i | none => headId b)
  | .block _ c => headId c
  | .loop c => headId c
  | _ => none

def headNo (c : Code) : Nat := match headId c with | some i => i | none => 0

def loopsOf : Code → List Code
  | .seq a b => loopsOf a ++ loopsOf b
  | .cond _ a b => loopsOf a ++ loopsOf b
  | .block _ c => loopsOf c
  | .loop c => c :: loopsOf c
  | _ => []

/-- which way a branch at a slot is taken, where the caller of 'exec' says so -/
def decOf : List (Nat × Bool) → Operand → Option Bool
  | [], _ => none
  | (i, b) :: r, .tmp t => if Nat.beq i t then some b else decOf r (.tmp t)
  | _, _ => none

def execD (P : Program) (O : Orc) (L : Loops) (dec : List (Nat × Bool)) (fuel : Nat) : Code → Fr → Heap → Option (Bool × X × Fr × Heap)
  | .skip, fr, h => some (true, .normal, fr, h)
  | .region _ ops draw, fr, h => (match runRegion P O ops draw fr h with
    | some (k, none, fr', h') => some (k, .normal, fr', h')
    | some (k, some v, fr', h') => some (k, .pan v, fr', h')
    | none => none)
  | .seq a b, fr, h => (match execD P O L dec fuel a fr h with
    | some (k, .normal, fr', h') => (match execD P O L dec fuel b fr' h' with
      | some (k', r) => some (k && k', r)
      | none => none)
    | r => r)
  | .cond c x y, fr, h => (match opnd fr.get c with
    | some (.bool t) => (match decOf dec c with
      | some b => (match (if b then execD P O L dec fuel x fr h else execD P O L dec fuel y fr h) with
        | some (k, r) => some ((if b then t else !t) && k, r)
        | none => none)
      | none => if t then execD P O L dec fuel x fr h else execD P O L dec fuel y fr h)
    | _ => none)
  | .block id c, fr, h => (match execD P O L dec fuel c fr h with
    | some (k, .exit id', r) => if Nat.beq id' id then some (k, .normal, r) else some (k, .exit id', r)
    | r => r)
  | .loop c, fr, h => (match L (headNo c) fr h with
    | some r => some r
    | none => loopN fuel (execD P O L dec fuel c) fr h)
  | .exit id, fr, h => some (true, .exit id, fr, h)
  | .label _, fr, h => some (true, .normal, fr, h)
  | .ret, fr, h => some (true, .ret, fr, h)
  | _, _, _ => none

def exec (P : Program) (O : Orc) (L : Loops) (fuel : Nat) : Code → Fr → Heap → Option (Bool × X × Fr × Heap) := execD P O L [] fuel

def dstsIn (N : Nat) : Code → Bool
  | .region _ ops _ => ops.toList.all (dstIn N)
  | .seq a b => dstsIn N a && dstsIn N b
  | .cond _ a b => dstsIn N a && dstsIn N b
  | .block _ c => dstsIn N c
  | .loop c => dstsIn N c
  | _ => true

structure WentN (n0 : Nat) (ρ : Ren) (I : Nat → Prop) (w : World) (h : Heap) (ρ' : Ren) (I' : Nat → Prop) (w' : World) (h' : Heap) : Prop where
  ren : ∀ i l, i < n0 → ρ i = some l → ρ' i = some l
  imm : ∀ b, I b → I' b
  os : w'.os = w.os
  tape : w'.tape = w.tape
  output : w'.output = w.output
  size : w.heap.size ≤ w'.heap.size
  keep : ∀ b, b < w.heap.size → ¬ Own ρ h b → w'.heap[b]? = w.heap[b]?
  own : ∀ b, Own ρ' h' b → Own ρ h b ∨ w.heap.size ≤ b
  fresh : ∀ b, I' b → I b ∨ Own ρ h b ∨ w.heap.size ≤ b

theorem Went.toN {n0 : Nat} {ρ ρ' : Ren} {I I' : Nat → Prop} {w w' : World} {h h' : Heap} (a : Went ρ I w h ρ' I' w' h') : WentN n0 ρ I w h ρ' I' w' h' :=
  ⟨fun i l _ => a.ren i l, a.imm, a.os, a.tape, a.output, a.size, a.keep, a.own, a.fresh⟩

theorem WentN.trans {n0 : Nat} {ρ₁ ρ₂ ρ₃ : Ren} {I₁ I₂ I₃ : Nat → Prop} {w₁ w₂ w₃ : World} {h₁ h₂ h₃ : Heap} (a : WentN n0 ρ₁ I₁ w₁ h₁ ρ₂ I₂ w₂ h₂) (b : WentN n0 ρ₂ I₂ w₂ h₂ ρ₃ I₃ w₃ h₃) : WentN n0 ρ₁ I₁ w₁ h₁ ρ₃ I₃ w₃ h₃ where
  ren i l hi h := b.ren i l hi (a.ren i l hi h)
  imm x h := b.imm x (a.imm x h)
  os := b.os.trans a.os
  tape := b.tape.trans a.tape
  output := b.output.trans a.output
  size := Nat.le_trans a.size b.size
  keep x hx hn := by
    rw [b.keep x (Nat.lt_of_lt_of_le hx a.size) (fun ho => (a.own x ho).elim hn (fun h => by omega))]
    exact a.keep x hx hn
  own x hx := by
    rcases b.own x hx with h | h
    · exact a.own x h
    · exact .inr (Nat.le_trans a.size h)
  fresh x hx := by
    rcases b.fresh x hx with h | h | h
    · exact a.fresh x h
    · rcases a.own x h with h | h
      · exact .inr (.inl h)
      · exact .inr (.inr h)
    · exact .inr (.inr (Nat.le_trans a.size h))

def ERel (I : Nat → Prop) (w : World) (ρ : Ren) : X → Exit → Prop
  | .normal, e => e = .normal
  | .exit id, e => e = .exit id
  | .ret, e => e = .ret
  | .pan v, e => ∃ v', VRel I w ρ v v' ∧ e = .panic [{ v := v', recovered := false }]

theorem ERel.le {I I' : Nat → Prop} {w w' : World} {ρ ρ' : Ren} (L : Le ρ I w ρ' I' w') {x : X} {e : Exit} (h : ERel I w ρ x e) : ERel I' w' ρ' x e := by
  cases x with
  | pan v => obtain ⟨v', h1, h2⟩ := h; exact ⟨v', h1.le L, h2⟩
  | _ => exact h

def Runs (P : Program) (N n0 : Nat) (c : Code) (fr : Fr) (h : Heap) (R : X → Fr → Heap → Prop) : Prop :=
  ∀ (Q : Exit → Act → World → Prop) (ρ : Ren) (I : Nat → Prop) (w : World) (a : Act), Sim N ρ I w a fr.get h (fun _ => False) →
    (∀ x fr' h' ρ' I' w' a' e, R x fr' h' → ERel I' w' ρ' x e → Sim N ρ' I' w' a' fr'.get h' (fun _ => False) → WentN n0 ρ I w h ρ' I' w' h' → Q e a' w') → c.wp P Q a w

def thenX (K : Fr → Heap → Prop) (R : X → Fr → Heap → Prop) : X → Fr → Heap → Prop
  | .normal, fr, h => K fr h
  | x, fr, h => R x fr h

def inBlockX (id : Nat) (R : X → Fr → Heap → Prop) : X → Fr → Heap → Prop
  | .exit id', fr, h => if id' = id then R .normal fr h else R (.exit id') fr h
  | x, fr, h => R x fr h

section
variable {P : Program} {O : Orc} {N n0 : Nat} {fr : Fr} {h : Heap} {R R' : X → Fr → Heap → Prop}

theorem Runs.mono {c : Code} (H : Runs P N n0 c fr h R) (hR : ∀ x fr h, R x fr h → R' x fr h) : Runs P N n0 c fr h R' :=
  fun Q ρ I w a S K => H Q ρ I w a S fun x fr' h' ρ' I' w' a' e r => K x fr' h' ρ' I' w' a' e (hR _ _ _ r)

theorem WentN.refl {n0 : Nat} {ρ : Ren} {I : Nat → Prop} {w : World} {h : Heap} : WentN n0 ρ I w h ρ I w h := (Went.refl ρ I w h).toN

theorem Runs.skip (H : R .normal fr h) : Runs P N n0 .skip fr h R :=
  fun Q ρ I w a S K => wp_skip (K _ _ _ _ _ _ _ _ H rfl S .refl)

theorem Runs.label {l : Nat} (H : R .normal fr h) : Runs P N n0 (.label l) fr h R :=
  fun Q ρ I w a S K => wp_label (K _ _ _ _ _ _ _ _ H rfl S .refl)

theorem Runs.exit {id : Nat} (H : R (.exit id) fr h) : Runs P N n0 (.exit id) fr h R :=
  fun Q ρ I w a S K => wp_exit (K _ _ _ _ _ _ _ _ H rfl S .refl)

theorem Runs.ret (H : R .ret fr h) : Runs P N n0 .ret fr h R :=
  fun Q ρ I w a S K => wp_ret (K _ _ _ _ _ _ _ _ H rfl S .refl)

theorem Runs.seq {c d : Code} (H : Runs P N n0 c fr h (thenX (fun fr h => Runs P N n0 d fr h R) R)) : Runs P N n0 (.seq c d) fr h R := by
  intro Q ρ I w a S K
  refine wp_seq (H _ ρ I w a S ?_)
  intro x fr' h' ρ' I' w' a' e r er S' W
  cases x with
  | normal =>
    cases er
    exact r Q ρ' I' w' a' S' fun x₂ fr₂ h₂ ρ₂ I₂ w₂ a₂ e₂ r₂ er₂ s₂ W₂ => K x₂ fr₂ h₂ ρ₂ I₂ w₂ a₂ e₂ r₂ er₂ s₂ (W.trans W₂)
  | exit id => cases er; exact K _ _ _ _ _ _ _ _ r rfl S' W
  | ret => cases er; exact K _ _ _ _ _ _ _ _ r rfl S' W
  | pan v => obtain ⟨v', hv, rfl⟩ := er; exact K _ _ _ _ _ _ _ _ r ⟨v', hv, rfl⟩ S' W

theorem Runs.cond {o : Operand} {x y : Code} {t : Bool} (ho : opnd fr.get o = some (.bool t)) (H : Runs P N n0 (if t then x else y) fr h R) : Runs P N n0 (.cond o x y) fr h R := by
  intro Q ρ I w a S K
  have r := opnd_sound S.fr ho
  cases hv : a.eval o <;> rw [hv] at r <;> cases r
  exact wp_cond hv (H Q ρ I w a S K)

theorem Runs.block {id : Nat} {c : Code} (H : Runs P N n0 c fr h (inBlockX id R)) : Runs P N n0 (.block id c) fr h R := by
  intro Q ρ I w a S K
  refine wp_block (H _ ρ I w a S ?_)
  intro x fr' h' ρ' I' w' a' e r er S' W
  cases x with
  | normal => cases er; exact K _ _ _ _ _ _ _ _ r rfl S' W
  | exit id' =>
    cases er
    simp only [inBlockX] at r
    simp only [Exit.inBlock]
    split
    · rename_i he; rw [if_pos he] at r; exact K _ _ _ _ _ _ _ _ r rfl S' W
    · rename_i he; rw [if_neg he] at r; exact K _ _ _ _ _ _ _ _ r rfl S' W
  | ret => cases er; exact K _ _ _ _ _ _ _ _ r rfl S' W
  | pan v => obtain ⟨v', hv, rfl⟩ := er; exact K _ _ _ _ _ _ _ _ r ⟨v', hv, rfl⟩ S' W

/-- another way to tell the state: some slots and blocks forgotten, the blocks beyond n0 renumbered -/
def Weaker (N n0 : Nat) (fr : Fr) (h : Heap) (fr' : Fr) (h' : Heap) : Prop :=
  ∀ (ρ : Ren) (I : Nat → Prop) (w : World) (a : Act), Sim N ρ I w a fr.get h (fun _ => False) → ∃ ρ', Sim N ρ' I w a fr'.get h' (fun _ => False) ∧ WentN n0 ρ I w h ρ' I w h'

theorem Weaker.refl : Weaker N n0 fr h fr h := fun ρ _ _ _ S => ⟨ρ, S, .refl⟩

theorem Weaker.trans {f₁ f₂ f₃ : Fr} {h₁ h₂ h₃ : Heap} (a : Weaker N n0 f₁ h₁ f₂ h₂) (b : Weaker N n0 f₂ h₂ f₃ h₃) : Weaker N n0 f₁ h₁ f₃ h₃ := fun ρ I w x S => by
  obtain ⟨ρ', s1, w1⟩ := a ρ I w x S
  obtain ⟨ρ₂, s2, w2⟩ := b ρ' I w x s1
  exact ⟨ρ₂, s2, w1.trans w2⟩

theorem Runs.weaken {c : Code} {fr' : Fr} {h' : Heap} (Wk : Weaker N n0 fr h fr' h') (H : Runs P N n0 c fr' h' R) : Runs P N n0 c fr h R := by
  intro Q ρ I w a S K
  obtain ⟨ρ', s1, w1⟩ := Wk ρ I w a S
  exact H Q ρ' I w a s1 fun x fr₂ h₂ ρ₂ I₂ w₂ a₂ e₂ r₂ er₂ s₂ W₂ => K x fr₂ h₂ ρ₂ I₂ w₂ a₂ e₂ r₂ er₂ s₂ (w1.trans W₂)

theorem least_of {p : Nat → Prop} (n : Nat) (h : p n) : ∃ m, p m ∧ ∀ k, p k → m ≤ k := by
  induction n using Nat.strongRecOn with
  | _ n ih =>
    by_cases e : ∃ k, k < n ∧ p k
    · obtain ⟨k, h1, h2⟩ := e; exact ih k h1 h2
    · exact ⟨n, h, fun k hk => Nat.le_of_not_lt fun hlt => e ⟨k, hlt, hk⟩⟩

open Classical in
noncomputable def leastN (p : Nat → Prop) : Nat := if h : ∃ m, p m ∧ ∀ k, p k → m ≤ k then h.choose else 0

theorem leastN_spec {p : Nat → Prop} {n : Nat} (h : p n) : p (leastN p) ∧ ∀ k, p k → leastN p ≤ k := by
  have e := least_of n h
  unfold leastN
  rw [dif_pos e]
  exact e.choose_spec

theorem wp_loop_idx {c : Code} {Q : Exit → Act → World → Prop} {a : Act} {w : World} {n : Nat} (I : Nat → Act → World → Prop) (h₀ : I n a w)
    (round : ∀ n a w, I n a w → c.wp P (Exit.then (fun a' w' => ∃ m, m < n ∧ I m a' w') Q) a w) : (Code.loop c).wp P Q a w := by
  refine wp_loop (fun a w => ∃ n, I n a w) (fun a w => leastN fun n => I n a w) ⟨n, h₀⟩ ?_
  rintro a w ⟨n, hn⟩
  obtain ⟨h1, h2⟩ := leastN_spec (p := fun n => I n a w) hn
  refine wp_mono (round _ a w h1) ?_
  intro e a' w' h
  cases e with
  | normal =>
    obtain ⟨m, hm, hI⟩ := h
    exact ⟨⟨m, hI⟩, Nat.lt_of_le_of_lt ((leastN_spec (p := fun n => I n a' w') hI).2 m hI) hm⟩
  | _ => exact h

/-- a loop: J holds at the head of each round, up to weakening; n falls -/
theorem Runs.loop {c : Code} (J : Nat → Fr → Heap → Prop) {n : Nat} (h0 : J n fr h)
    (round : ∀ n fr h, J n fr h → Runs P N n0 c fr h (thenX (fun fr' h' => ∃ m fr₂ h₂, m < n ∧ J m fr₂ h₂ ∧ Weaker N n0 fr' h' fr₂ h₂) R)) : Runs P N n0 (.loop c) fr h R := by
  intro Q ρ₀ I₀ w₀ a₀ S₀ K
  refine wp_loop_idx (fun n a w => ∃ fr₁ h₁ ρ₁ I₁, J n fr₁ h₁ ∧ Sim N ρ₁ I₁ w a fr₁.get h₁ (fun _ => False) ∧ WentN n0 ρ₀ I₀ w₀ h ρ₁ I₁ w h₁) ⟨fr, h, ρ₀, I₀, h0, S₀, .refl⟩ ?_
  rintro n a w ⟨fr₁, h₁, ρ₁, I₁, hJ, S₁, W₁⟩
  refine round n fr₁ h₁ hJ _ ρ₁ I₁ w a S₁ ?_
  intro x fr' h' ρ' I' w' a' e r er S' W
  cases x with
  | normal =>
    cases er
    obtain ⟨m, fr₂, h₂, hm, hJ₂, Wk⟩ := r
    obtain ⟨ρ₂, S₂, W₂⟩ := Wk ρ' I' w' a' S'
    exact ⟨m, hm, fr₂, h₂, ρ₂, I', hJ₂, S₂, (W₁.trans W).trans W₂⟩
  | exit id => cases er; exact K _ _ _ _ _ _ _ _ r rfl S' (W₁.trans W)
  | ret => cases er; exact K _ _ _ _ _ _ _ _ r rfl S' (W₁.trans W)
  | pan v => obtain ⟨v', hv, rfl⟩ := er; exact K _ _ _ _ _ _ _ _ r ⟨v', hv, rfl⟩ S' (W₁.trans W)

/-- an end, told in another way -/
def EndW (N n0 : Nat) (x : X) (fr : Fr) (h : Heap) : X → Fr → Heap → Prop := fun y f k => y = x ∧ match x with
  | .pan _ => f = fr ∧ k = h
  | _ => Weaker N n0 f k fr h

theorem EndW.rfl {x : X} : EndW N n0 x fr h x fr h := by
  refine ⟨.refl _, ?_⟩
  cases x with
  | pan _ => exact ⟨.refl _, .refl _⟩
  | _ => exact .refl

/-! ### runs by reckoning -/

/-- what is said of a loop is so -/
def LoopOk (P : Program) (N n0 : Nat) (L : Loops) (c : Code) : Prop :=
  ∀ fr h x fr' h', L (headNo c) fr h = some (true, x, fr', h') → Runs P N n0 (.loop c) fr h (EndW N n0 x fr' h')

theorem execD_sound (hO : OrcSound P O) (hm : P.follows .mixedOrders = true) {L : Loops} {dec : List (Nat × Bool)} {fuel : Nat} : ∀ (c : Code) (_ : ∀ d, d ∈ loopsOf c → LoopOk P N n0 L d) (fr : Fr) (h : Heap) (x : X) (fr' : Fr) (h' : Heap), dstsIn N c = true →
    execD P O L dec fuel c fr h = some (true, x, fr', h') → Runs P N n0 c fr h (EndW N n0 x fr' h') := by
  intro c
  induction c with
  | skip => intro hL fr h x fr' h' _ hx; simp only [execD, Option.some.injEq, Prod.mk.injEq, true_and] at hx; obtain ⟨rfl, rfl, rfl⟩ := hx; exact .skip .rfl
  | label l => intro hL fr h x fr' h' _ hx; simp only [execD, Option.some.injEq, Prod.mk.injEq, true_and] at hx; obtain ⟨rfl, rfl, rfl⟩ := hx; exact .label .rfl
  | exit id => intro hL fr h x fr' h' _ hx; simp only [execD, Option.some.injEq, Prod.mk.injEq, true_and] at hx; obtain ⟨rfl, rfl, rfl⟩ := hx; exact .exit .rfl
  | ret => intro hL fr h x fr' h' _ hx; simp only [execD, Option.some.injEq, Prod.mk.injEq, true_and] at hx; obtain ⟨rfl, rfl, rfl⟩ := hx; exact .ret .rfl
  | goto _ => intro hL fr h x fr' h' _ hx; simp [execD] at hx
  | refuse _ => intro hL fr h x fr' h' _ hx; simp [execD] at hx
  | scope _ _ => intro hL fr h x fr' h' _ hx; simp [execD] at hx
  | rangeFunc => intro hL fr h x fr' h' _ hx; simp [execD] at hx
  | region id ops draw =>
    intro hL fr h x fr' h' hd hx Q ρ I w a S K
    have hin : ∀ d, d ∈ ops.toList.filterMap (·.dst) → d < N := by
      intro d hd'
      obtain ⟨o, ho, hod⟩ := List.mem_filterMap.1 hd'
      exact dstIn_iff (List.all_eq_true.1 hd o ho) d hod
    simp only [execD] at hx
    split at hx <;> simp only [Option.some.injEq, Prod.mk.injEq, reduceCtorEq] at hx
    · rename_i k f1 h1 hr
      obtain ⟨rfl, rfl, rfl, rfl⟩ := hx
      exact runRegion_sound hO (fun _ => hm) hin S hr (fun ρ' I' w' a' _ s w1 => K .normal _ _ ρ' I' w' a' .normal .rfl rfl s w1.toN) (fun v ρ' I' w' a' v' e => by cases e)
    · rename_i k v f1 h1 hr
      obtain ⟨rfl, rfl, rfl, rfl⟩ := hx
      exact runRegion_sound hO (fun _ => hm) hin S hr (fun ρ' I' w' a' e => by cases e) (fun v ρ' I' w' a' v' e hv s w1 => by cases e; exact K (.pan _) _ _ ρ' I' w' a' _ .rfl ⟨v', hv, rfl⟩ s w1.toN)
  | seq a b iha ihb =>
    intro hL fr h x fr' h' hd hx
    simp only [dstsIn, Bool.and_eq_true] at hd
    simp only [execD] at hx
    refine .seq ?_
    split at hx
    · rename_i k f1 h1 ha
      split at hx <;> simp only [Option.some.injEq, Prod.mk.injEq, Bool.and_eq_true, reduceCtorEq] at hx
      rename_i k' r hb
      obtain ⟨⟨rfl, rfl⟩, rfl⟩ := hx
      refine (iha (fun d hd => hL d (by simp [loopsOf, hd])) _ _ _ _ _ hd.1 ha).mono ?_
      rintro x f k ⟨rfl, hw⟩
      exact (ihb (fun d hd => hL d (by simp [loopsOf, hd])) _ _ _ _ _ hd.2 hb).weaken hw
    · rename_i hne
      refine (iha (fun d hd => hL d (by simp [loopsOf, hd])) _ _ _ _ _ hd.1 hx).mono ?_
      rintro y f k ⟨rfl, hw⟩
      cases y with
      | normal => exact (hne _ _ _ hx).elim
      | exit _ => exact ⟨rfl, hw⟩
      | ret => exact ⟨rfl, hw⟩
      | pan _ => exact ⟨rfl, hw⟩
  | cond o a b iha ihb =>
    intro hL fr h x fr' h' hd hx
    simp only [dstsIn, Bool.and_eq_true] at hd
    simp only [execD] at hx
    split at hx <;> try simp only [reduceCtorEq] at hx
    rename_i t ho
    refine .cond ho ?_
    split at hx
    · rename_i b hb
      split at hx <;> simp only [Option.some.injEq, Prod.mk.injEq, Bool.and_eq_true, reduceCtorEq] at hx
      rename_i k r hr
      obtain ⟨⟨ht, rfl⟩, rfl⟩ := hx
      cases b with
      | true =>
        simp only [if_true] at ht hr; subst ht
        exact iha (fun d hd => hL d (by simp [loopsOf, hd])) _ _ _ _ _ hd.1 hr
      | false =>
        simp only [Bool.false_eq_true, if_false, Bool.not_eq_true'] at ht hr; subst ht
        exact ihb (fun d hd => hL d (by simp [loopsOf, hd])) _ _ _ _ _ hd.2 hr
    cases t with
    | true => exact iha (fun d hd => hL d (by simp [loopsOf, hd])) _ _ _ _ _ hd.1 hx
    | false => exact ihb (fun d hd => hL d (by simp [loopsOf, hd])) _ _ _ _ _ hd.2 hx
  | block id c ih =>
    intro hL fr h x fr' h' hd hx
    simp only [execD] at hx
    refine .block ?_
    split at hx
    · rename_i k id' r hc
      split at hx <;> simp only [Option.some.injEq, Prod.mk.injEq] at hx <;> obtain ⟨rfl, rfl, rfl⟩ := hx <;> refine (ih (fun d hd => hL d (by simp [loopsOf, hd])) _ _ _ _ _ hd hc).mono ?_ <;> rintro y f k ⟨rfl, hw⟩
      · rename_i he
        simp only [inBlockX]; rw [if_pos (Nat.eq_of_beq_eq_true he)]; exact ⟨.refl _, hw⟩
      · rename_i he
        simp only [inBlockX]; rw [if_neg (fun e => he (by rw [e]; exact Nat.beq_refl _))]; exact ⟨.refl _, hw⟩
    · rename_i hne
      refine (ih (fun d hd => hL d (by simp [loopsOf, hd])) _ _ _ _ _ hd hx).mono ?_
      rintro y f k ⟨rfl, hw⟩
      cases y with
      | exit _ => exact (hne _ _ _ hx).elim
      | normal => exact ⟨.refl _, hw⟩
      | ret => exact ⟨.refl _, hw⟩
      | pan _ => exact ⟨.refl _, hw⟩
  | loop c ih =>
    intro hL fr h x fr' h' hd hx
    simp only [execD] at hx
    split at hx
    · rename_i r hr
      simp only [Option.some.injEq] at hx
      subst hx
      exact hL c (by simp [loopsOf]) _ _ _ _ _ hr
    refine .loop (fun n f k => loopN n (execD P O L dec fuel c) f k = some (true, x, fr', h')) hx ?_
    intro n f k hn
    cases n with
    | zero => simp [loopN] at hn
    | succ n =>
      simp only [loopN] at hn
      split at hn
      · rename_i q f1 h1 hb
        split at hn <;> simp only [Option.some.injEq, Prod.mk.injEq, Bool.and_eq_true, reduceCtorEq] at hn
        rename_i k' r hrest
        obtain ⟨⟨rfl, rfl⟩, rfl⟩ := hn
        refine (ih (fun d hd => hL d (by simp [loopsOf, hd])) _ _ _ _ _ hd hb).mono ?_
        rintro y f k ⟨rfl, hw⟩
        exact ⟨n, _, _, Nat.lt_succ_self n, hrest, hw⟩
      · rename_i hne
        refine (ih (fun d hd => hL d (by simp [loopsOf, hd])) _ _ _ _ _ hd hn).mono ?_
        rintro y f k ⟨rfl, hw⟩
        cases y with
        | normal => exact (hne _ _ _ hn).elim
        | exit _ => exact ⟨.refl _, hw⟩
        | ret => exact ⟨.refl _, hw⟩
        | pan _ => exact ⟨.refl _, hw⟩

theorem exec_sound (hO : OrcSound P O) (hm : P.follows .mixedOrders = true) {L : Loops} {fuel : Nat} (c : Code) (hL : ∀ d, d ∈ loopsOf c → LoopOk P N n0 L d) (fr : Fr) (h : Heap) (x : X) (fr' : Fr) (h' : Heap) (hd : dstsIn N c = true)
    (hx : exec P O L fuel c fr h = some (true, x, fr', h')) : Runs P N n0 c fr h (EndW N n0 x fr' h') := execD_sound hO hm c hL fr h x fr' h' hd hx
end
end Go.Lh
