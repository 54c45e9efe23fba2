/- Loops that count; numbers. -/
import Derived.Test.YtajbaocfdlopbaaLhAB
set_option linter.unusedSimpArgs false
set_option linter.unusedVariables false
namespace Go.Lh
section
variable {P : Program} {O : Orc} {N n0 : Nat}

/-- the slots' blocks, in the slots' order -/
def rootsOf (fr : Fr) : List Nat → List Nat
  | [] => []
  | t :: r => (match fr.get t with | some v => refsV v | none => []) ++ rootsOf fr r

theorem Runs.count {c : Code} {x : X} {fr' : Fr} {h' : Heap} (S : Nat → Fr × Heap) (m : Nat) (hx : x ≠ .normal)
    (body : ∀ n, n < m → Runs P N n0 c (S n).1 (S n).2 (EndW N n0 .normal (S (n + 1)).1 (S (n + 1)).2))
    (last : Runs P N n0 c (S m).1 (S m).2 (EndW N n0 x fr' h')) : Runs P N n0 (.loop c) (S 0).1 (S 0).2 (EndW N n0 x fr' h') := by
  refine Runs.loop (fun k f h => ∃ i, i ≤ m ∧ k = m - i ∧ f = (S i).1 ∧ h = (S i).2) (n := m) ⟨0, by omega, by omega, rfl, rfl⟩ ?_
  rintro k f h ⟨i, hi, rfl, rfl, rfl⟩
  by_cases e : i = m
  · subst e
    refine last.mono ?_
    rintro y f k ⟨rfl, hw⟩
    cases y with
    | normal => exact (hx rfl).elim
    | exit _ => exact ⟨rfl, hw⟩
    | ret => exact ⟨rfl, hw⟩
    | pan _ => exact ⟨rfl, hw⟩
  · refine (body i (by omega)).mono ?_
    rintro y f k ⟨rfl, hw⟩
    exact ⟨m - (i + 1), _, _, by omega, ⟨i + 1, by omega, rfl, rfl, rfl⟩, hw⟩

/-- a loop whose rounds go through states that a measure orders -/
theorem Runs.rounds {α : Type} {c : Code} {R : X → Fr → Heap → Prop} (S : α → Fr × Heap) (I : α → Prop) (μ : α → Nat) (s : α) (hs : I s)
    (body : ∀ s, I s → (∃ s', I s' ∧ μ s' < μ s ∧ Runs P N n0 c (S s).1 (S s).2 (EndW N n0 .normal (S s').1 (S s').2)) ∨ (∃ x fr' h', x ≠ .normal ∧ Runs P N n0 c (S s).1 (S s).2 (EndW N n0 x fr' h') ∧ ∀ f k, EndW N n0 x fr' h' x f k → R x f k)) :
    Runs P N n0 (.loop c) (S s).1 (S s).2 R := by
  refine Runs.loop (fun k f h => ∃ i, I i ∧ k = μ i ∧ f = (S i).1 ∧ h = (S i).2) (n := μ s) ⟨s, hs, rfl, rfl, rfl⟩ ?_
  rintro k f h ⟨i, hi, rfl, rfl, rfl⟩
  rcases body i hi with ⟨s', h1, h2, h3⟩ | ⟨x, fr', h', h1, h2, h3⟩
  · refine h3.mono ?_
    rintro y f k ⟨rfl, hw⟩
    exact ⟨μ s', _, _, h2, ⟨s', h1, rfl, rfl, rfl⟩, hw⟩
  · refine h2.mono ?_
    rintro y f k hw
    obtain rfl := hw.1
    have := h3 f k hw
    cases y with
    | normal => exact (h1 rfl).elim
    | exit _ => exact this
    | ret => exact this
    | pan _ => exact this
end

theorem wrapI_in {x : Int} (h1 : -9223372036854775808 ≤ x) (h2 : x < 9223372036854775808) : wrapI .i64 x = x := by
  unfold wrapI
  simp only [IntKind.wrap]
  simp [IntKind.signed, IntKind.bits]
  omega
theorem wrapI_nat {n : Nat} (h : n < 9223372036854775808) : wrapI .i64 (n : Int) = n := wrapI_in (by omega) (by omega)
theorem tdiv_nat (a b : Nat) : Int.tdiv (a : Int) (b : Int) = ((a / b : Nat) : Int) := rfl
theorem tmod_nat (a b : Nat) : Int.tmod (a : Int) (b : Int) = ((a % b : Nat) : Int) := rfl
theorem tdiv_lit (a b : Nat) : Int.tdiv (a : Int) (no_index (OfNat.ofNat b)) = ((a / OfNat.ofNat b : Nat) : Int) := rfl
theorem tmod_lit (a b : Nat) : Int.tmod (a : Int) (no_index (OfNat.ofNat b)) = ((a % OfNat.ofNat b : Nat) : Int) := rfl
theorem mul_lit (a b : Nat) : (a : Int) * (no_index (OfNat.ofNat b)) = ((a * OfNat.ofNat b : Nat) : Int) := by simp
theorem add_lit (a b : Nat) : (a : Int) + (no_index (OfNat.ofNat b)) = ((a + OfNat.ofNat b : Nat) : Int) := by simp
end Go.Lh
