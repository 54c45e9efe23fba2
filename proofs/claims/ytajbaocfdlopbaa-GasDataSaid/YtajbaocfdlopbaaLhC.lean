/- Soundness of the operations on values. -/
import Derived.Test.YtajbaocfdlopbaaLhB
import GoSem.Dispatch
set_option linter.unusedSimpArgs false
set_option linter.unusedVariables false
namespace Go.Lh

theorem wrap_uns (k : IntKind) (hs : k.signed = false) (n : Int) : k.wrap n = n % (2 ^ k.bits : Int) := by
  simp [IntKind.wrap, hs]

theorem toNat_lt_int {w : Nat} (x : BitVec w) : (x.toNat : Int) < 2 ^ w := by
  have := x.isLt
  exact_mod_cast this

theorem wrap_toNat (k : IntKind) (hs : k.signed = false) (x : BitVec k.bits) : k.wrap (x.toNat : Int) = x.toNat := by
  rw [wrap_uns k hs]
  exact Int.emod_eq_of_lt (by omega) (toNat_lt_int x)

section
variable {P : Program} {w : World}

theorem binU_sound (k : IntKind) (hs : k.signed = false) (mk : BitVec k.bits → V) (op : BinOp) (t : TypeId) (x y : BitVec k.bits) (v : V)
    (hop : op ≠ .shl) (hop' : op ≠ .shr) (h : binU mk op x y = some (true, v)) :
    (∃ z, v = mk z ∧ (binOp op t (.int k x.toNat) (.int k y.toNat)).run P w = .ok (.int k z.toNat) w) ∨
    (∃ b, v = .bool b ∧ (binOp op t (.int k x.toNat) (.int k y.toNat)).run P w = .ok (.bool b) w) := by
  have ofInt_cast : ∀ z : BitVec k.bits, BitVec.ofInt k.bits (z.toNat : Int) = z := fun z => by
    apply BitVec.eq_of_toNat_eq
    rw [BitVec.toNat_ofInt]
    have := toNat_lt_int z
    rw [Int.emod_eq_of_lt (by omega) (by exact_mod_cast this)]
    simp
  cases op <;> simp only [binU, Option.some.injEq, Prod.mk.injEq, reduceCtorEq] at h
  all_goals first | exact absurd rfl hop | exact absurd rfl hop' | skip
  case add =>
    refine .inl ⟨_, h.2.symm, ?_⟩
    simp only [binOp, ne_eq, not_true, if_false, Op.intArith, Sem.run_pure, wrap_uns k hs]
    rw [BitVec.toNat_add]; push_cast; rfl
  case sub =>
    refine .inl ⟨_, h.2.symm, ?_⟩
    simp only [binOp, ne_eq, not_true, if_false, Op.intArith, Sem.run_pure, wrap_uns k hs]
    rw [BitVec.toNat_sub]
    have e : ((x.toNat : Int) - y.toNat) % (2 ^ k.bits : Int) = (((2 ^ k.bits - y.toNat + x.toNat) % 2 ^ k.bits : Nat) : Int) := by
      have hy := y.isLt
      rw [Int.natCast_emod, Int.natCast_add, Int.natCast_sub (by omega)]
      push_cast
      rw [show ((2 : Int) ^ k.bits - y.toNat + x.toNat) = (x.toNat - y.toNat) + (2 : Int) ^ k.bits from by omega, Int.add_emod_right]
    rw [e]
  case mul =>
    refine .inl ⟨_, h.2.symm, ?_⟩
    simp only [binOp, ne_eq, not_true, if_false, Op.intArith, Sem.run_pure, wrap_uns k hs]
    rw [BitVec.toNat_mul]; push_cast; rfl
  case quo =>
    obtain ⟨hy, hv⟩ := h
    refine .inl ⟨_, hv.symm, ?_⟩
    have hy0 : ¬ ((y.toNat : Int) = 0) := by
      intro e
      have : y = 0#k.bits := BitVec.eq_of_toNat_eq (by simpa using e)
      simp [this] at hy
    simp only [binOp, ne_eq, not_true, if_false, Op.intDiv, hy0, Sem.run_pure]
    have e : ((x.toNat : Int).tdiv y.toNat) = ((x / y).toNat : Int) := by
      rw [BitVec.toNat_udiv, Int.ofNat_tdiv]
    rw [e, wrap_toNat k hs]
  case rem =>
    obtain ⟨hy, hv⟩ := h
    refine .inl ⟨_, hv.symm, ?_⟩
    have hy0 : ¬ ((y.toNat : Int) = 0) := by
      intro e
      have : y = 0#k.bits := BitVec.eq_of_toNat_eq (by simpa using e)
      simp [this] at hy
    simp only [binOp, ne_eq, not_true, if_false, Op.intDiv, hy0, Sem.run_pure]
    have e : ((x.toNat : Int).tmod y.toNat) = ((x % y).toNat : Int) := by
      rw [BitVec.toNat_umod, Int.ofNat_tmod]
    rw [e]
  case and => exact .inl ⟨_, h.2.symm, by simp only [binOp, ne_eq, not_true, if_false, Op.intBits, Sem.run_pure, ofInt_cast, wrap_toNat k hs]⟩
  case or => exact .inl ⟨_, h.2.symm, by simp only [binOp, ne_eq, not_true, if_false, Op.intBits, Sem.run_pure, ofInt_cast, wrap_toNat k hs]⟩
  case xor => exact .inl ⟨_, h.2.symm, by simp only [binOp, ne_eq, not_true, if_false, Op.intBits, Sem.run_pure, ofInt_cast, wrap_toNat k hs]⟩
  case andNot => exact .inl ⟨_, h.2.symm, by simp only [binOp, ne_eq, not_true, if_false, Op.intBits, Sem.run_pure, ofInt_cast, wrap_toNat k hs]⟩
  case eql =>
    refine .inr ⟨_, h.2.symm, ?_⟩
    simp only [binOp, ne_eq, not_true, if_false, Op.intCmp, Sem.run_pure]
    have e : ((x.toNat : Int) == y.toNat) = (x == y) := by
      rw [Bool.eq_iff_iff]; simp only [beq_iff_eq, Int.natCast_inj]; exact BitVec.toNat_inj
    rw [e]
  case neq =>
    refine .inr ⟨_, h.2.symm, ?_⟩
    simp only [binOp, ne_eq, not_true, if_false, Op.intCmp, Sem.run_pure]
    have e : ((x.toNat : Int) != y.toNat) = (x != y) := by
      rw [Bool.eq_iff_iff]; simp only [bne_iff_ne, ne_eq, Int.natCast_inj]; rw [BitVec.toNat_inj]
    rw [e]
  all_goals
    refine .inr ⟨_, h.2.symm, ?_⟩
    simp only [binOp, ne_eq, not_true, if_false, Op.intCmp, Sem.run_pure]
    simp only [BitVec.lt_def, BitVec.le_def, Int.ofNat_lt, Int.ofNat_le, gt_iff_lt, ge_iff_le]

theorem binI_sound (k : IntKind) (op : BinOp) (t : TypeId) (x y : Int) (v : V)
    (h : binI k op x y = some (true, v)) :
    (∃ z, v = .int k z ∧ (binOp op t (.int k x) (.int k y)).run P w = .ok (.int k z) w) ∨
    (∃ b, v = .bool b ∧ (binOp op t (.int k x) (.int k y)).run P w = .ok (.bool b) w) := by
  cases op <;> simp only [binI, Option.some.injEq, Prod.mk.injEq, reduceCtorEq, Bool.not_eq_true', decide_eq_false_iff_not, true_and] at h
  case quo => exact .inl ⟨_, h.2.symm, by simp only [binOp, ne_eq, not_true, if_false, Op.intDiv, h.1, Sem.run_pure, wrapI]⟩
  case rem => exact .inl ⟨_, h.2.symm, by simp only [binOp, ne_eq, not_true, if_false, Op.intDiv, h.1, Sem.run_pure]⟩
  case add => exact .inl ⟨_, h.symm, by simp only [binOp, ne_eq, not_true, if_false, Op.intArith, Sem.run_pure, wrapI]⟩
  case sub => exact .inl ⟨_, h.symm, by simp only [binOp, ne_eq, not_true, if_false, Op.intArith, Sem.run_pure, wrapI]⟩
  case mul => exact .inl ⟨_, h.symm, by simp only [binOp, ne_eq, not_true, if_false, Op.intArith, Sem.run_pure, wrapI]⟩
  case and => exact .inl ⟨_, h.symm, by simp only [binOp, ne_eq, not_true, if_false, Op.intBits, Sem.run_pure, wrapI]⟩
  case or => exact .inl ⟨_, h.symm, by simp only [binOp, ne_eq, not_true, if_false, Op.intBits, Sem.run_pure, wrapI]⟩
  case xor => exact .inl ⟨_, h.symm, by simp only [binOp, ne_eq, not_true, if_false, Op.intBits, Sem.run_pure, wrapI]⟩
  case andNot => exact .inl ⟨_, h.symm, by simp only [binOp, ne_eq, not_true, if_false, Op.intBits, Sem.run_pure, wrapI]⟩
  all_goals exact .inr ⟨_, h.symm, by simp only [binOp, ne_eq, not_true, if_false, Op.intCmp, Sem.run_pure]⟩

theorem shl_toNat (n m : Nat) (x : BitVec m) : ((x.toNat : Int) * 2 ^ (min n m)) % (2 ^ m : Int) = ((x <<< n).toNat : Int) := by
  rw [BitVec.toNat_shiftLeft, Nat.shiftLeft_eq]
  rcases Nat.le_total n m with h | h
  · rw [Nat.min_eq_left h]; push_cast; rfl
  · rw [Nat.min_eq_right h, Int.mul_emod_left]
    obtain ⟨d, rfl⟩ := Nat.exists_eq_add_of_le h
    rw [Nat.pow_add, ← Nat.mul_assoc, Nat.mul_right_comm, Nat.mul_mod_left]; rfl

theorem shr_toNat (n m : Nat) (x : BitVec m) : (x.toNat : Int).fdiv (2 ^ (min n m)) = ((x >>> n).toNat : Int) := by
  rw [BitVec.toNat_ushiftRight, Nat.shiftRight_eq_div_pow]
  have e : ∀ k : Nat, (x.toNat : Int).fdiv (2 ^ k) = ((x.toNat / 2 ^ k : Nat) : Int) := fun k => by
    rw [Int.fdiv_eq_ediv_of_nonneg _ (by exact Int.le_of_lt (Int.pow_pos (by omega)))]; push_cast; rfl
  rw [e]
  rcases Nat.le_total n m with h | h
  · rw [Nat.min_eq_left h]
  · rw [Nat.min_eq_right h, Nat.div_eq_of_lt x.isLt, Nat.div_eq_of_lt (Nat.lt_of_lt_of_le x.isLt (Nat.pow_le_pow_right (by omega) h))]

end
end Go.Lh
