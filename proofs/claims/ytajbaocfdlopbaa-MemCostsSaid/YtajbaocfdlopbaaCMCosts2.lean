/- The functions that this law reaches: what each comes to. -/
import Derived.Test.YtajbaocfdlopbaaCMCosts1
set_option linter.unusedSimpArgs false
set_option linter.unusedVariables false
section
open Go Go.Lh
namespace Go.Proofs.Ytajbaocfdlopbaa.K
noncomputable section
set_option maxRecDepth 100000
/-- a small number -/
theorem isSmall_mk (x : BitVec 64) : isSmall ⟨BitVec.ofInt 64 0, BitVec.ofInt 64 0, BitVec.ofInt 64 0, x⟩ = true := by
  show (BitVec.ofInt 64 0 ||| BitVec.ofInt 64 0 ||| BitVec.ofInt 64 0 == BitVec.ofInt 64 0) = true
  decide
theorem n_mk (x : BitVec 64) : (W4.mk (BitVec.ofInt 64 0) (BitVec.ofInt 64 0) (BitVec.ofInt 64 0) x).n = x.toNat := by
  show 2 ^ 192 * (BitVec.ofInt 64 0).toNat + (2 ^ 128 * (BitVec.ofInt 64 0).toNat + (2 ^ 64 * (BitVec.ofInt 64 0).toNat + x.toNat)) = _
  have : (BitVec.ofInt 64 0).toNat = 0 := rfl
  rw [this]; omega
theorem haveV_n {L : Nat} (h : L < 9223372036854775808) : (haveV L).toNat = L / 32 := by
  unfold haveV
  rw [show ((L : Int).tdiv 32) = ((L / 32 : Nat) : Int) from rfl, wrapI_nat (by omega), toNat_ofInt_nat (by omega)]
theorem wrdV_n {a s : BitVec 64} (h : a.toNat + s.toNat ≤ 16777216) : (wrdV a s).toNat = upN a.toNat s.toNat / 32 := by
  have c32 : (BitVec.ofInt 64 32).toNat = 32 := rfl
  have c1 : (BitVec.ofInt 64 1).toNat = 1 := rfl
  have e : (a + s + BitVec.ofInt 64 32 - BitVec.ofInt 64 1).toNat = a.toNat + s.toNat + 31 := by
    rw [BitVec.toNat_sub, BitVec.toNat_add, BitVec.toNat_add, c32, c1]; omega
  rw [wrdV, BitVec.toNat_udiv, e, c32, upN]; omega
/-- what it costs is what it comes to, less what it came to -/
theorem needC_grow {B : List (BitVec 8)} {a s : BitVec 64} (h : a.toNat + s.toNat ≤ 16777216) (hs : 0 < s.toNat) (hB : B.length < 16777248) (h32 : B.length % 32 = 0) :
    needC B.length ⟨BitVec.ofInt 64 0, BitVec.ofInt 64 0, BitVec.ofInt 64 0, a⟩ ⟨BitVec.ofInt 64 0, BitVec.ofInt 64 0, BitVec.ofInt 64 0, s⟩ = costV (haveV (growL B a s).length) - costV (haveV B.length) := by
  unfold needC needOk
  rw [n_mk, isSmall_mk, isSmall_mk, decide_eq_false (show ¬ s.toNat = 0 by omega), show fitB (W4.mk (BitVec.ofInt 64 0) (BitVec.ofInt 64 0) (BitVec.ofInt 64 0) a).d (W4.mk (BitVec.ofInt 64 0) (BitVec.ofInt 64 0) (BitVec.ofInt 64 0) s).d = true from fitB_iff.2 h]
  simp only [cond_false, Bool.and_self, cond_true]
  congr 2
  have hu : upN a.toNat s.toNat % 32 = 0 := by unfold upN; omega
  have hu2 : upN a.toNat s.toNat ≤ 16777247 := by unfold upN; omega
  apply BitVec.eq_of_toNat_eq
  have hL : (growL B a s).length < 9223372036854775808 := by rw [growL_length]; split <;> omega
  rw [haveV_n hL, growL_length]
  by_cases hg : isGrow B.length a s = true
  · have := (isGrow_iff.1 hg).2.2
    rw [if_pos hg, if_neg, wrdV_n h]
    rw [BitVec.lt_def, wrdV_n h, haveV_n (by omega)]; omega
  · have : ¬ B.length < upN a.toNat s.toNat := fun e => hg (isGrow_iff.2 ⟨h, hs, e⟩)
    rw [if_neg hg]
    split
    · rw [haveV_n (by omega)]
    · rename_i h2
      rw [BitVec.lt_def, wrdV_n h, haveV_n (by omega)] at h2
      rw [wrdV_n h]; omega
theorem growL_mod {B : List (BitVec 8)} {a s : BitVec 64} (h32 : B.length % 32 = 0) : (growL B a s).length % 32 = 0 := by
  rw [growL_length]; split
  · unfold upN; omega
  · exact h32
theorem growL_lt {B : List (BitVec 8)} {a s : BitVec 64} (h : B.length < 16777248) : (growL B a s).length < 16777248 := by
  rw [growL_length]; split
  · rename_i hg; have := (isGrow_iff.1 hg).1; unfold upN; omega
  · exact h
theorem growL_same {B : List (BitVec 8)} {a s : BitVec 64} (h : isGrow B.length a s = false) : growL B a s = B := by unfold growL; rw [h]; rfl
theorem growL_ge' {B : List (BitVec 8)} {a s : BitVec 64} (h : a.toNat + s.toNat ≤ 16777216) (hs : 0 < s.toNat) : upN a.toNat s.toNat ≤ (growL B a s).length := by
  rw [growL_length]; split
  · exact Nat.le_refl _
  · rename_i hg
    have : ¬ B.length < upN a.toNat s.toNat := fun e => hg (isGrow_iff.2 ⟨h, hs, e⟩)
    omega
theorem growL_mono {B : List (BitVec 8)} {a s : BitVec 64} : B.length ≤ (growL B a s).length := by
  rw [growL_length]; split
  · rename_i hg; exact Nat.le_of_lt (isGrow_iff.1 hg).2.2
  · exact Nat.le_refl _
theorem nat16 (x : BitVec 16) : (BitVec.setWidth 64 x).toNat < 65536 := by
  rw [BitVec.toNat_setWidth]; have := x.isLt; omega
theorem nat8s (x : BitVec 8) : (BitVec.setWidth 64 x + BitVec.ofInt 64 1).toNat = x.toNat + 1 := by
  have c1 : (BitVec.ofInt 64 1).toNat = 1 := rfl
  rw [BitVec.toNat_add, BitVec.toNat_setWidth, c1]; have := x.isLt; omega
theorem needC_0 {B : List (BitVec 8)} {a s : BitVec 64} (h : a.toNat + s.toNat ≤ 16777216) (hs : 0 < s.toNat) (hB : B.length < 16777248) (h32 : B.length % 32 = 0) (hu : upN a.toNat s.toNat ≤ B.length) :
    needC B.length ⟨BitVec.ofInt 64 0, BitVec.ofInt 64 0, BitVec.ofInt 64 0, a⟩ ⟨BitVec.ofInt 64 0, BitVec.ofInt 64 0, BitVec.ofInt 64 0, s⟩ = BitVec.ofInt 64 0 := by
  rw [needC_grow h hs hB h32]
  have : isGrow B.length a s = false := by rw [Bool.eq_false_iff, Ne, isGrow_iff]; omega
  rw [growL_same this, BitVec.sub_self]; rfl
theorem needB_t {a s : BitVec 64} (h : a.toNat + s.toNat ≤ 16777216) : needB ⟨BitVec.ofInt 64 0, BitVec.ofInt 64 0, BitVec.ofInt 64 0, a⟩ ⟨BitVec.ofInt 64 0, BitVec.ofInt 64 0, BitVec.ofInt 64 0, s⟩ = true := by
  unfold needB needOk
  rw [isSmall_mk, isSmall_mk, show fitB (W4.mk (BitVec.ofInt 64 0) (BitVec.ofInt 64 0) (BitVec.ofInt 64 0) a).d (W4.mk (BitVec.ofInt 64 0) (BitVec.ofInt 64 0) (BitVec.ofInt 64 0) s).d = true from fitB_iff.2 h]
  simp
theorem memCosts_fn (a b : BitVec 16) (n k : BitVec 8) : LFn Pr 4 [.u16 a, .u16 b, .u8 n, .u8 k] [] (.ret (.bool true)) [] := by
  refine fnT OAn_sound mixed (by kernel_rfl) LoopsOk.noneT (costs_x a b n k) ?_
  have ha := nat16 a
  have hb := nat16 b
  have hn := nat8s n
  have hk := nat8s k
  have ln := n.isLt
  have lk := k.isLt
  generalize BitVec.setWidth 64 a = x at *
  generalize BitVec.setWidth 64 b = y at *
  generalize BitVec.setWidth 64 n + BitVec.ofInt 64 1 = s at *
  generalize BitVec.setWidth 64 k + BitVec.ofInt 64 1 = t at *
  have f1 : x.toNat + s.toNat ≤ 16777216 := by omega
  have f2 : y.toNat + t.toNat ≤ 16777216 := by omega
  have g0 : isGrow 0 x s = true := isGrow_iff.2 ⟨f1, by omega, by have := upN_ge x.toNat s.toNat; omega⟩
  have l1 : (growL [] x s).length < 16777248 := growL_lt (by decide)
  have m1 : (growL [] x s).length % 32 = 0 := growL_mod rfl
  have u1 := growL_ge' (B := []) f1 (show 0 < s.toNat by omega)
  have c1 := needC_grow (B := []) f1 (show 0 < s.toNat by omega) (by decide) rfl
  have c2 := needC_grow f2 (show 0 < t.toNat by omega) l1 m1
  have l2 : (growL (growL [] x s) y t).length < 16777248 := growL_lt l1
  have m2 : (growL (growL [] x s) y t).length % 32 = 0 := growL_mod m1
  have mo := growL_mono (B := growL [] x s) (a := y) (s := t)
  have c3 := needC_0 f1 (show 0 < s.toNat by omega) l2 m2 (by omega)
  have z0 : costV (haveV ([] : List (BitVec 8)).length) = 0#64 := rfl
  rw [z0] at c1
  have hsum : needC 0 ⟨BitVec.ofInt 64 0, BitVec.ofInt 64 0, BitVec.ofInt 64 0, x⟩ ⟨BitVec.ofInt 64 0, BitVec.ofInt 64 0, BitVec.ofInt 64 0, s⟩ + needC (growL [] x s).length ⟨BitVec.ofInt 64 0, BitVec.ofInt 64 0, BitVec.ofInt 64 0, y⟩ ⟨BitVec.ofInt 64 0, BitVec.ofInt 64 0, BitVec.ofInt 64 0, t⟩ = costV (haveV (growL (growL [] x s) y t).length) := by
    rw [show needC 0 _ _ = needC ([] : List (BitVec 8)).length _ _ from rfl, c1, c2, BitVec.sub_zero, BitVec.add_comm, BitVec.sub_add_cancel]
  have hlt : ∀ L : List (BitVec 8), L.length < 16777248 → lenOk L.length L = true := fun L h => lenOk_iff.2 ⟨rfl, by omega⟩
  have o1 := hlt _ l1
  have o2 := hlt _ l2
  have hv : ∀ L : Nat, BitVec.ofInt 64 (wrapI .i64 ((L : Int).tdiv 32)) = haveV L := fun _ => rfl
  have n0 : okN 0 = true := okN_iff.2 (by decide)
  have n1 : okN (growL [] x s).length = true := okN_iff.2 (by omega)
  have n2 : okN (growL (growL [] x s) y t).length = true := okN_iff.2 (by omega)
  simp only [MS.n, hv, n0, n1, n2, g0, o1, o2, needB_t f1, needB_t f2, hsum, c3, wp_chk_true, wp_chk, wp_br, wp_leaf, ret_bool, Bool.and_true, Bool.true_and, Bool.and_self, beq_self_eq_true, and_true, true_and, true_implies, Bool.true_eq_false, false_implies, implies_true]
  intro h
  rw [growL_same h] at c3 ⊢
  rw [beq_self_eq_true, c3, beq_self_eq_true]
  exact ⟨fun _ h => (by cases h), fun h => (by cases h)⟩
end
end Go.Proofs.Ytajbaocfdlopbaa.K
end
