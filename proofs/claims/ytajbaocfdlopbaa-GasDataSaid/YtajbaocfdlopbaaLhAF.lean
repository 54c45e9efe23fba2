/- Slices that come in. -/
import Derived.Test.YtajbaocfdlopbaaLhAE
import Derived.WideShapes
set_option linter.unusedSimpArgs false
set_option linter.unusedVariables false
namespace Go.Lh
theorem slice_spot {P : Program} {w : World} {r : Reach} {base : Nat} {t e : TypeId} {a : Addr} {len cap : Nat} (ht : P.underlying t = some (.slice e)) (h : Value.okWide P w r base t (.slice (some a) len cap)) : a.spot = none := by
  simp only [Value.okWide, ht, Cell.okWide, Cell.ok] at h
  exact h.2.2.2.1
theorem isl_u64 {w : World} {x : Addr} {len cap : Nat} {zs : List Int} (hs : x.spot = none) (hb : x.block < w.heap.size) (hl : len ≤ cap) (hz : zs.length = cap)
    (hc : ∀ i, i < zs.length → w.cell? (x.add i) = some (.int .u64 (zs.getD i 0))) (hw : ∀ n ∈ zs, (Lit.int .u64 n).wf = true) (ρ : Ren) :
    VRel (Old w) w ρ (.isl 1 len (fun i _ => .u64 (BitVec.ofInt 64 (zs.getD i 0)))) (.slice (some x) len cap) := by
  obtain ⟨b, o, sp⟩ := x
  simp only at hs hb
  subst hs
  refine .isl ρ 1 len _ b o cap (fun i _ => .int .u64 (zs.getD i 0)) hb hl ?_ ?_
  · intro i j hi hj
    have := hc i (by omega)
    rw [add_eq] at this
    rw [show o + i * 1 + j = o + i by omega]
    exact this
  · intro i j hi hj
    have hm : zs.getD i 0 ∈ zs := by
      rw [List.getD_eq_getElem?_getD, List.getElem?_eq_getElem (by omega)]
      exact List.getElem_mem _
    have := hw _ hm
    have h2 : 0 ≤ zs.getD i 0 ∧ zs.getD i 0 < 18446744073709551616 := by
      simp only [Lit.wf, IntKind.min, IntKind.max, IntKind.signed, IntKind.bits, Bool.and_eq_true, decide_eq_true_eq] at this
      simp at this
      simp only [List.getD_eq_getElem?_getD]
      omega
    have e : zs.getD i 0 = ((BitVec.ofInt 64 (zs.getD i 0)).toNat : Int) := by
      rw [BitVec.toNat_ofInt]
      have : (zs.getD i 0 % ((2 ^ 64 : Nat) : Int)) = zs.getD i 0 := Int.emod_eq_of_lt h2.1 (by have := h2.2; simpa using this)
      rw [this]; omega
    have r := VRel.u64 (I := Old w) (w := w) (fun _ => none) (BitVec.ofInt 64 (zs.getD i 0))
    rw [← e] at r
    exact r

theorem vu8 {I : Nat → Prop} {w : World} {ρ : Ren} {n : Int} (h : (Lit.int .u8 n).wf = true) : VRel I w ρ (.u8 (BitVec.ofInt 8 n)) (.int .u8 n) := by
  simp only [Lit.wf, IntKind.min, IntKind.max, IntKind.signed, IntKind.bits, Bool.and_eq_true, decide_eq_true_eq] at h
  simp at h
  have e : n = ((BitVec.ofInt 8 n).toNat : Int) := by
    rw [BitVec.toNat_ofInt, Int.toNat_of_nonneg (Int.emod_nonneg _ (by decide))]
    exact (Int.emod_eq_of_lt h.1 (by simp; omega)).symm
  have r := VRel.u8 (I := I) (w := w) ρ (BitVec.ofInt 8 n)
  rw [← e] at r
  exact r
theorem vu16 {I : Nat → Prop} {w : World} {ρ : Ren} {n : Int} (h : (Lit.int .u16 n).wf = true) : VRel I w ρ (.u16 (BitVec.ofInt 16 n)) (.int .u16 n) := by
  simp only [Lit.wf, IntKind.min, IntKind.max, IntKind.signed, IntKind.bits, Bool.and_eq_true, decide_eq_true_eq] at h
  simp at h
  have e : n = ((BitVec.ofInt 16 n).toNat : Int) := by
    rw [BitVec.toNat_ofInt, Int.toNat_of_nonneg (Int.emod_nonneg _ (by decide))]
    exact (Int.emod_eq_of_lt h.1 (by simp; omega)).symm
  have r := VRel.u16 (I := I) (w := w) ρ (BitVec.ofInt 16 n)
  rw [← e] at r
  exact r
theorem vu32 {I : Nat → Prop} {w : World} {ρ : Ren} {n : Int} (h : (Lit.int .u32 n).wf = true) : VRel I w ρ (.u32 (BitVec.ofInt 32 n)) (.int .u32 n) := by
  simp only [Lit.wf, IntKind.min, IntKind.max, IntKind.signed, IntKind.bits, Bool.and_eq_true, decide_eq_true_eq] at h
  simp at h
  have e : n = ((BitVec.ofInt 32 n).toNat : Int) := by
    rw [BitVec.toNat_ofInt, Int.toNat_of_nonneg (Int.emod_nonneg _ (by decide))]
    exact (Int.emod_eq_of_lt h.1 (by simp; omega)).symm
  have r := VRel.u32 (I := I) (w := w) ρ (BitVec.ofInt 32 n)
  rw [← e] at r
  exact r
theorem vu64 {I : Nat → Prop} {w : World} {ρ : Ren} {n : Int} (h : (Lit.int .u64 n).wf = true) : VRel I w ρ (.u64 (BitVec.ofInt 64 n)) (.int .u64 n) := by
  simp only [Lit.wf, IntKind.min, IntKind.max, IntKind.signed, IntKind.bits, Bool.and_eq_true, decide_eq_true_eq] at h
  simp at h
  have e : n = ((BitVec.ofInt 64 n).toNat : Int) := by
    rw [BitVec.toNat_ofInt, Int.toNat_of_nonneg (Int.emod_nonneg _ (by decide))]
    exact (Int.emod_eq_of_lt h.1 (by simp; omega)).symm
  have r := VRel.u64 (I := I) (w := w) ρ (BitVec.ofInt 64 n)
  rw [← e] at r
  exact r
theorem slice_block {P : Program} {w : World} {r : Reach} {base : Nat} {t e : TypeId} {a : Addr} {len cap : Nat} (ht : P.underlying t = some (.slice e)) (h : Value.okWide P w r base t (.slice (some a) len cap)) : a.block < w.heap.size := by
  simp only [Value.okWide, ht, Cell.okWide, Cell.ok] at h
  obtain ⟨_, _, _, _, row, cells, hs, _⟩ := h
  unfold World.shape? at hs
  split at hs
  · rename_i e; exact (Array.getElem?_eq_some_iff.1 e).1
  · cases hs
theorem slice_at {P : Program} {w : World} {r : Reach} {base : Nat} {t e : TypeId} {a : Option Addr} {len cap : Nat} (ht : P.underlying t = some (.slice e)) (h : Value.okWide P w r base t (.slice a len cap)) : ∀ x, a = some x → x.spot = none ∧ x.block < w.heap.size := by
  rintro x rfl
  exact ⟨slice_spot ht h, slice_block ht h⟩
theorem int_lt {n : Int} (h : (Lit.int .i64 n).wf = true) : n < 9223372036854775808 := by
  simp only [Lit.wf, IntKind.min, IntKind.max, IntKind.signed, IntKind.bits, Bool.and_eq_true, decide_eq_true_eq] at h
  simp at h
  omega
theorem int_ge {n : Int} (h : (Lit.int .i64 n).wf = true) : -9223372036854775808 ≤ n := by
  simp only [Lit.wf, IntKind.min, IntKind.max, IntKind.signed, IntKind.bits, Bool.and_eq_true, decide_eq_true_eq] at h
  simp at h
  omega
end Go.Lh
