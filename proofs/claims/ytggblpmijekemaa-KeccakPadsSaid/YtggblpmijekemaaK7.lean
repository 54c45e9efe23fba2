import Derived.Test.YtggblpmijekemaaK6
set_option linter.unusedSimpArgs false
set_option linter.unusedVariables false
open Go Go.Lh
namespace Go.Proofs.Ytggblpmijekemaa.K
noncomputable section
theorem getD_set (xs : List (BitVec 64)) (i j : Nat) (v : BitVec 64) (hi : i < xs.length) : (xs.set i v).getD j 0 = if j = i then v else xs.getD j 0 := by
  simp only [List.getD_eq_getElem?_getD]
  by_cases e : j = i
  · subst e; rw [List.getElem?_set_self hi, if_pos rfl]; rfl
  · rw [List.getElem?_set_ne (Ne.symm e), if_neg e]
/-- what stands in the lanes behind n bytes -/
def Bits (o : Nat) (bs : List (BitVec 8)) (n : Nat) (xs : List (BitVec 64)) : Prop :=
  ∀ j i, j < 25 → i < 64 → (xs.getD j 0).getLsbD i = (decide (8 * j + i / 8 < n) && (bs.getD (o + (8 * j + i / 8)) 0).getLsbD (i % 8))
theorem shl_bit (b : BitVec 8) (k i : Nat) (hk : k < 8) (hi : i < 64) : (b.setWidth 64 <<< (k * 8)).getLsbD i = (decide (i / 8 = k) && b.getLsbD (i % 8)) := by
  simp only [BitVec.getLsbD_shiftLeft, BitVec.getLsbD_setWidth]
  by_cases e : i / 8 = k
  · have h1 : ¬ i < k * 8 := by omega
    have h2 : i - k * 8 = i % 8 := by omega
    simp [hi, e, h1, h2]
    omega
  · by_cases h1 : i < k * 8
    · simp [h1, e]
    · have : 8 ≤ i - k * 8 := by omega
      simp [e, h1, BitVec.getLsbD_of_ge b (i - k * 8) this]
theorem absN_bits (o : Nat) (bs : List (BitVec 8)) (xs : List (BitVec 64)) (hx : xs.length = 25) (h0 : Bits o bs 0 xs) : ∀ n, n ≤ 136 → Bits o bs n (absN o bs n xs)
  | 0, _ => h0
  | n + 1, hn => by
    intro j i hj hi
    have ih := absN_bits o bs xs hx h0 n (by omega) j i hj hi
    simp only [absN, putB]
    rw [getD_set _ _ _ _ (by rw [absN_length, hx]; omega)]
    by_cases e : j = n / 8
    · rw [if_pos e]
      subst e
      rw [BitVec.getLsbD_xor, ih, shl_bit _ _ _ (by omega) hi]
      by_cases h1 : i / 8 = n % 8
      · have h2 : 8 * (n / 8) + i / 8 = n := by omega
        rw [h2]; simp [h1]
      · have h2 : (8 * (n / 8) + i / 8 < n + 1) ↔ (8 * (n / 8) + i / 8 < n) := by omega
        simp [h1, h2]
    · rw [if_neg e, ih]
      have h2 : (8 * j + i / 8 < n + 1) ↔ (8 * j + i / 8 < n) := by omega
      simp [h2]
theorem orN_bits (bs : List (BitVec 8)) (xs : List (BitVec 64)) (hx : xs.length = 25) (h0 : Bits 0 bs 0 xs) : ∀ n, n ≤ 136 → Bits 0 bs n (orN bs xs n)
  | 0, _ => h0
  | n + 1, hn => by
    intro j i hj hi
    have ih := orN_bits bs xs hx h0 n (by omega) j i hj hi
    simp only [orN, orB]
    rw [getD_set _ _ _ _ (by rw [orN_length, hx]; omega)]
    by_cases e : j = n / 8
    · rw [if_pos e]
      subst e
      rw [BitVec.getLsbD_or, ih, Nat.mul_comm 8 (n % 8), shl_bit _ _ _ (by omega) hi]
      by_cases h1 : i / 8 = n % 8
      · have h2 : 8 * (n / 8) + i / 8 = n := by omega
        rw [h2]; simp [h1]
      · have h2 : (8 * (n / 8) + i / 8 < n + 1) ↔ (8 * (n / 8) + i / 8 < n) := by omega
        simp [h1, h2]
    · rw [if_neg e, ih]
      have h2 : (8 * j + i / 8 < n + 1) ↔ (8 * j + i / 8 < n) := by omega
      simp [h2]
theorem Bits.eq {o : Nat} {bs : List (BitVec 8)} {n : Nat} {xs ys : List (BitVec 64)} (hx : xs.length = 25) (hy : ys.length = 25) (h1 : Bits o bs n xs) (h2 : Bits o bs n ys) : xs = ys := by
  apply List.ext_getElem (by omega)
  intro j hj hj'
  have e1 : xs[j] = xs.getD j 0 := by simp [List.getD_eq_getElem?_getD, List.getElem?_eq_getElem hj]
  have e2 : ys[j] = ys.getD j 0 := by simp [List.getD_eq_getElem?_getD, List.getElem?_eq_getElem hj']
  rw [e1, e2]
  apply BitVec.eq_of_getLsbD_eq
  intro i hi
  rw [h1 j i (by omega) hi, h2 j i (by omega) hi]
theorem z_bits (o : Nat) (bs : List (BitVec 8)) (s : List (BitVec 8)) : Bits o bs 0 (z25 s) := by
  intro j i hj hi
  have : (z25 s).getD j 0 = 0 := by
    have hz : z25 s = List.replicate 25 0 := by rfl
    rw [hz, List.getD_eq_getElem?_getD, List.getElem?_replicate, if_pos hj]; rfl
  rw [this]; simp
theorem copyN_get (s bs : List (BitVec 8)) : ∀ n, n ≤ bs.length → ∀ k, (copyN s bs n)[k]? = if k < n then some (s.getD k 0) else bs[k]?
  | 0, _, k => by simp [copyN]
  | n + 1, h, k => by
    have ih := copyN_get s bs n (by omega) k
    simp only [copyN]
    by_cases e : k = n
    · subst e
      rw [List.getElem?_set_self (by rw [copyN_length]; omega), if_pos (by omega)]
    · rw [List.getElem?_set_ne (Ne.symm e), ih]
      by_cases h3 : k < n
      · rw [if_pos h3, if_pos (by omega)]
      · rw [if_neg h3, if_neg (by omega)]
theorem cut130_length (s : List (BitVec 8)) : (cut130 s).length = min 130 s.length := by
  unfold cut130
  simp only [List.drop_zero, List.length_take, Option.getD_some]
  split <;> omega
theorem bS1_length (s : List (BitVec 8)) : (bS1 s).length = 136 := by simp [bS1, copyN_length]
theorem bS3_length (s : List (BitVec 8)) : (bS3 s).length = 136 := by simp [bS3, bS2, bS1_length]
theorem padM_small (t : List (BitVec 8)) (h : t.length ≤ 130) : padM t = 135 - t.length := by
  rw [(padM_eq t (by omega)).1]
  rw [Nat.mod_eq_of_lt (show t.length + 1 < 136 by omega), Nat.mod_eq_of_lt (by omega)]
  omega
theorem pad_get (t : List (BitVec 8)) (k : Nat) : (padB2 t)[k]? = if k < t.length then t[k]? else if k = t.length then some 1 else if k < t.length + 1 + padM t then some 0 else none := by
  unfold padB2 padB1
  simp only [Nat.mul_one, List.drop_zero, List.take_length]
  rw [List.take_of_length_le (by simp), List.getElem?_append]
  simp only [List.length_append, List.length_take, List.length_cons, List.length_nil]
  by_cases h1 : k < t.length
  · rw [if_pos h1, if_pos (by omega), List.getElem?_append_left (by omega)]
  · rw [if_neg h1]
    by_cases h2 : k = t.length
    · subst h2; simp
    · rw [if_neg h2, if_neg (by omega), List.getElem?_replicate]
      by_cases h3 : k < t.length + 1 + padM t
      · rw [if_pos h3, if_pos (by omega)]; rfl
      · rw [if_neg h3, if_neg (by omega)]
theorem bS2_get (s : List (BitVec 8)) (k : Nat) : (bS2 s)[k]? = if k < (cut130 s).length then (cut130 s)[k]? else if k = (cut130 s).length then some 1 else if k < 136 then some 0 else none := by
  have hl := cut130_length s
  unfold bS2
  simp only [Int.toNat_natCast, Nat.mul_one, Nat.zero_add]
  by_cases h2 : k = (cut130 s).length
  · subst h2
    rw [List.getElem?_set_self (by rw [bS1_length]; omega), if_neg (by omega), if_pos rfl]; rfl
  · rw [List.getElem?_set_ne (Ne.symm h2)]
    unfold bS1
    rw [copyN_get _ _ _ (by simp; omega)]
    by_cases h1 : k < (cut130 s).length
    · rw [if_pos h1, if_pos h1]; simp [List.getD_eq_getElem?_getD, List.getElem?_eq_getElem h1]
    · rw [if_neg h1, if_neg h1, if_neg h2, List.getElem?_replicate]; rfl
theorem pad_eq (s : List (BitVec 8)) : padB3 (cut130 s) = bS3 s := by
  have hl := cut130_length s
  have hm := padM_small (cut130 s) (by omega)
  have e2 : padB2 (cut130 s) = bS2 s := by
    apply List.ext_getElem?
    intro k
    rw [pad_get, bS2_get, hm, show (cut130 s).length + 1 + (135 - (cut130 s).length) = 136 by omega]
  have e4 : padAt (cut130 s) = 135 := by
    unfold padAt
    rw [hm, show ((↑((cut130 s).length + 1 + (135 - (cut130 s).length)) : Int) - 1) = ((135 : Nat) : Int) by omega, wrapI_nat (by omega)]
    rfl
  unfold padB3 bS3
  rw [e2, e4]
theorem sumA_eq (s : List (BitVec 8)) : sumA (cut130 s) = permL (aS s) := by
  have hl := cut130_length s
  have hm := padM_small (cut130 s) (by omega)
  unfold sumA
  rw [show ((cut130 s).length + 1 + padM (cut130 s)) / 136 = 1 by rw [hm]; omega, pad_eq]
  show permL (absN 0 (bS3 s) 136 (z25 (cut130 s))) = _
  have hz : zS s = z25 (cut130 s) := rfl
  have : absN 0 (bS3 s) 136 (z25 (cut130 s)) = aS s := by
    unfold aS
    rw [hz]
    exact Bits.eq (n := 136) (by rw [absN_length]; rfl) (by rw [orN_length]; rfl) (absN_bits 0 _ _ rfl (z_bits 0 _ _) 136 (by omega)) (orN_bits _ _ rfl (z_bits 0 _ _) 136 (by omega))
  rw [this]
theorem aS_length (s : List (BitVec 8)) : (aS s).length = 25 := by unfold aS; rw [orN_length]; rfl
theorem aE_eq (s : List (BitVec 8)) : aE s = aS s := each25 (aS s) (aS_length s)
theorem xS_eq (s : List (BitVec 8)) : xS s = permL (aE s) := setN25 (zS s) (permL (aE s)) rfl (permL_length _)
theorem oS_eq (s : List (BitVec 8)) : oS s = sumO (cut130 s) := by
  unfold oS sumO
  rw [out8_eq, xS_eq, aE_eq, sumA_eq]
  rfl
theorem oS_length (s : List (BitVec 8)) : (oS s).length = 32 := by unfold oS; rw [out8_eq, outN_length]; rfl
theorem same_exec (s : List (BitVec 8)) : execF Pr (withAsm OE [(85, true), (92, true)]) L6 100 Go.Proofs.Try.f6 [.str s] [] = some (true, .ret (.bool true), []) := by
  rw [same_end]
  have hl := cut130_length s
  have e1 : List.take 32 (List.drop 0 (oS s)) = sumO (cut130 s) := by rw [List.drop_zero, List.take_of_length_le (by rw [oS_length]; exact Nat.le_refl _), oS_eq]
  rw [e1]
  have h2 : (bS2 s).length = 136 := by simp [bS2, bS1_length]
  have h3 : (aE s).length = 25 := by rw [aE_eq, aS_length]
  have h4 : (xS s).length = 25 := by rw [xS_eq, permL_length]
  simp [bS1_length, bS3_length, aS_length, oS_length, h2, h3, h4]
  split <;> omega
theorem f6_at : Pr.funcs[6]? = some Go.Proofs.Try.f6 := by kernel_rfl
theorem body6 : Go.Proofs.Try.f6.body = some (Go.Proofs.Try.f6.body.getD .skip) := by kernel_rfl
theorem loops6 : loopsOf (Go.Proofs.Try.f6.body.getD .skip) = [loopBody Go.Proofs.Try.f6 0, loopBody Go.Proofs.Try.f6 1, loopBody Go.Proofs.Try.f6 2] := by kernel_rfl
theorem ntmps6 : Go.Proofs.Try.f6.ntmps = 97 := by kernel_rfl
theorem same_fn (s : List (BitVec 8)) : LFn Pr 6 [.str s] [] (.ret (.bool true)) [] := by
  refine execF_sound (withAsm_sound OE_sound) mixed f6_at ?_ (same_exec s)
  intro c hc d hd
  rw [body6] at hc
  cases hc
  rw [loops6] at hd
  rw [ntmps6]
  simp only [List.mem_cons, List.not_mem_nil, or_false] at hd
  rcases hd with rfl | rfl | rfl
  · exact L6_ok0
  · exact L6_ok1
  · exact L6_ok2
end
end Go.Proofs.Ytggblpmijekemaa.K
