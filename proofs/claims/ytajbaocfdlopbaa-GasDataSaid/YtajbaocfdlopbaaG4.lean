/- GasData: what is handed in. -/
import Derived.Test.YtajbaocfdlopbaaG3
set_option linter.unusedSimpArgs false
set_option linter.unusedVariables false
open Go Go.Lh
namespace Go.Proofs.Ytajbaocfdlopbaa.K
noncomputable section
set_option maxRecDepth 100000
def zC (s : List (BitVec 8)) : Nat := List.count ((bytesOf (ByteArray.mk #[OfNat.ofNat (0 : Nat)])).getD (0 : Nat) (0 : BitVec 8)) s
def dC (s : List (BitVec 8)) : BitVec 64 := BitVec.ofInt (64 : Nat) (wrapI IntKind.i64 (wrapI IntKind.i64 ((16 : Int) * (↑s.length : Int)) - wrapI IntKind.i64 ((12 : Int) * (↑(zC s) : Int))))
def kC (n : BitVec 8) : Nat := (n % BitVec.ofInt (8 : Nat) (21 : Int)).toNat
theorem data_x (s : List (BitVec 8)) :
  execFD Pr OGS noLoops [] (100 : Nat) Go.Proofs.Try.f47 [V.str s] [] =
  some
  (true,
    Fin.ret
      (V.u64
        (BitVec.ofInt (64 : Nat)
          (wrapI IntKind.i64
            (wrapI IntKind.i64 ((16 : Int) * (↑s.length : Int)) -
              wrapI IntKind.i64
                ((12 : Int) *
                  (↑(List.count
                        ((bytesOf (ByteArray.mk #[OfNat.ofNat (0 : Nat)])).getD (0 : Nat) (OfNat.ofNat (0 : Nat))) s) :
                    Int)))))),
    []) := by kernel_rfl
theorem data_fn (s : List (BitVec 8)) : LFn Pr 47 [.str s] [] (.ret (.u64 (dC s))) [] :=
  execFD_sound (fn := Go.Proofs.Try.f47) OGS_sound mixed (by kernel_rfl) (fun _ _ _ _ => LoopOk.none) ((data_x s).trans (stF rfl rfl rfl))
def data_g := ct (fun (args : List V) (h : Heap) => match args, h with | [.str s], [] => some s | _, _ => none) (fun _ => true) (fun s => .ret (.u64 (dC s))) (fun _ => [])
theorem data_ok : ∀ args h fin h', data_g args h = some (true, fin, h') → LFn Pr 47 args h fin h' := by
  refine ct_ok (fun s => [.str s]) (fun _ => []) ?_ ?_
  · intro args h a e
    split at e <;> cases e
    exact ⟨rfl, rfl⟩
  · intro s _
    exact data_fn s
def OGD : Orc := auto Pr ext [(42, gex_g), (43, store_g), (47, data_g)] [45, 49, 50, 51, 56, 57, 58, 59, 60, 61, 65, 86, 87, 89, 90] 8
theorem OGD_sound : OrcSound Pr OGD := auto_sound mixed ext_ok (KOk.cons gex_en gex_ok (KOk.cons (Enters.of (fn := Go.Proofs.Try.f43) (by kernel_rfl) (by kernel_rfl)) store_ok (KOk.cons (Enters.of (fn := Go.Proofs.Try.f47) (by kernel_rfl) (by kernel_rfl)) data_ok KOk.nil))) (by kernel_rfl) 8
theorem dataA (s : List (BitVec 8)) (t : List (BitVec 8)) (n : BitVec 8) :
  execFD Pr (withAsm OGD [((57 : Nat), true), ((67 : Nat), true), ((76 : Nat), true), ((85 : Nat), true)]) noLoops
  [((39 : Nat), false)] (100 : Nat) Go.Proofs.Try.f13 [V.str s, V.str t, V.u8 n, V.bool true] [] =
  some
  (decide (s.length + t.length ≤ (9223372036854775807 : Nat)) &&
          (decide ((↑(kC n) : Int) ≤ (↑(kC n) : Int)) && decide ((↑(kC n) : Int) ≤ (281474976710656 : Int)) &&
                decide (kC n * (32 : Nat) ≤ (281474976710656 : Nat)) &&
              decide
                ((List.replicate (kC n)
                        [BitVec.ofInt (64 : Nat) (0 : Int), BitVec.ofInt (64 : Nat) (0 : Int),
                          BitVec.ofInt (64 : Nat) (0 : Int), BitVec.ofInt (64 : Nat) (0 : Int)]).flatten.length =
                  kC n * (4 : Nat)) &&
            true) &&
        (decide (s.length + t.length ≤ (9223372036854775807 : Nat)) &&
            (dC (s ++ t) == dC s + dC t &&
              (decide (BitVec.ofInt (64 : Nat) (4 : Int) * BitVec.ofInt (64 : Nat) (↑s.length : Int) ≤ dC s) &&
                (decide (dC s ≤ BitVec.ofInt (64 : Nat) (16 : Int) * BitVec.ofInt (64 : Nat) (↑s.length : Int)) &&
                  (BitVec.ofInt (64 : Nat) (21000 : Int) + dC (s ++ t) +
                        (BitVec.ofInt (64 : Nat) (2400 : Int) +
                          BitVec.ofInt (64 : Nat) (1900 : Int) * BitVec.ofInt (64 : Nat) (↑(kC n) : Int)) ==
                      BitVec.ofInt (64 : Nat) (21000 : Int) + dC s + dC t + BitVec.ofInt (64 : Nat) (2400 : Int) +
                        BitVec.ofInt (64 : Nat) (1900 : Int) * BitVec.ofInt (64 : Nat) (↑(kC n) : Int) &&
                    true)))) &&
          true) &&
      true,
    Fin.ret (V.bool true), []) := by kernel_rfl
theorem dataB (s : List (BitVec 8)) (t : List (BitVec 8)) (n : BitVec 8) :
  execFD Pr (withAsm OGD [((57 : Nat), true), ((67 : Nat), true), ((76 : Nat), true), ((85 : Nat), true)]) noLoops
  [((39 : Nat), true)] (100 : Nat) Go.Proofs.Try.f13 [V.str s, V.str t, V.u8 n, V.bool false] [] =
  some
  (decide (s.length + t.length ≤ (9223372036854775807 : Nat)) &&
          (decide ((↑(kC n) : Int) ≤ (↑(kC n) : Int)) && decide ((↑(kC n) : Int) ≤ (281474976710656 : Int)) &&
                decide (kC n * (32 : Nat) ≤ (281474976710656 : Nat)) &&
              decide
                ((List.replicate (kC n)
                        [BitVec.ofInt (64 : Nat) (0 : Int), BitVec.ofInt (64 : Nat) (0 : Int),
                          BitVec.ofInt (64 : Nat) (0 : Int), BitVec.ofInt (64 : Nat) (0 : Int)]).flatten.length =
                  kC n * (4 : Nat)) &&
            true) &&
        (decide (s.length + t.length ≤ (9223372036854775807 : Nat)) &&
            (dC (s ++ t) == dC s + dC t &&
              (decide (BitVec.ofInt (64 : Nat) (4 : Int) * BitVec.ofInt (64 : Nat) (↑s.length : Int) ≤ dC s) &&
                (decide (dC s ≤ BitVec.ofInt (64 : Nat) (16 : Int) * BitVec.ofInt (64 : Nat) (↑s.length : Int)) &&
                  (BitVec.ofInt (64 : Nat) (21000 : Int) + dC (s ++ t) +
                          (BitVec.ofInt (64 : Nat) (2400 : Int) +
                            BitVec.ofInt (64 : Nat) (1900 : Int) * BitVec.ofInt (64 : Nat) (↑(kC n) : Int)) +
                        (BitVec.ofInt (64 : Nat) (32000 : Int) +
                          BitVec.ofInt (64 : Nat) (2 : Int) *
                            (((if
                                    BitVec.ofInt (64 : Nat) (4294967296 : Int) <
                                      BitVec.ofInt (64 : Nat) (↑(s ++ t).length : Int) then
                                  BitVec.ofInt (64 : Nat) (4294967296 : Int)
                                else BitVec.ofInt (64 : Nat) (↑(s ++ t).length : Int)) +
                                BitVec.ofInt (64 : Nat) (31 : Int)) /
                              BitVec.ofInt (64 : Nat) (32 : Int))) ==
                      BitVec.ofInt (64 : Nat) (21000 : Int) + dC s + dC t + BitVec.ofInt (64 : Nat) (2400 : Int) +
                            BitVec.ofInt (64 : Nat) (1900 : Int) * BitVec.ofInt (64 : Nat) (↑(kC n) : Int) +
                          BitVec.ofInt (64 : Nat) (32000 : Int) +
                        BitVec.ofInt (64 : Nat) (2 : Int) *
                          (((if
                                  BitVec.ofInt (64 : Nat) (4294967296 : Int) <
                                    BitVec.ofInt (64 : Nat)
                                      (wrapI IntKind.i64 ((↑s.length : Int) + (↑t.length : Int))) then
                                BitVec.ofInt (64 : Nat) (4294967296 : Int)
                              else
                                BitVec.ofInt (64 : Nat) (wrapI IntKind.i64 ((↑s.length : Int) + (↑t.length : Int)))) +
                              BitVec.ofInt (64 : Nat) (31 : Int)) /
                            BitVec.ofInt (64 : Nat) (32 : Int)) &&
                    true)))) &&
          true) &&
      true,
    Fin.ret (V.bool true), []) := by kernel_rfl
theorem zC_le (s : List (BitVec 8)) : zC s ≤ s.length := List.count_le_length
theorem zC_append (s t : List (BitVec 8)) : zC (s ++ t) = zC s + zC t := List.count_append
theorem ofInt_nat {w : Nat} (n : Nat) : BitVec.ofInt w (n : Int) = BitVec.ofNat w n := by
  apply BitVec.eq_of_toNat_eq
  rw [BitVec.toNat_ofInt, BitVec.toNat_ofNat]
  exact_mod_cast Int.toNat_natCast _
theorem dC_eq (s : List (BitVec 8)) (h : s.length < 2 ^ 50) : dC s = BitVec.ofNat 64 (16 * s.length - 12 * zC s) := by
  have hz := zC_le s
  unfold dC
  rw [lit_mul, lit_mul, wrapI_nat (by omega), wrapI_nat (by omega), sub_nat _ _ (by omega), wrapI_nat (by omega), ofInt_nat]
theorem kC_lt (n : BitVec 8) : kC n < 21 := by unfold kC; rw [BitVec.toNat_umod]; exact Nat.mod_lt _ (by decide)
theorem dC_append (s t : List (BitVec 8)) (hs : s.length < 2 ^ 48) (ht : t.length < 2 ^ 48) : dC (s ++ t) = dC s + dC t := by
  have h1 := zC_le s
  have h2 := zC_le t
  rw [dC_eq s (by omega), dC_eq t (by omega), dC_eq (s ++ t) (by rw [List.length_append]; omega), zC_append, List.length_append]
  apply BitVec.eq_of_toNat_eq
  rw [BitVec.toNat_add]
  simp only [BitVec.toNat_ofNat]
  omega
theorem dC_toNat (s : List (BitVec 8)) (hs : s.length < 2 ^ 48) : (dC s).toNat = 16 * s.length - 12 * zC s := by
  rw [dC_eq s (by omega), BitVec.toNat_ofNat]
  have := zC_le s
  omega
theorem gdata_fn (s t : List (BitVec 8)) (n : BitVec 8) (to : Bool) (hs : s.length < 2 ^ 47) (ht : t.length < 2 ^ 47) : LFn Pr 13 [.str s, .str t, .u8 n, .bool to] [] (.ret (.bool true)) [] := by
  have hk := kC_lt n
  have hz := zC_le s
  have hd := dC_toNat s (by omega)
  have e4 : (BitVec.ofInt 64 4 * BitVec.ofInt 64 (s.length : Int)).toNat = 4 * s.length := by
    rw [ofInt_nat, show BitVec.ofInt 64 4 = BitVec.ofNat 64 4 from rfl, BitVec.toNat_mul]; simp only [BitVec.toNat_ofNat]; omega
  have e16 : (BitVec.ofInt 64 16 * BitVec.ofInt 64 (s.length : Int)).toNat = 16 * s.length := by
    rw [ofInt_nat, show BitVec.ofInt 64 16 = BitVec.ofNat 64 16 from rfl, BitVec.toNat_mul]; simp only [BitVec.toNat_ofNat]; omega
  have ew : wrapI .i64 ((s.length : Int) + (t.length : Int)) = ((s ++ t).length : Int) := by rw [add_nat, wrapI_nat (by omega), List.length_append]
  have hf : (List.replicate (kC n) [BitVec.ofInt 64 0, BitVec.ofInt 64 0, BitVec.ofInt 64 0, BitVec.ofInt 64 0]).flatten.length = kC n * 4 := by simp
  cases to with
  | true =>
    refine execFD_sound (fn := Go.Proofs.Try.f13) (withAsm_sound OGD_sound) mixed (by kernel_rfl) (fun _ _ _ _ => LoopOk.none) ((dataA s t n).trans (stF ?_ rfl rfl))
    rw [dC_append s t (by omega) (by omega), hf]
    simp only [Bool.and_eq_true, Bool.and_true, Bool.true_and, decide_eq_true_eq, beq_iff_eq, BitVec.le_def, e4, e16, hd]
    (repeat' apply And.intro) <;> first | omega | exact True.intro | ac_rfl
  | false =>
    refine execFD_sound (fn := Go.Proofs.Try.f13) (withAsm_sound OGD_sound) mixed (by kernel_rfl) (fun _ _ _ _ => LoopOk.none) ((dataB s t n).trans (stF ?_ rfl rfl))
    rw [dC_append s t (by omega) (by omega), hf, ew]
    generalize (if BitVec.ofInt 64 4294967296 < BitVec.ofInt 64 ((s ++ t).length : Int) then BitVec.ofInt 64 4294967296 else BitVec.ofInt 64 ((s ++ t).length : Int)) = c
    simp only [Bool.and_eq_true, Bool.and_true, Bool.true_and, decide_eq_true_eq, beq_iff_eq, BitVec.le_def, e4, e16, hd]
    (repeat' apply And.intro) <;> first | omega | exact True.intro | ac_rfl
end
end Go.Proofs.Ytajbaocfdlopbaa.K
