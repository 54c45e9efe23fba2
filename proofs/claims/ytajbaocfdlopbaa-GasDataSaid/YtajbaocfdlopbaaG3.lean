/- GasRoundTrip, GasColds. -/
import Derived.Test.YtajbaocfdlopbaaG2
set_option linter.unusedSimpArgs false
set_option linter.unusedVariables false
open Go Go.Lh
namespace Go.Proofs.Ytajbaocfdlopbaa.K
noncomputable section
set_option maxRecDepth 100000
structure SA where
  o : W4
  c : W4
  v : W4
  cold : Bool
def store_read : List V → Heap → Option SA := fun args h => match args, h with
  | [.agg [.u64 o0, .u64 o1, .u64 o2, .u64 o3], .agg [.u64 c0, .u64 c1, .u64 c2, .u64 c3], .agg [.u64 v0, .u64 v1, .u64 v2, .u64 v3], .bool cold], [] => some ⟨⟨o0, o1, o2, o3⟩, ⟨c0, c1, c2, c3⟩, ⟨v0, v1, v2, v3⟩, cold⟩
  | _, _ => none
def store_g := ct store_read (fun _ => true) (fun a => .ret (.tup [.u64 (stC a.o a.c a.v a.cold).1, .int .i64 (stC a.o a.c a.v a.cold).2])) (fun _ => [])
theorem store_ok : ∀ args h fin h', store_g args h = some (true, fin, h') → LFn Pr 43 args h fin h' := by
  refine ct_ok (fun a => [a.o.v, a.c.v, a.v.v, .bool a.cold]) (fun _ => []) ?_ ?_
  · intro args h a e
    unfold store_read at e
    split at e <;> cases e
    exact ⟨rfl, rfl⟩
  · intro a _
    exact store_fn a.o a.c a.v a.cold
def OGS : Orc := auto Pr ext [(42, gex_g), (43, store_g)] [45, 47, 49, 50, 51, 56, 57, 58, 59, 60, 61, 65, 86, 87, 89, 90] 8
theorem OGS_sound : OrcSound Pr OGS := auto_sound mixed ext_ok (KOk.cons gex_en gex_ok (KOk.cons (Enters.of (fn := Go.Proofs.Try.f43) (by kernel_rfl) (by kernel_rfl)) store_ok KOk.nil)) (by kernel_rfl) 8
/-- one of three words -/
def wd (k : Nat) : W4 := W4.mk ([BitVec.ofInt (64 : Nat) (0 : Int), BitVec.ofInt (64 : Nat) (0 : Int), BitVec.ofInt (64 : Nat) (0 : Int), BitVec.ofInt (64 : Nat) (0 : Int), BitVec.ofInt (64 : Nat) (0 : Int), BitVec.ofInt (64 : Nat) (0 : Int), BitVec.ofInt (64 : Nat) (0 : Int), BitVec.ofInt (64 : Nat) (1 : Int), BitVec.ofInt (64 : Nat) (0 : Int), BitVec.ofInt (64 : Nat) (0 : Int), BitVec.ofInt (64 : Nat) (0 : Int), BitVec.ofInt (64 : Nat) (2 : Int)].getD ((0 : Nat) + k * (4 : Nat)) (0 : BitVec 64)) ([BitVec.ofInt (64 : Nat) (0 : Int), BitVec.ofInt (64 : Nat) (0 : Int), BitVec.ofInt (64 : Nat) (0 : Int), BitVec.ofInt (64 : Nat) (0 : Int), BitVec.ofInt (64 : Nat) (0 : Int), BitVec.ofInt (64 : Nat) (0 : Int), BitVec.ofInt (64 : Nat) (0 : Int), BitVec.ofInt (64 : Nat) (1 : Int), BitVec.ofInt (64 : Nat) (0 : Int), BitVec.ofInt (64 : Nat) (0 : Int), BitVec.ofInt (64 : Nat) (0 : Int), BitVec.ofInt (64 : Nat) (2 : Int)].getD ((0 : Nat) + k * (4 : Nat) + (1 : Nat)) (0 : BitVec 64)) ([BitVec.ofInt (64 : Nat) (0 : Int), BitVec.ofInt (64 : Nat) (0 : Int), BitVec.ofInt (64 : Nat) (0 : Int), BitVec.ofInt (64 : Nat) (0 : Int), BitVec.ofInt (64 : Nat) (0 : Int), BitVec.ofInt (64 : Nat) (0 : Int), BitVec.ofInt (64 : Nat) (0 : Int), BitVec.ofInt (64 : Nat) (1 : Int), BitVec.ofInt (64 : Nat) (0 : Int), BitVec.ofInt (64 : Nat) (0 : Int), BitVec.ofInt (64 : Nat) (0 : Int), BitVec.ofInt (64 : Nat) (2 : Int)].getD ((0 : Nat) + k * (4 : Nat) + (1 : Nat) + (1 : Nat)) (0 : BitVec 64)) ([BitVec.ofInt (64 : Nat) (0 : Int), BitVec.ofInt (64 : Nat) (0 : Int), BitVec.ofInt (64 : Nat) (0 : Int), BitVec.ofInt (64 : Nat) (0 : Int), BitVec.ofInt (64 : Nat) (0 : Int), BitVec.ofInt (64 : Nat) (0 : Int), BitVec.ofInt (64 : Nat) (0 : Int), BitVec.ofInt (64 : Nat) (1 : Int), BitVec.ofInt (64 : Nat) (0 : Int), BitVec.ofInt (64 : Nat) (0 : Int), BitVec.ofInt (64 : Nat) (0 : Int), BitVec.ofInt (64 : Nat) (2 : Int)].getD ((0 : Nat) + k * (4 : Nat) + (1 : Nat) + (1 : Nat) + (1 : Nat)) (0 : BitVec 64))
def k1 (w : BitVec 8) : Nat := (w % BitVec.ofInt (8 : Nat) (3 : Int)).toNat
def k2 (w : BitVec 8) : Nat := (w / BitVec.ofInt (8 : Nat) (3 : Int) % BitVec.ofInt (8 : Nat) (3 : Int)).toNat
def k3 (w : BitVec 8) : Nat := (w / BitVec.ofInt (8 : Nat) (9 : Int) % BitVec.ofInt (8 : Nat) (3 : Int)).toNat
theorem rt_x (w : BitVec 8) :
  execFD Pr (withAsm OGS [((74 : Nat), true), ((79 : Nat), true), ((87 : Nat), true)]) noLoops [((61 : Nat), false)]
  (100 : Nat) Go.Proofs.Try.f12 [V.u8 w] [] =
  some
  (decide ((↑(k1 w) : Int) < (3 : Int)) && (decide ((0 : Nat) + k1 w * (4 : Nat) + (4 : Nat) ≤ (12 : Nat)) && true) &&
        (decide ((↑(k2 w) : Int) < (3 : Int)) &&
            (decide ((0 : Nat) + k2 w * (4 : Nat) + (4 : Nat) ≤ (12 : Nat)) && true) &&
          (decide ((↑(k3 w) : Int) < (3 : Int)) &&
              (decide ((0 : Nat) + k3 w * (4 : Nat) + (4 : Nat) ≤ (12 : Nat)) && true) &&
            (!decide ((stC (wd (k1 w)) (wd (k1 w)) (wd (k2 w)) true).fst < BitVec.ofInt (64 : Nat) (100 : Int)) &&
                      true &&
                    true &&
                  true &&
                (!decide ((stC (wd (k1 w)) (wd (k2 w)) (wd (k3 w)) false).fst < BitVec.ofInt (64 : Nat) (100 : Int)) &&
                        true &&
                      true &&
                    true &&
                  (!decide
                              ((stC (wd (k1 w)) (wd (k3 w)) (wd (k1 w)) false).fst <
                                BitVec.ofInt (64 : Nat) (100 : Int)) &&
                          true &&
                        true &&
                      true &&
                    true)) &&
              (decide
                    (wrapI IntKind.i64
                        (wrapI IntKind.i64
                            (wrapI IntKind.i64 ((0 : Int) + (stC (wd (k1 w)) (wd (k1 w)) (wd (k2 w)) true).snd) +
                              (stC (wd (k1 w)) (wd (k2 w)) (wd (k3 w)) false).snd) +
                          (stC (wd (k1 w)) (wd (k3 w)) (wd (k1 w)) false).snd) ≥
                      (0 : Int)) &&
                  (decide
                      (BitVec.ofInt (64 : Nat)
                          (wrapI IntKind.i64
                            (wrapI IntKind.i64
                                (wrapI IntKind.i64 ((0 : Int) + (stC (wd (k1 w)) (wd (k1 w)) (wd (k2 w)) true).snd) +
                                  (stC (wd (k1 w)) (wd (k2 w)) (wd (k3 w)) false).snd) +
                              (stC (wd (k1 w)) (wd (k3 w)) (wd (k1 w)) false).snd)) ≤
                        BitVec.ofInt (64 : Nat) (0 : Int) + (stC (wd (k1 w)) (wd (k1 w)) (wd (k2 w)) true).fst +
                            (stC (wd (k1 w)) (wd (k2 w)) (wd (k3 w)) false).fst +
                          (stC (wd (k1 w)) (wd (k3 w)) (wd (k1 w)) false).fst) &&
                    (BitVec.ofInt (64 : Nat) (0 : Int) + (stC (wd (k1 w)) (wd (k1 w)) (wd (k2 w)) true).fst +
                              (stC (wd (k1 w)) (wd (k2 w)) (wd (k3 w)) false).fst +
                            (stC (wd (k1 w)) (wd (k3 w)) (wd (k1 w)) false).fst -
                          BitVec.ofInt (64 : Nat)
                            (wrapI IntKind.i64
                              (wrapI IntKind.i64
                                  (wrapI IntKind.i64 ((0 : Int) + (stC (wd (k1 w)) (wd (k1 w)) (wd (k2 w)) true).snd) +
                                    (stC (wd (k1 w)) (wd (k2 w)) (wd (k3 w)) false).snd) +
                                (stC (wd (k1 w)) (wd (k3 w)) (wd (k1 w)) false).snd)) ==
                        BitVec.ofInt (64 : Nat) (2400 : Int) &&
                      true)) &&
                true)))) &&
      true,
    Fin.ret (V.bool true), []) := by kernel_rfl
theorem cold1 (a : W4) (b : W4) (c : W4) (w : BitVec 8) :
  execFD Pr
  (withAsm OGS
    [((66 : Nat), true), ((72 : Nat), true), ((77 : Nat), true), ((81 : Nat), true), ((85 : Nat), true),
      ((90 : Nat), true), ((94 : Nat), true), ((98 : Nat), true)])
  noLoops [((25 : Nat), false)] (100 : Nat) Go.Proofs.Try.f14 [a.v, b.v, c.v, V.u8 w] [] =
  some
  (!decide (w < BitVec.ofInt (8 : Nat) (200 : Int)) && true &&
        ((stC a b c true).fst == (stC a b c false).fst + BitVec.ofInt (64 : Nat) (2100 : Int) &&
            ((stC a b c true).snd == (stC a b c false).snd &&
              ((stC a b b false).fst == BitVec.ofInt (64 : Nat) (100 : Int) &&
                ((stC a b b false).snd == (0 : Int) &&
                  (decide ((stC a b b false).fst ≤ (stC a b c false).fst) &&
                    (decide ((stC a b c false).fst ≤ BitVec.ofInt (64 : Nat) (20000 : Int)) &&
                      (decide ((stC a b c true).snd ≤ (19900 : Int)) &&
                        (decide ((stC a b c true).snd ≥ (-4800 : Int)) && true))))))) &&
          true) &&
      true,
    Fin.ret (V.bool true), []) := by kernel_rfl
theorem cold2 (a : W4) (b : W4) (c : W4) (w : BitVec 8) :
  execFD Pr
  (withAsm OGS
    [((66 : Nat), true), ((72 : Nat), true), ((77 : Nat), true), ((81 : Nat), true), ((85 : Nat), true),
      ((90 : Nat), true), ((94 : Nat), true), ((98 : Nat), true)])
  noLoops [((25 : Nat), true)] (100 : Nat) Go.Proofs.Try.f14 [a.v, b.v, c.v, V.u8 w] [] =
  some
  (decide (w < BitVec.ofInt (8 : Nat) (200 : Int)) &&
          (decide ((↑(k1 w) : Int) < (3 : Int)) &&
              (decide ((0 : Nat) + k1 w * (4 : Nat) + (4 : Nat) ≤ (12 : Nat)) && true) &&
            (decide ((↑(k2 w) : Int) < (3 : Int)) &&
                (decide ((0 : Nat) + k2 w * (4 : Nat) + (4 : Nat) ≤ (12 : Nat)) && true) &&
              (decide ((↑(k3 w) : Int) < (3 : Int)) &&
                (decide ((0 : Nat) + k3 w * (4 : Nat) + (4 : Nat) ≤ (12 : Nat)) && true)))) &&
        ((stC (wd (k1 w)) (wd (k2 w)) (wd (k3 w)) true).fst ==
              (stC (wd (k1 w)) (wd (k2 w)) (wd (k3 w)) false).fst + BitVec.ofInt (64 : Nat) (2100 : Int) &&
            ((stC (wd (k1 w)) (wd (k2 w)) (wd (k3 w)) true).snd ==
                (stC (wd (k1 w)) (wd (k2 w)) (wd (k3 w)) false).snd &&
              ((stC (wd (k1 w)) (wd (k2 w)) (wd (k2 w)) false).fst == BitVec.ofInt (64 : Nat) (100 : Int) &&
                ((stC (wd (k1 w)) (wd (k2 w)) (wd (k2 w)) false).snd == (0 : Int) &&
                  (decide
                      ((stC (wd (k1 w)) (wd (k2 w)) (wd (k2 w)) false).fst ≤
                        (stC (wd (k1 w)) (wd (k2 w)) (wd (k3 w)) false).fst) &&
                    (decide
                        ((stC (wd (k1 w)) (wd (k2 w)) (wd (k3 w)) false).fst ≤ BitVec.ofInt (64 : Nat) (20000 : Int)) &&
                      (decide ((stC (wd (k1 w)) (wd (k2 w)) (wd (k3 w)) true).snd ≤ (19900 : Int)) &&
                        (decide ((stC (wd (k1 w)) (wd (k2 w)) (wd (k3 w)) true).snd ≥ (-4800 : Int)) && true))))))) &&
          true) &&
      true,
    Fin.ret (V.bool true), []) := by kernel_rfl
theorem k1_lt (w : BitVec 8) : k1 w < 3 := by unfold k1; rw [BitVec.toNat_umod]; exact Nat.mod_lt _ (by decide)
theorem k2_lt (w : BitVec 8) : k2 w < 3 := by unfold k2; rw [BitVec.toNat_umod]; exact Nat.mod_lt _ (by decide)
theorem k3_lt (w : BitVec 8) : k3 w < 3 := by unfold k3; rw [BitVec.toNat_umod]; exact Nat.mod_lt _ (by decide)
theorem three {n : Nat} (h : n < 3) : n = 0 ∨ n = 1 ∨ n = 2 := by omega
theorem rt_fn (w : BitVec 8) : LFn Pr 12 [.u8 w] [] (.ret (.bool true)) [] := by
  refine execFD_sound (fn := Go.Proofs.Try.f12) (withAsm_sound OGS_sound) mixed (by kernel_rfl) (fun _ _ _ _ => LoopOk.none) ((rt_x w).trans (stF ?_ rfl rfl))
  have h1 := three (k1_lt w)
  have h2 := three (k2_lt w)
  have h3 := three (k3_lt w)
  generalize k1 w = i at *
  generalize k2 w = j at *
  generalize k3 w = k at *
  rcases h1 with rfl | rfl | rfl <;> rcases h2 with rfl | rfl | rfl <;> rcases h3 with rfl | rfl | rfl <;> decide +kernel
theorem stC_cold (o c v : W4) : (stC o c v true).1 = (stC o c v false).1 + 2100#64 ∧ (stC o c v true).2 = (stC o c v false).2 := by
  unfold stC
  by_cases e1 : v = c
  · simp [e1]
  · by_cases e2 : c = o
    · by_cases e3 : o = W4.zero
      · simp only [e1, e2, e3, if_true, if_false]
        split <;> simp
      · simp only [e1, e2, e3, if_true, if_false]
        split <;> simp
    · simp [e1, e2]
theorem stC_same (o c : W4) (b : Bool) : stC o c c b = ((if b then 2100#64 else 0#64) + 100#64, 0) := by simp [stC]
theorem stC_warm (o c v : W4) : 100 ≤ (stC o c v false).1.toNat ∧ (stC o c v false).1.toNat ≤ 20000 ∧ -4800 ≤ (stC o c v false).2 ∧ (stC o c v false).2 ≤ 19900 := by
  unfold stC
  by_cases e1 : v = c
  · simp [e1]
  · by_cases e2 : c = o
    · by_cases e3 : o = W4.zero
      · simp only [e1, e2, e3, if_true, if_false]
        split <;> simp
      · simp only [e1, e2, e3, if_true, if_false]
        split <;> (try simp) <;> split <;> decide
    · simp only [e1, e2, if_false, Bool.false_eq_true]
      refine ⟨by decide, by decide, ?_, ?_⟩
      · split <;> split <;> split <;> split <;> first | omega | simp_all
      · split <;> split <;> split <;> split <;> first | omega | simp_all
theorem colds_fn (a b c : W4) (w : BitVec 8) : LFn Pr 14 [a.v, b.v, c.v, .u8 w] [] (.ret (.bool true)) [] := by
  have key : ∀ (a b c : W4), ((stC a b c true).fst == (stC a b c false).fst + BitVec.ofInt 64 2100 && ((stC a b c true).snd == (stC a b c false).snd && ((stC a b b false).fst == BitVec.ofInt 64 100 && ((stC a b b false).snd == (0 : Int) && (decide ((stC a b b false).fst ≤ (stC a b c false).fst) && (decide ((stC a b c false).fst ≤ BitVec.ofInt 64 20000) && (decide ((stC a b c true).snd ≤ (19900 : Int)) && (decide ((stC a b c true).snd ≥ (-4800 : Int)) && true)))))))) = true := by
    intro a b c
    obtain ⟨c1, c2⟩ := stC_cold a b c
    obtain ⟨w1, w2, w3, w4⟩ := stC_warm a b c
    have e1 : BitVec.ofInt 64 2100 = 2100#64 := rfl
    have e2 : BitVec.ofInt 64 100 = 100#64 := rfl
    have e3 : (BitVec.ofInt 64 20000).toNat = 20000 := rfl
    have e4 : ((if false = true then 2100#64 else 0#64) + 100#64 : BitVec 64).toNat = 100 := rfl
    have e5 : ((if false = true then 2100#64 else 0#64) + 100#64 : BitVec 64) = 100#64 := rfl
    simp only [c1, c2, stC_same, e1, e2, e5, BitVec.le_def, e3, beq_self_eq_true, Bool.true_and, Bool.and_true, Bool.and_eq_true, decide_eq_true_eq]
    refine ⟨?_, w2, w4, w3⟩
    exact w1
  by_cases h : w < BitVec.ofInt 8 200
  · refine execFD_sound (fn := Go.Proofs.Try.f14) (withAsm_sound OGS_sound) mixed (by kernel_rfl) (fun _ _ _ _ => LoopOk.none) ((cold2 a b c w).trans (stF ?_ rfl rfl))
    have h1 := k1_lt w
    have h2 := k2_lt w
    have h3 := k3_lt w
    rw [key]
    simp only [Bool.and_eq_true, Bool.and_true, Bool.true_and, decide_eq_true_eq]
    (repeat' apply And.intro) <;> first | exact h | omega
  · refine execFD_sound (fn := Go.Proofs.Try.f14) (withAsm_sound OGS_sound) mixed (by kernel_rfl) (fun _ _ _ _ => LoopOk.none) ((cold1 a b c w).trans (stF ?_ rfl rfl))
    rw [key]
    simp only [Bool.and_eq_true, Bool.and_true, Bool.true_and, decide_eq_true_eq, Bool.not_eq_true', decide_eq_false_iff_not]
    exact h
end
end Go.Proofs.Ytajbaocfdlopbaa.K
