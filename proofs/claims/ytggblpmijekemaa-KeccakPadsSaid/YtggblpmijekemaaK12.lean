/- The document's Sum is the program's; the laws' loops. -/
import Derived.Test.YtggblpmijekemaaK11
set_option linter.unusedSimpArgs false
set_option linter.unusedVariables false
open Go Go.Lh
namespace Go.Proofs.Ytggblpmijekemaa.K
noncomputable section
set_option maxRecDepth 100000
theorem rsum_exec (s : List (BitVec 8)) (h : s.length ≤ 1000000000000) : execF Pr OV (smL 0 [rs0_s, rs1_s, rs3_s]) 100 Go.Proofs.Try.f10 [.str s] [] = some (true, .ret (.str (sumO s)), []) := by
  rw [rsum_x]
  obtain ⟨hk, _⟩ := padM_eq s h
  rw [← hk]
  have e : wrapI .i64 (((s.length + 1 + padM s : Nat) : Int) - 1) = ((s.length + padM s : Nat) : Int) := by rw [show (((s.length + 1 + padM s : Nat) : Int) - 1) = ((s.length + padM s : Nat) : Int) by omega]; exact wrapI_nat (by omega)
  have e2 : padAt s = s.length + padM s := by unfold padAt; rw [e, Int.toNat_natCast, Nat.mul_one]
  have e3 : padN (padB1 s) (padM s) = padB2 s := by
    rw [padN_eq]; unfold padB2
    rw [List.drop_zero, List.take_of_length_le (by rw [padB1_length]; omega)]; rfl
  have e4 : (padB2 s).set (0 + (s.length + padM s) * 1) ((padB2 s).getD (0 + (s.length + padM s) * 1) 0 ^^^ BitVec.ofInt 8 128) = padB3 s := by
    unfold padB3; rw [e2, Nat.mul_one]
  have e5 : List.replicate 25 (BitVec.ofInt 64 0) = z25 s := rfl
  have e6 : List.replicate 32 (BitVec.ofInt 8 0) = z32 s := rfl
  have e7 : takeAll (padB3 s) 0 ((s.length + 1 + padM s) / 136) (z25 s) = sumA s := rfl
  have e8 : out8 (sumA s) (z32 s) 32 = sumO s := by rw [out8_eq]; rfl
  have l1 : (sumA s).length = 25 := takeAll_length _ _ _ rfl _
  have l2 : (sumO s).length = 32 := by unfold sumO; rw [outN_length]; rfl
  have l3 : (z25 s).length = 25 := rfl
  have l4 : (z32 s).length = 32 := rfl
  rw [e, Int.toNat_natCast, e3]
  have e9 : (OfNat.ofNat 0 : BitVec 8) = 0 := rfl
  rw [e9, e4, e5, e6, e7, e8]
  have e10 : (s.length + 1 + padM s) % 136 = 0 := by rw [hk]; omega
  simp only [rs0_ok, rs1_ok, rs3_ok, l1, l2, l3, l4, padB1_length, padB2_length, padB3_length, e10]
  refine stF ?_ ?_ rfl
  · simp only [Bool.and_eq_true, Bool.and_true, Bool.true_and, decide_eq_true_eq, List.length_cons, List.length_nil]
    (repeat' apply And.intro) <;> first | omega | trivial
  · rw [List.drop_zero, List.take_of_length_le (by omega)]
def rsumG := ct (fun (args : List V) (h : Heap) => match args, h with | [.str s], [] => some s | _, _ => none) (fun s => decide (s.length ≤ 1000000000000)) (fun s => .ret (.str (sumO s))) (fun _ => [])
theorem rsumG_ok : ∀ args h fin h', rsumG args h = some (true, fin, h') → LFn Pr 10 args h fin h' := by
  refine ct_ok (fun s => [.str s]) (fun _ => []) ?_ ?_
  · intro args h a e
    split at e <;> cases e
    exact ⟨rfl, rfl⟩
  · intro s hok
    refine execF_sound (fn := Go.Proofs.Try.f10) OV_sound mixed (by kernel_rfl) (LoopsOk.of [(rs0_s, rs0_k), (rs1_s, rs1_k), (rs3_s, rs3_k)] (by kernel_rfl) ?_) (rsum_exec s (of_decide_eq_true hok))
    intro p hp
    simp only [List.mem_cons, List.not_mem_nil, or_false] at hp
    rcases hp with rfl | rfl | rfl
    · exact rs0_at
    · exact rs1_at
    · exact rs3_at
/-- all that is known of keccak's functions, and the document's -/
def OZ : Orc := auto Pr noExt [(8, ex0G), (9, sumG), (10, rsumG), (11, permG), (12, permRG)] [] 2
theorem OZ_sound : OrcSound Pr OZ := auto_sound mixed noExt_ok
  (KOk.cons (Enters.of (fn := Go.Proofs.Try.f8) (by kernel_rfl) (by kernel_rfl)) ex0G_sound
  (KOk.cons (Enters.of (fn := Go.Proofs.Try.f9) (by kernel_rfl) (by kernel_rfl)) sumG_sound
  (KOk.cons (Enters.of (fn := Go.Proofs.Try.f10) (by kernel_rfl) (by kernel_rfl)) rsumG_ok
  (KOk.cons (Enters.of (fn := Go.Proofs.Try.f11) (by kernel_rfl) (by kernel_rfl)) permG_sound
  (KOk.cons rperm_en permRG_ok KOk.nil))))) (by kernel_rfl) 2
theorem sums_x (s : List (BitVec 8)) :
  execF Pr (withAsm OZ [((15 : Nat), true)]) noLoops (100 : Nat) Go.Proofs.Try.f3 [V.str s] [] =
  some
  (decide
              ((0 : Int) ≤
                (some (if (600 : Int) < (↑s.length : Int) then (600 : Int) else (↑s.length : Int))).getD
                  (↑s.length : Int)) &&
            decide
              ((some (if (600 : Int) < (↑s.length : Int) then (600 : Int) else (↑s.length : Int))).getD
                  (↑s.length : Int) ≤
                (↑s.length : Int)) &&
          true &&
        (decide
              ((List.drop (0 : Nat)
                    (List.take
                      ((some (if (600 : Int) < (↑s.length : Int) then (600 : Int) else (↑s.length : Int))).getD
                          (↑s.length : Int)).toNat
                      s)).length ≤
                (1000000000000 : Nat)) &&
            ((fun s ↦ decide (s.length ≤ (1000000000000 : Nat)))
                (List.drop (0 : Nat)
                  (List.take
                    ((some (if (600 : Int) < (↑s.length : Int) then (600 : Int) else (↑s.length : Int))).getD
                        (↑s.length : Int)).toNat
                    s)) &&
              ((if true = true then
                  sumO
                      (List.drop (0 : Nat)
                        (List.take
                          ((some (if (600 : Int) < (↑s.length : Int) then (600 : Int) else (↑s.length : Int))).getD
                              (↑s.length : Int)).toNat
                          s)) ==
                    sumO
                      (List.drop (0 : Nat)
                        (List.take
                          ((some (if (600 : Int) < (↑s.length : Int) then (600 : Int) else (↑s.length : Int))).getD
                              (↑s.length : Int)).toNat
                          s))
                else
                  !sumO
                        (List.drop (0 : Nat)
                          (List.take
                            ((some (if (600 : Int) < (↑s.length : Int) then (600 : Int) else (↑s.length : Int))).getD
                                (↑s.length : Int)).toNat
                            s)) ==
                      sumO
                        (List.drop (0 : Nat)
                          (List.take
                            ((some (if (600 : Int) < (↑s.length : Int) then (600 : Int) else (↑s.length : Int))).getD
                                (↑s.length : Int)).toNat
                            s))) &&
                true)) &&
          true) &&
      true,
    Fin.ret (V.bool true), []) := by kernel_rfl
def copyF (s bs : List (BitVec 8)) : Nat → List (BitVec 8)
  | 0 => bs
  | n + 1 => (copyF s bs n).set n (s.getD n 0)
theorem copyF_length (s bs : List (BitVec 8)) : ∀ n, (copyF s bs n).length = bs.length
  | 0 => rfl
  | n + 1 => by simp [copyF, copyF_length s bs n]
theorem pp_on (s : List (BitVec 8)) (bs : List (BitVec 8)) (hd : Bool) (k : Int) (q : Nat) (cp : Option Nat) (n : Nat) :
  execN Pr (withAsm noOrc [((25 : Nat), true), ((29 : Nat), true)]) noLoops [] (100 : Nat) (0 : Nat)
  [(0 : Nat), (5 : Nat), (6 : Nat), (7 : Nat), (8 : Nat)] (loopBody Go.Proofs.Try.f7 (0 : Nat))
  [((0 : Nat), V.str s), ((5 : Nat), V.bool hd), ((6 : Nat), V.int IntKind.i64 k),
    ((7 : Nat), V.sl (0 : Nat) (0 : Nat) (1 : Nat) q cp), ((8 : Nat), V.int IntKind.i64 (↑n : Int))]
  [Blk.b8 bs] =
  some
  ((if true = true then decide ((↑n : Int) < k) else !decide ((↑n : Int) < k)) &&
          ((if true = true then decide ((↑n : Int) < (↑s.length : Int))
            else !decide ((↑n : Int) < (↑s.length : Int))) &&
            true) &&
        true &&
      (decide ((0 : Int) ≤ (↑n : Int)) && decide ((↑n : Int) < (↑s.length : Int)) &&
          (decide ((0 : Int) ≤ (↑n : Int)) && decide ((↑n : Int) < (↑q : Int)) &&
            (decide
                ((0 : Nat) + (↑n : Int).toNat * (1 : Nat) +
                    [V.u8 (s.getD (↑n : Int).toNat (OfNat.ofNat (0 : Nat)))].length ≤
                  bs.length) &&
              true)) &&
        true),
    X.normal,
    [((0 : Nat), V.str s), ((5 : Nat), V.bool hd), ((6 : Nat), V.int IntKind.i64 k),
      ((7 : Nat), V.sl (0 : Nat) (0 : Nat) (1 : Nat) q cp),
      ((8 : Nat), V.int IntKind.i64 (wrapI IntKind.i64 ((↑n : Int) + (1 : Int))))],
    [Blk.b8
        (bs.set ((0 : Nat) + (↑n : Int).toNat * (1 : Nat))
          (s.getD (↑n : Int).toNat (OfNat.ofNat (0 : Nat))))]) := by kernel_rfl
theorem pp_off0 (s : List (BitVec 8)) (bs : List (BitVec 8)) (hd : Bool) (k : Int) (q : Nat) (cp : Option Nat) (n : Nat) :
  execN Pr (withAsm noOrc [((25 : Nat), false)]) noLoops [] (100 : Nat) (0 : Nat) [(5 : Nat), (7 : Nat)]
  (loopBody Go.Proofs.Try.f7 (0 : Nat))
  [((0 : Nat), V.str s), ((5 : Nat), V.bool hd), ((6 : Nat), V.int IntKind.i64 k),
    ((7 : Nat), V.sl (0 : Nat) (0 : Nat) (1 : Nat) q cp), ((8 : Nat), V.int IntKind.i64 (↑n : Int))]
  [Blk.b8 bs] =
  some
  ((if false = true then decide ((↑n : Int) < k) else !decide ((↑n : Int) < k)) && true && true, X.exit (0 : Nat),
    [((5 : Nat), V.bool hd), ((7 : Nat), V.sl (0 : Nat) (0 : Nat) (1 : Nat) q cp)], [Blk.b8 bs]) := by kernel_rfl
theorem pp_off1 (s : List (BitVec 8)) (bs : List (BitVec 8)) (hd : Bool) (k : Int) (q : Nat) (cp : Option Nat) (n : Nat) :
  execN Pr (withAsm noOrc [((25 : Nat), true), ((29 : Nat), false)]) noLoops [] (100 : Nat) (0 : Nat)
  [(5 : Nat), (7 : Nat)] (loopBody Go.Proofs.Try.f7 (0 : Nat))
  [((0 : Nat), V.str s), ((5 : Nat), V.bool hd), ((6 : Nat), V.int IntKind.i64 k),
    ((7 : Nat), V.sl (0 : Nat) (0 : Nat) (1 : Nat) q cp), ((8 : Nat), V.int IntKind.i64 (↑n : Int))]
  [Blk.b8 bs] =
  some
  ((if true = true then decide ((↑n : Int) < k) else !decide ((↑n : Int) < k)) &&
        ((if false = true then decide ((↑n : Int) < (↑s.length : Int)) else !decide ((↑n : Int) < (↑s.length : Int))) &&
          true) &&
      true,
    X.exit (0 : Nat), [((5 : Nat), V.bool hd), ((7 : Nat), V.sl (0 : Nat) (0 : Nat) (1 : Nat) q cp)],
    [Blk.b8 bs]) := by kernel_rfl
def pp_S : (List (BitVec 8)) × (List (BitVec 8)) × Bool × Int × Nat × (Option Nat) → Nat → Fr × Heap := fun ⟨s, bs, hd, k, q, cp⟩ n => ([(0, .str s), (5, .bool hd), (6, .int .i64 k), (7, .sl 0 0 1 q cp), (8, .int .i64 n)], [.b8 (copyF s bs n)])
def pp_read : Fr → Heap → Option ((List (BitVec 8)) × (List (BitVec 8)) × Bool × Int × Nat × (Option Nat)) := fun f h => match f, h with
  | [(0, .str s), (5, .bool hd), (6, .int .i64 k), (7, .sl 0 0 1 q cp), (8, .int .i64 0)], [.b8 bs] => some (s, bs, hd, k, q, cp)
  | _, _ => none
def pp_ok : (List (BitVec 8)) × (List (BitVec 8)) × Bool × Int × Nat × (Option Nat) → Bool := fun ⟨s, bs, hd, k, q, cp⟩ => decide (bs.length = q) && decide (k = q) && decide (q < 200) && decide (s.length ≤ 140)
def pp_E : (List (BitVec 8)) × (List (BitVec 8)) × Bool × Int × Nat × (Option Nat) → X × Fr × Heap := fun ⟨s, bs, hd, k, q, cp⟩ => (.exit 0, [(5, .bool hd), (7, .sl 0 0 1 q cp)], [.b8 (copyF s bs (min q s.length))])
def pp_m : (List (BitVec 8)) × (List (BitVec 8)) × Bool × Int × Nat × (Option Nat) → Nat := fun ⟨s, bs, hd, k, q, cp⟩ => min q s.length
def pp_k : Nat := 0
def pp_s : Sm := whS 8 [0,5,6,7,8] pp_read pp_ok pp_E
theorem pp_at : SmAt Pr Go.Proofs.Try.f7 0 pp_s pp_k := by
  refine cnt_at pp_S pp_m (by kernel_rfl) (by kernel_rfl) ?_ ?_ ?_ ?_
  · intro f g a h
    unfold pp_read at h
    split at h <;> cases h
    rfl
  · intro a h; cases h
  · rintro ⟨s, bs, hd, k, q, cp⟩ hok n hn
    simp only [pp_m] at hn
    simp only [pp_ok] at hok
    simp only [Bool.and_eq_true, decide_eq_true_eq] at hok
    obtain ⟨⟨⟨h1, h2⟩, h3⟩, h4⟩ := hok
    have hl := copyF_length s bs n
    refine execN_sound (withAsm_sound (noOrc_sound _)) mixed (LoopsOk.innerAt LoopsOk.none 0) (by kernel_rfl) (by intro v h; cases h) ((pp_on s ((copyF s bs n)) hd k q cp (n)).trans ?_)
    refine stX ?_ ?_ ?_
    · (try simp (disch := omega) only [tmod_lit, tdiv_lit, mul_lit, add_lit, lit_mul, lit_add, add_nat, mul_nat, sub_lit, lit_sub, sub_nat, wrapI_nat, wrapI_in, Int.toNat_natCast, Nat.mul_one, Nat.zero_add, toNat_lit])
      (try simp only [Bool.and_eq_true, Bool.and_true, Bool.true_and, decide_eq_true_eq, Bool.not_eq_true', decide_eq_false_iff_not, if_true, Bool.false_eq_true, if_false, List.length_set, List.length_append, List.length_replicate, List.length_cons, List.length_nil, Blk.len])
      (repeat' apply And.intro) <;> first | omega | exact True.intro | rfl | decide
    · first | rfl | (simp (disch := omega) only [tmod_lit, tdiv_lit, mul_lit, add_lit, lit_mul, lit_add, add_nat, mul_nat, sub_lit, lit_sub, sub_nat, wrapI_nat, wrapI_in, Int.toNat_natCast, Nat.mul_one, Nat.zero_add, toNat_lit] <;> rfl) | (simp (disch := omega) only [tmod_lit, tdiv_lit, mul_lit, add_lit, lit_mul, lit_add, add_nat, mul_nat, sub_lit, lit_sub, sub_nat, wrapI_nat, wrapI_in, Int.toNat_natCast, Nat.mul_one, Nat.zero_add, toNat_lit]; done)
    · first | rfl | (simp (disch := omega) only [tmod_lit, tdiv_lit, mul_lit, add_lit, lit_mul, lit_add, add_nat, mul_nat, sub_lit, lit_sub, sub_nat, wrapI_nat, wrapI_in, Int.toNat_natCast, Nat.mul_one, Nat.zero_add, toNat_lit] <;> rfl) | (simp (disch := omega) only [tmod_lit, tdiv_lit, mul_lit, add_lit, lit_mul, lit_add, add_nat, mul_nat, sub_lit, lit_sub, sub_nat, wrapI_nat, wrapI_in, Int.toNat_natCast, Nat.mul_one, Nat.zero_add, toNat_lit]; done)
  · rintro ⟨s, bs, hd, k, q, cp⟩ hok
    simp only [pp_ok] at hok
    simp only [Bool.and_eq_true, decide_eq_true_eq] at hok
    obtain ⟨⟨⟨h1, h2⟩, h3⟩, h4⟩ := hok
    have hl := copyF_length s bs (min q s.length)
    by_cases hc : q ≤ s.length
    · refine execN_sound (withAsm_sound (noOrc_sound _)) mixed (LoopsOk.innerAt LoopsOk.none 0) (by kernel_rfl) (by intro v h; cases h) ((pp_off0 s ((copyF s bs (min q s.length))) hd k q cp ((min q s.length))).trans ?_)
      refine stX ?_ ?_ ?_
      · (try simp (disch := omega) only [tmod_lit, tdiv_lit, mul_lit, add_lit, lit_mul, lit_add, add_nat, mul_nat, sub_lit, lit_sub, sub_nat, wrapI_nat, wrapI_in, Int.toNat_natCast, Nat.mul_one, Nat.zero_add, toNat_lit])
        (try simp only [Bool.and_eq_true, Bool.and_true, Bool.true_and, decide_eq_true_eq, Bool.not_eq_true', decide_eq_false_iff_not, if_true, Bool.false_eq_true, if_false, List.length_set, List.length_append, List.length_replicate, List.length_cons, List.length_nil, Blk.len])
        (repeat' apply And.intro) <;> first | omega | exact True.intro | rfl | decide
      · first | rfl | (simp (disch := omega) only [tmod_lit, tdiv_lit, mul_lit, add_lit, lit_mul, lit_add, add_nat, mul_nat, sub_lit, lit_sub, sub_nat, wrapI_nat, wrapI_in, Int.toNat_natCast, Nat.mul_one, Nat.zero_add, toNat_lit] <;> rfl) | (simp (disch := omega) only [tmod_lit, tdiv_lit, mul_lit, add_lit, lit_mul, lit_add, add_nat, mul_nat, sub_lit, lit_sub, sub_nat, wrapI_nat, wrapI_in, Int.toNat_natCast, Nat.mul_one, Nat.zero_add, toNat_lit]; done)
      · first | rfl | (simp (disch := omega) only [tmod_lit, tdiv_lit, mul_lit, add_lit, lit_mul, lit_add, add_nat, mul_nat, sub_lit, lit_sub, sub_nat, wrapI_nat, wrapI_in, Int.toNat_natCast, Nat.mul_one, Nat.zero_add, toNat_lit] <;> rfl) | (simp (disch := omega) only [tmod_lit, tdiv_lit, mul_lit, add_lit, lit_mul, lit_add, add_nat, mul_nat, sub_lit, lit_sub, sub_nat, wrapI_nat, wrapI_in, Int.toNat_natCast, Nat.mul_one, Nat.zero_add, toNat_lit]; done)
    · refine execN_sound (withAsm_sound (noOrc_sound _)) mixed (LoopsOk.innerAt LoopsOk.none 0) (by kernel_rfl) (by intro v h; cases h) ((pp_off1 s ((copyF s bs (min q s.length))) hd k q cp ((min q s.length))).trans ?_)
      refine stX ?_ ?_ ?_
      · (try simp (disch := omega) only [tmod_lit, tdiv_lit, mul_lit, add_lit, lit_mul, lit_add, add_nat, mul_nat, sub_lit, lit_sub, sub_nat, wrapI_nat, wrapI_in, Int.toNat_natCast, Nat.mul_one, Nat.zero_add, toNat_lit])
        (try simp only [Bool.and_eq_true, Bool.and_true, Bool.true_and, decide_eq_true_eq, Bool.not_eq_true', decide_eq_false_iff_not, if_true, Bool.false_eq_true, if_false, List.length_set, List.length_append, List.length_replicate, List.length_cons, List.length_nil, Blk.len])
        (repeat' apply And.intro) <;> first | omega | exact True.intro | rfl | decide
      · first | rfl | (simp (disch := omega) only [tmod_lit, tdiv_lit, mul_lit, add_lit, lit_mul, lit_add, add_nat, mul_nat, sub_lit, lit_sub, sub_nat, wrapI_nat, wrapI_in, Int.toNat_natCast, Nat.mul_one, Nat.zero_add, toNat_lit] <;> rfl) | (simp (disch := omega) only [tmod_lit, tdiv_lit, mul_lit, add_lit, lit_mul, lit_add, add_nat, mul_nat, sub_lit, lit_sub, sub_nat, wrapI_nat, wrapI_in, Int.toNat_natCast, Nat.mul_one, Nat.zero_add, toNat_lit]; done)
      · first | rfl | (simp (disch := omega) only [tmod_lit, tdiv_lit, mul_lit, add_lit, lit_mul, lit_add, add_nat, mul_nat, sub_lit, lit_sub, sub_nat, wrapI_nat, wrapI_in, Int.toNat_natCast, Nat.mul_one, Nat.zero_add, toNat_lit] <;> rfl) | (simp (disch := omega) only [tmod_lit, tdiv_lit, mul_lit, add_lit, lit_mul, lit_add, add_nat, mul_nat, sub_lit, lit_sub, sub_nat, wrapI_nat, wrapI_in, Int.toNat_natCast, Nat.mul_one, Nat.zero_add, toNat_lit]; done)
theorem pads_x (s : List (BitVec 8)) (n : BitVec 8) :
  execF Pr (withAsm OZ [((49 : Nat), true), ((55 : Nat), true), ((61 : Nat), true)]) (smL (0 : Nat) [pp_s]) (100 : Nat)
  Go.Proofs.Try.f7 [V.str s, V.u8 n] [] =
  some
  (decide
              ((0 : Int) ≤
                (some (if (140 : Int) < (↑s.length : Int) then (140 : Int) else (↑s.length : Int))).getD
                  (↑s.length : Int)) &&
            decide
              ((some (if (140 : Int) < (↑s.length : Int) then (140 : Int) else (↑s.length : Int))).getD
                  (↑s.length : Int) ≤
                (↑s.length : Int)) &&
          true &&
        (decide ((0 : Int) ≤ wrapI IntKind.i64 ((134 : Int) + (↑(n % BitVec.ofInt (8 : Nat) (5 : Int)).toNat : Int))) &&
                    decide
                      (wrapI IntKind.i64 ((134 : Int) + (↑(n % BitVec.ofInt (8 : Nat) (5 : Int)).toNat : Int)) ≤
                        wrapI IntKind.i64 ((134 : Int) + (↑(n % BitVec.ofInt (8 : Nat) (5 : Int)).toNat : Int))) &&
                  decide
                    (wrapI IntKind.i64 ((134 : Int) + (↑(n % BitVec.ofInt (8 : Nat) (5 : Int)).toNat : Int)) ≤
                      (281474976710656 : Int)) &&
                decide
                  ((wrapI IntKind.i64 ((134 : Int) + (↑(n % BitVec.ofInt (8 : Nat) (5 : Int)).toNat : Int))).toNat *
                      (1 : Nat) ≤
                    (281474976710656 : Nat)) &&
              decide
                ((List.replicate
                      (wrapI IntKind.i64 ((134 : Int) + (↑(n % BitVec.ofInt (8 : Nat) (5 : Int)).toNat : Int))).toNat
                      (BitVec.ofInt (8 : Nat) (0 : Int))).length =
                  (wrapI IntKind.i64 ((134 : Int) + (↑(n % BitVec.ofInt (8 : Nat) (5 : Int)).toNat : Int))).toNat *
                    (1 : Nat)) &&
            true &&
          (pp_ok
              (List.drop (0 : Nat)
                  (List.take
                    ((some (if (140 : Int) < (↑s.length : Int) then (140 : Int) else (↑s.length : Int))).getD
                        (↑s.length : Int)).toNat
                    s),
                List.replicate
                  (wrapI IntKind.i64 ((134 : Int) + (↑(n % BitVec.ofInt (8 : Nat) (5 : Int)).toNat : Int))).toNat
                  (BitVec.ofInt (8 : Nat) (0 : Int)),
                true, wrapI IntKind.i64 ((134 : Int) + (↑(n % BitVec.ofInt (8 : Nat) (5 : Int)).toNat : Int)),
                (wrapI IntKind.i64 ((134 : Int) + (↑(n % BitVec.ofInt (8 : Nat) (5 : Int)).toNat : Int))).toNat,
                some (wrapI IntKind.i64 ((134 : Int) + (↑(n % BitVec.ofInt (8 : Nat) (5 : Int)).toNat : Int))).toNat) &&
            (decide
                  ((0 : Nat) +
                      (wrapI IntKind.i64 ((134 : Int) + (↑(n % BitVec.ofInt (8 : Nat) (5 : Int)).toNat : Int))).toNat ≤
                    (copyF
                        (List.drop (0 : Nat)
                          (List.take
                            ((some (if (140 : Int) < (↑s.length : Int) then (140 : Int) else (↑s.length : Int))).getD
                                (↑s.length : Int)).toNat
                            s))
                        (List.replicate
                          (wrapI IntKind.i64
                              ((134 : Int) + (↑(n % BitVec.ofInt (8 : Nat) (5 : Int)).toNat : Int))).toNat
                          (BitVec.ofInt (8 : Nat) (0 : Int)))
                        (min
                          (wrapI IntKind.i64
                              ((134 : Int) + (↑(n % BitVec.ofInt (8 : Nat) (5 : Int)).toNat : Int))).toNat
                          (List.drop (0 : Nat)
                              (List.take
                                ((some
                                        (if (140 : Int) < (↑s.length : Int) then (140 : Int)
                                        else (↑s.length : Int))).getD
                                    (↑s.length : Int)).toNat
                                s)).length)).length) &&
                true &&
              ((fun s ↦ decide (s.length ≤ (1000000000000 : Nat)))
                    (List.take
                      (wrapI IntKind.i64 ((134 : Int) + (↑(n % BitVec.ofInt (8 : Nat) (5 : Int)).toNat : Int))).toNat
                      (List.drop (0 : Nat)
                        (copyF
                          (List.drop (0 : Nat)
                            (List.take
                              ((some (if (140 : Int) < (↑s.length : Int) then (140 : Int) else (↑s.length : Int))).getD
                                  (↑s.length : Int)).toNat
                              s))
                          (List.replicate
                            (wrapI IntKind.i64
                                ((134 : Int) + (↑(n % BitVec.ofInt (8 : Nat) (5 : Int)).toNat : Int))).toNat
                            (BitVec.ofInt (8 : Nat) (0 : Int)))
                          (min
                            (wrapI IntKind.i64
                                ((134 : Int) + (↑(n % BitVec.ofInt (8 : Nat) (5 : Int)).toNat : Int))).toNat
                            (List.drop (0 : Nat)
                                (List.take
                                  ((some
                                          (if (140 : Int) < (↑s.length : Int) then (140 : Int)
                                          else (↑s.length : Int))).getD
                                      (↑s.length : Int)).toNat
                                  s)).length)))) &&
                  true &&
                (decide
                      ((List.take
                            (wrapI IntKind.i64
                                ((134 : Int) + (↑(n % BitVec.ofInt (8 : Nat) (5 : Int)).toNat : Int))).toNat
                            (List.drop (0 : Nat)
                              (copyF
                                (List.drop (0 : Nat)
                                  (List.take
                                    ((some
                                            (if (140 : Int) < (↑s.length : Int) then (140 : Int)
                                            else (↑s.length : Int))).getD
                                        (↑s.length : Int)).toNat
                                    s))
                                (List.replicate
                                  (wrapI IntKind.i64
                                      ((134 : Int) + (↑(n % BitVec.ofInt (8 : Nat) (5 : Int)).toNat : Int))).toNat
                                  (BitVec.ofInt (8 : Nat) (0 : Int)))
                                (min
                                  (wrapI IntKind.i64
                                      ((134 : Int) + (↑(n % BitVec.ofInt (8 : Nat) (5 : Int)).toNat : Int))).toNat
                                  (List.drop (0 : Nat)
                                      (List.take
                                        ((some
                                                (if (140 : Int) < (↑s.length : Int) then (140 : Int)
                                                else (↑s.length : Int))).getD
                                            (↑s.length : Int)).toNat
                                        s)).length)))).length ≤
                        (1000000000000 : Nat)) &&
                    ((if true = true then
                        sumO
                            (List.take
                              (wrapI IntKind.i64
                                  ((134 : Int) + (↑(n % BitVec.ofInt (8 : Nat) (5 : Int)).toNat : Int))).toNat
                              (List.drop (0 : Nat)
                                (copyF
                                  (List.drop (0 : Nat)
                                    (List.take
                                      ((some
                                              (if (140 : Int) < (↑s.length : Int) then (140 : Int)
                                              else (↑s.length : Int))).getD
                                          (↑s.length : Int)).toNat
                                      s))
                                  (List.replicate
                                    (wrapI IntKind.i64
                                        ((134 : Int) + (↑(n % BitVec.ofInt (8 : Nat) (5 : Int)).toNat : Int))).toNat
                                    (BitVec.ofInt (8 : Nat) (0 : Int)))
                                  (min
                                    (wrapI IntKind.i64
                                        ((134 : Int) + (↑(n % BitVec.ofInt (8 : Nat) (5 : Int)).toNat : Int))).toNat
                                    (List.drop (0 : Nat)
                                        (List.take
                                          ((some
                                                  (if (140 : Int) < (↑s.length : Int) then (140 : Int)
                                                  else (↑s.length : Int))).getD
                                              (↑s.length : Int)).toNat
                                          s)).length)))) ==
                          sumO
                            (List.take
                              (wrapI IntKind.i64
                                  ((134 : Int) + (↑(n % BitVec.ofInt (8 : Nat) (5 : Int)).toNat : Int))).toNat
                              (List.drop (0 : Nat)
                                (copyF
                                  (List.drop (0 : Nat)
                                    (List.take
                                      ((some
                                              (if (140 : Int) < (↑s.length : Int) then (140 : Int)
                                              else (↑s.length : Int))).getD
                                          (↑s.length : Int)).toNat
                                      s))
                                  (List.replicate
                                    (wrapI IntKind.i64
                                        ((134 : Int) + (↑(n % BitVec.ofInt (8 : Nat) (5 : Int)).toNat : Int))).toNat
                                    (BitVec.ofInt (8 : Nat) (0 : Int)))
                                  (min
                                    (wrapI IntKind.i64
                                        ((134 : Int) + (↑(n % BitVec.ofInt (8 : Nat) (5 : Int)).toNat : Int))).toNat
                                    (List.drop (0 : Nat)
                                        (List.take
                                          ((some
                                                  (if (140 : Int) < (↑s.length : Int) then (140 : Int)
                                                  else (↑s.length : Int))).getD
                                              (↑s.length : Int)).toNat
                                          s)).length))))
                      else
                        !sumO
                              (List.take
                                (wrapI IntKind.i64
                                    ((134 : Int) + (↑(n % BitVec.ofInt (8 : Nat) (5 : Int)).toNat : Int))).toNat
                                (List.drop (0 : Nat)
                                  (copyF
                                    (List.drop (0 : Nat)
                                      (List.take
                                        ((some
                                                (if (140 : Int) < (↑s.length : Int) then (140 : Int)
                                                else (↑s.length : Int))).getD
                                            (↑s.length : Int)).toNat
                                        s))
                                    (List.replicate
                                      (wrapI IntKind.i64
                                          ((134 : Int) + (↑(n % BitVec.ofInt (8 : Nat) (5 : Int)).toNat : Int))).toNat
                                      (BitVec.ofInt (8 : Nat) (0 : Int)))
                                    (min
                                      (wrapI IntKind.i64
                                          ((134 : Int) + (↑(n % BitVec.ofInt (8 : Nat) (5 : Int)).toNat : Int))).toNat
                                      (List.drop (0 : Nat)
                                          (List.take
                                            ((some
                                                    (if (140 : Int) < (↑s.length : Int) then (140 : Int)
                                                    else (↑s.length : Int))).getD
                                                (↑s.length : Int)).toNat
                                            s)).length)))) ==
                            sumO
                              (List.take
                                (wrapI IntKind.i64
                                    ((134 : Int) + (↑(n % BitVec.ofInt (8 : Nat) (5 : Int)).toNat : Int))).toNat
                                (List.drop (0 : Nat)
                                  (copyF
                                    (List.drop (0 : Nat)
                                      (List.take
                                        ((some
                                                (if (140 : Int) < (↑s.length : Int) then (140 : Int)
                                                else (↑s.length : Int))).getD
                                            (↑s.length : Int)).toNat
                                        s))
                                    (List.replicate
                                      (wrapI IntKind.i64
                                          ((134 : Int) + (↑(n % BitVec.ofInt (8 : Nat) (5 : Int)).toNat : Int))).toNat
                                      (BitVec.ofInt (8 : Nat) (0 : Int)))
                                    (min
                                      (wrapI IntKind.i64
                                          ((134 : Int) + (↑(n % BitVec.ofInt (8 : Nat) (5 : Int)).toNat : Int))).toNat
                                      (List.drop (0 : Nat)
                                          (List.take
                                            ((some
                                                    (if (140 : Int) < (↑s.length : Int) then (140 : Int)
                                                    else (↑s.length : Int))).getD
                                                (↑s.length : Int)).toNat
                                            s)).length))))) &&
                      ((if true = true then
                          (↑(sumO
                                    (List.take
                                      (wrapI IntKind.i64
                                          ((134 : Int) + (↑(n % BitVec.ofInt (8 : Nat) (5 : Int)).toNat : Int))).toNat
                                      (List.drop (0 : Nat)
                                        (copyF
                                          (List.drop (0 : Nat)
                                            (List.take
                                              ((some
                                                      (if (140 : Int) < (↑s.length : Int) then (140 : Int)
                                                      else (↑s.length : Int))).getD
                                                  (↑s.length : Int)).toNat
                                              s))
                                          (List.replicate
                                            (wrapI IntKind.i64
                                                ((134 : Int) +
                                                  (↑(n % BitVec.ofInt (8 : Nat) (5 : Int)).toNat : Int))).toNat
                                            (BitVec.ofInt (8 : Nat) (0 : Int)))
                                          (min
                                            (wrapI IntKind.i64
                                                ((134 : Int) +
                                                  (↑(n % BitVec.ofInt (8 : Nat) (5 : Int)).toNat : Int))).toNat
                                            (List.drop (0 : Nat)
                                                (List.take
                                                  ((some
                                                          (if (140 : Int) < (↑s.length : Int) then (140 : Int)
                                                          else (↑s.length : Int))).getD
                                                      (↑s.length : Int)).toNat
                                                  s)).length))))).length :
                              Int) ==
                            (32 : Int)
                        else
                          !(↑(sumO
                                      (List.take
                                        (wrapI IntKind.i64
                                            ((134 : Int) + (↑(n % BitVec.ofInt (8 : Nat) (5 : Int)).toNat : Int))).toNat
                                        (List.drop (0 : Nat)
                                          (copyF
                                            (List.drop (0 : Nat)
                                              (List.take
                                                ((some
                                                        (if (140 : Int) < (↑s.length : Int) then (140 : Int)
                                                        else (↑s.length : Int))).getD
                                                    (↑s.length : Int)).toNat
                                                s))
                                            (List.replicate
                                              (wrapI IntKind.i64
                                                  ((134 : Int) +
                                                    (↑(n % BitVec.ofInt (8 : Nat) (5 : Int)).toNat : Int))).toNat
                                              (BitVec.ofInt (8 : Nat) (0 : Int)))
                                            (min
                                              (wrapI IntKind.i64
                                                  ((134 : Int) +
                                                    (↑(n % BitVec.ofInt (8 : Nat) (5 : Int)).toNat : Int))).toNat
                                              (List.drop (0 : Nat)
                                                  (List.take
                                                    ((some
                                                            (if (140 : Int) < (↑s.length : Int) then (140 : Int)
                                                            else (↑s.length : Int))).getD
                                                        (↑s.length : Int)).toNat
                                                    s)).length))))).length :
                                Int) ==
                              (32 : Int)) &&
                        (decide
                            ((List.take
                                    (wrapI IntKind.i64
                                        ((134 : Int) + (↑(n % BitVec.ofInt (8 : Nat) (5 : Int)).toNat : Int))).toNat
                                    (List.drop (0 : Nat)
                                      (copyF
                                        (List.drop (0 : Nat)
                                          (List.take
                                            ((some
                                                    (if (140 : Int) < (↑s.length : Int) then (140 : Int)
                                                    else (↑s.length : Int))).getD
                                                (↑s.length : Int)).toNat
                                            s))
                                        (List.replicate
                                          (wrapI IntKind.i64
                                              ((134 : Int) +
                                                (↑(n % BitVec.ofInt (8 : Nat) (5 : Int)).toNat : Int))).toNat
                                          (BitVec.ofInt (8 : Nat) (0 : Int)))
                                        (min
                                          (wrapI IntKind.i64
                                              ((134 : Int) +
                                                (↑(n % BitVec.ofInt (8 : Nat) (5 : Int)).toNat : Int))).toNat
                                          (List.drop (0 : Nat)
                                              (List.take
                                                ((some
                                                        (if (140 : Int) < (↑s.length : Int) then (140 : Int)
                                                        else (↑s.length : Int))).getD
                                                    (↑s.length : Int)).toNat
                                                s)).length)))).length +
                                (1 : Nat) ≤
                              (9223372036854775807 : Nat)) &&
                          (decide
                              ((List.take
                                      (wrapI IntKind.i64
                                          ((134 : Int) + (↑(n % BitVec.ofInt (8 : Nat) (5 : Int)).toNat : Int))).toNat
                                      (List.drop (0 : Nat)
                                        (copyF
                                          (List.drop (0 : Nat)
                                            (List.take
                                              ((some
                                                      (if (140 : Int) < (↑s.length : Int) then (140 : Int)
                                                      else (↑s.length : Int))).getD
                                                  (↑s.length : Int)).toNat
                                              s))
                                          (List.replicate
                                            (wrapI IntKind.i64
                                                ((134 : Int) +
                                                  (↑(n % BitVec.ofInt (8 : Nat) (5 : Int)).toNat : Int))).toNat
                                            (BitVec.ofInt (8 : Nat) (0 : Int)))
                                          (min
                                            (wrapI IntKind.i64
                                                ((134 : Int) +
                                                  (↑(n % BitVec.ofInt (8 : Nat) (5 : Int)).toNat : Int))).toNat
                                            (List.drop (0 : Nat)
                                                (List.take
                                                  ((some
                                                          (if (140 : Int) < (↑s.length : Int) then (140 : Int)
                                                          else (↑s.length : Int))).getD
                                                      (↑s.length : Int)).toNat
                                                  s)).length))) ++
                                    bytesOf (ByteArray.mk #[OfNat.ofNat (1 : Nat)])).length ≤
                                (1000000000000 : Nat)) &&
                            (decide
                                ((List.take
                                        (wrapI IntKind.i64
                                            ((134 : Int) + (↑(n % BitVec.ofInt (8 : Nat) (5 : Int)).toNat : Int))).toNat
                                        (List.drop (0 : Nat)
                                          (copyF
                                            (List.drop (0 : Nat)
                                              (List.take
                                                ((some
                                                        (if (140 : Int) < (↑s.length : Int) then (140 : Int)
                                                        else (↑s.length : Int))).getD
                                                    (↑s.length : Int)).toNat
                                                s))
                                            (List.replicate
                                              (wrapI IntKind.i64
                                                  ((134 : Int) +
                                                    (↑(n % BitVec.ofInt (8 : Nat) (5 : Int)).toNat : Int))).toNat
                                              (BitVec.ofInt (8 : Nat) (0 : Int)))
                                            (min
                                              (wrapI IntKind.i64
                                                  ((134 : Int) +
                                                    (↑(n % BitVec.ofInt (8 : Nat) (5 : Int)).toNat : Int))).toNat
                                              (List.drop (0 : Nat)
                                                  (List.take
                                                    ((some
                                                            (if (140 : Int) < (↑s.length : Int) then (140 : Int)
                                                            else (↑s.length : Int))).getD
                                                        (↑s.length : Int)).toNat
                                                    s)).length)))).length +
                                    (1 : Nat) ≤
                                  (9223372036854775807 : Nat)) &&
                              ((fun s ↦ decide (s.length ≤ (1000000000000 : Nat)))
                                  (List.take
                                      (wrapI IntKind.i64
                                          ((134 : Int) + (↑(n % BitVec.ofInt (8 : Nat) (5 : Int)).toNat : Int))).toNat
                                      (List.drop (0 : Nat)
                                        (copyF
                                          (List.drop (0 : Nat)
                                            (List.take
                                              ((some
                                                      (if (140 : Int) < (↑s.length : Int) then (140 : Int)
                                                      else (↑s.length : Int))).getD
                                                  (↑s.length : Int)).toNat
                                              s))
                                          (List.replicate
                                            (wrapI IntKind.i64
                                                ((134 : Int) +
                                                  (↑(n % BitVec.ofInt (8 : Nat) (5 : Int)).toNat : Int))).toNat
                                            (BitVec.ofInt (8 : Nat) (0 : Int)))
                                          (min
                                            (wrapI IntKind.i64
                                                ((134 : Int) +
                                                  (↑(n % BitVec.ofInt (8 : Nat) (5 : Int)).toNat : Int))).toNat
                                            (List.drop (0 : Nat)
                                                (List.take
                                                  ((some
                                                          (if (140 : Int) < (↑s.length : Int) then (140 : Int)
                                                          else (↑s.length : Int))).getD
                                                      (↑s.length : Int)).toNat
                                                  s)).length))) ++
                                    bytesOf (ByteArray.mk #[OfNat.ofNat (1 : Nat)])) &&
                                ((if true = true then
                                    sumO
                                        (List.take
                                            (wrapI IntKind.i64
                                                ((134 : Int) +
                                                  (↑(n % BitVec.ofInt (8 : Nat) (5 : Int)).toNat : Int))).toNat
                                            (List.drop (0 : Nat)
                                              (copyF
                                                (List.drop (0 : Nat)
                                                  (List.take
                                                    ((some
                                                            (if (140 : Int) < (↑s.length : Int) then (140 : Int)
                                                            else (↑s.length : Int))).getD
                                                        (↑s.length : Int)).toNat
                                                    s))
                                                (List.replicate
                                                  (wrapI IntKind.i64
                                                      ((134 : Int) +
                                                        (↑(n % BitVec.ofInt (8 : Nat) (5 : Int)).toNat : Int))).toNat
                                                  (BitVec.ofInt (8 : Nat) (0 : Int)))
                                                (min
                                                  (wrapI IntKind.i64
                                                      ((134 : Int) +
                                                        (↑(n % BitVec.ofInt (8 : Nat) (5 : Int)).toNat : Int))).toNat
                                                  (List.drop (0 : Nat)
                                                      (List.take
                                                        ((some
                                                                (if (140 : Int) < (↑s.length : Int) then (140 : Int)
                                                                else (↑s.length : Int))).getD
                                                            (↑s.length : Int)).toNat
                                                        s)).length))) ++
                                          bytesOf (ByteArray.mk #[OfNat.ofNat (1 : Nat)])) ==
                                      sumO
                                        (List.take
                                            (wrapI IntKind.i64
                                                ((134 : Int) +
                                                  (↑(n % BitVec.ofInt (8 : Nat) (5 : Int)).toNat : Int))).toNat
                                            (List.drop (0 : Nat)
                                              (copyF
                                                (List.drop (0 : Nat)
                                                  (List.take
                                                    ((some
                                                            (if (140 : Int) < (↑s.length : Int) then (140 : Int)
                                                            else (↑s.length : Int))).getD
                                                        (↑s.length : Int)).toNat
                                                    s))
                                                (List.replicate
                                                  (wrapI IntKind.i64
                                                      ((134 : Int) +
                                                        (↑(n % BitVec.ofInt (8 : Nat) (5 : Int)).toNat : Int))).toNat
                                                  (BitVec.ofInt (8 : Nat) (0 : Int)))
                                                (min
                                                  (wrapI IntKind.i64
                                                      ((134 : Int) +
                                                        (↑(n % BitVec.ofInt (8 : Nat) (5 : Int)).toNat : Int))).toNat
                                                  (List.drop (0 : Nat)
                                                      (List.take
                                                        ((some
                                                                (if (140 : Int) < (↑s.length : Int) then (140 : Int)
                                                                else (↑s.length : Int))).getD
                                                            (↑s.length : Int)).toNat
                                                        s)).length))) ++
                                          bytesOf (ByteArray.mk #[OfNat.ofNat (1 : Nat)]))
                                  else
                                    !sumO
                                          (List.take
                                              (wrapI IntKind.i64
                                                  ((134 : Int) +
                                                    (↑(n % BitVec.ofInt (8 : Nat) (5 : Int)).toNat : Int))).toNat
                                              (List.drop (0 : Nat)
                                                (copyF
                                                  (List.drop (0 : Nat)
                                                    (List.take
                                                      ((some
                                                              (if (140 : Int) < (↑s.length : Int) then (140 : Int)
                                                              else (↑s.length : Int))).getD
                                                          (↑s.length : Int)).toNat
                                                      s))
                                                  (List.replicate
                                                    (wrapI IntKind.i64
                                                        ((134 : Int) +
                                                          (↑(n % BitVec.ofInt (8 : Nat) (5 : Int)).toNat : Int))).toNat
                                                    (BitVec.ofInt (8 : Nat) (0 : Int)))
                                                  (min
                                                    (wrapI IntKind.i64
                                                        ((134 : Int) +
                                                          (↑(n % BitVec.ofInt (8 : Nat) (5 : Int)).toNat : Int))).toNat
                                                    (List.drop (0 : Nat)
                                                        (List.take
                                                          ((some
                                                                  (if (140 : Int) < (↑s.length : Int) then (140 : Int)
                                                                  else (↑s.length : Int))).getD
                                                              (↑s.length : Int)).toNat
                                                          s)).length))) ++
                                            bytesOf (ByteArray.mk #[OfNat.ofNat (1 : Nat)])) ==
                                        sumO
                                          (List.take
                                              (wrapI IntKind.i64
                                                  ((134 : Int) +
                                                    (↑(n % BitVec.ofInt (8 : Nat) (5 : Int)).toNat : Int))).toNat
                                              (List.drop (0 : Nat)
                                                (copyF
                                                  (List.drop (0 : Nat)
                                                    (List.take
                                                      ((some
                                                              (if (140 : Int) < (↑s.length : Int) then (140 : Int)
                                                              else (↑s.length : Int))).getD
                                                          (↑s.length : Int)).toNat
                                                      s))
                                                  (List.replicate
                                                    (wrapI IntKind.i64
                                                        ((134 : Int) +
                                                          (↑(n % BitVec.ofInt (8 : Nat) (5 : Int)).toNat : Int))).toNat
                                                    (BitVec.ofInt (8 : Nat) (0 : Int)))
                                                  (min
                                                    (wrapI IntKind.i64
                                                        ((134 : Int) +
                                                          (↑(n % BitVec.ofInt (8 : Nat) (5 : Int)).toNat : Int))).toNat
                                                    (List.drop (0 : Nat)
                                                        (List.take
                                                          ((some
                                                                  (if (140 : Int) < (↑s.length : Int) then (140 : Int)
                                                                  else (↑s.length : Int))).getD
                                                              (↑s.length : Int)).toNat
                                                          s)).length))) ++
                                            bytesOf (ByteArray.mk #[OfNat.ofNat (1 : Nat)]))) &&
                                  true))))))) &&
                  true))))) &&
      true,
    Fin.ret (V.bool true), []) := by kernel_rfl
def toU : V → BitVec 64
  | .u64 x => x
  | _ => 0
def copyG (g : Nat → Nat → V) (xs : List (BitVec 64)) : Nat → List (BitVec 64)
  | 0 => xs
  | n + 1 => (copyG g xs n).set n (toU (g n 0))
theorem copyG_length (g : Nat → Nat → V) (xs : List (BitVec 64)) : ∀ n, (copyG g xs n).length = xs.length
  | 0 => rfl
  | n + 1 => by simp [copyG, copyG_length g xs n]
theorem qp_on (f : Nat → BitVec 64) (len : Nat) (hd : Bool) (xs : List (BitVec 64)) (n : Nat) :
  execN Pr (withAsm noOrc [((12 : Nat), true), ((15 : Nat), true)]) noLoops [] (100 : Nat) (0 : Nat)
  [(0 : Nat), (3 : Nat), (4 : Nat), (5 : Nat)] (loopBody Go.Proofs.Try.f4 (0 : Nat))
  [((0 : Nat), V.isl (1 : Nat) len fun i x ↦ V.u64 (f i)), ((3 : Nat), V.bool hd),
    ((4 : Nat), V.ptr (0 : Nat) (0 : Nat)), ((5 : Nat), V.int IntKind.i64 (↑n : Int))]
  [Blk.b64 xs] =
  some
  ((if true = true then decide ((↑n : Int) < (25 : Int)) else !decide ((↑n : Int) < (25 : Int))) &&
          ((if true = true then decide ((↑n : Int) < (↑len : Int)) else !decide ((↑n : Int) < (↑len : Int))) && true) &&
        true &&
      (decide ((0 : Int) ≤ (↑n : Int)) && decide ((↑n : Int) < (↑len : Int)) &&
          (decide ((↑n : Int).toNat < len) && true &&
            (decide ((0 : Int) ≤ (↑n : Int)) && decide ((↑n : Int) < (25 : Int)) &&
              (decide
                  ((0 : Nat) + (↑n : Int).toNat * (1 : Nat) +
                      [(fun i x ↦ V.u64 (f i)) (↑n : Int).toNat (0 : Nat)].length ≤
                    xs.length) &&
                true))) &&
        true),
    X.normal,
    [((0 : Nat), V.isl (1 : Nat) len fun i x ↦ V.u64 (f i)), ((3 : Nat), V.bool hd),
      ((4 : Nat), V.ptr (0 : Nat) (0 : Nat)),
      ((5 : Nat), V.int IntKind.i64 (wrapI IntKind.i64 ((↑n : Int) + (1 : Int))))],
    [Blk.b64 (xs.set ((0 : Nat) + (↑n : Int).toNat * (1 : Nat)) (f (↑n : Int).toNat))]) := by kernel_rfl
theorem qp_off0 (f : Nat → BitVec 64) (len : Nat) (hd : Bool) (xs : List (BitVec 64)) (n : Nat) :
  execN Pr (withAsm noOrc [((12 : Nat), false)]) noLoops [] (100 : Nat) (0 : Nat) [(3 : Nat), (4 : Nat)]
  (loopBody Go.Proofs.Try.f4 (0 : Nat))
  [((0 : Nat), V.isl (1 : Nat) len fun i x ↦ V.u64 (f i)), ((3 : Nat), V.bool hd),
    ((4 : Nat), V.ptr (0 : Nat) (0 : Nat)), ((5 : Nat), V.int IntKind.i64 (↑n : Int))]
  [Blk.b64 xs] =
  some
  ((if false = true then decide ((↑n : Int) < (25 : Int)) else !decide ((↑n : Int) < (25 : Int))) && true && true,
    X.exit (0 : Nat), [((3 : Nat), V.bool hd), ((4 : Nat), V.ptr (0 : Nat) (0 : Nat))], [Blk.b64 xs]) := by kernel_rfl
theorem qp_off1 (f : Nat → BitVec 64) (len : Nat) (hd : Bool) (xs : List (BitVec 64)) (n : Nat) :
  execN Pr (withAsm noOrc [((12 : Nat), true), ((15 : Nat), false)]) noLoops [] (100 : Nat) (0 : Nat)
  [(3 : Nat), (4 : Nat)] (loopBody Go.Proofs.Try.f4 (0 : Nat))
  [((0 : Nat), V.isl (1 : Nat) len fun i x ↦ V.u64 (f i)), ((3 : Nat), V.bool hd),
    ((4 : Nat), V.ptr (0 : Nat) (0 : Nat)), ((5 : Nat), V.int IntKind.i64 (↑n : Int))]
  [Blk.b64 xs] =
  some
  ((if true = true then decide ((↑n : Int) < (25 : Int)) else !decide ((↑n : Int) < (25 : Int))) &&
        ((if false = true then decide ((↑n : Int) < (↑len : Int)) else !decide ((↑n : Int) < (↑len : Int))) && true) &&
      true,
    X.exit (0 : Nat), [((3 : Nat), V.bool hd), ((4 : Nat), V.ptr (0 : Nat) (0 : Nat))], [Blk.b64 xs]) := by kernel_rfl
def qp_S : (Nat → Nat → V) × Nat × Bool × (List (BitVec 64)) → Nat → Fr × Heap := fun ⟨g, len, hd, xs⟩ n => ([(0, .isl 1 len g), (3, .bool hd), (4, .ptr 0 0), (5, .int .i64 n)], [.b64 (copyG g xs n)])
def qp_read : Fr → Heap → Option ((Nat → Nat → V) × Nat × Bool × (List (BitVec 64))) := fun f h => match f, h with
  | [(0, .isl 1 len g), (3, .bool hd), (4, .ptr 0 0), (5, .int .i64 0)], [.b64 xs] => some (g, len, hd, xs)
  | _, _ => none
open Classical in
def qp_ok : (Nat → Nat → V) × Nat × Bool × (List (BitVec 64)) → Bool := fun ⟨g, len, hd, xs⟩ => decide (xs.length = 25) && decide (g = fun i _ => .u64 (toU (g i 0))) && decide (len < 100000000000000000000)
def qp_E : (Nat → Nat → V) × Nat × Bool × (List (BitVec 64)) → X × Fr × Heap := fun ⟨g, len, hd, xs⟩ => (.exit 0, [(3, .bool hd), (4, .ptr 0 0)], [.b64 (copyG g xs (min 25 len))])
def qp_m : (Nat → Nat → V) × Nat × Bool × (List (BitVec 64)) → Nat := fun ⟨g, len, hd, xs⟩ => min 25 len
def qp_k : Nat := 0
def qp_s : Sm := whS 6 [0,3,4,5] qp_read qp_ok qp_E
theorem qp_at : SmAt Pr Go.Proofs.Try.f4 0 qp_s qp_k := by
  refine cnt_at qp_S qp_m (by kernel_rfl) (by kernel_rfl) ?_ ?_ ?_ ?_
  · intro f g a h
    unfold qp_read at h
    split at h <;> cases h
    rfl
  · intro a h; cases h
  · rintro ⟨g, len, hd, xs⟩ hok n hn
    simp only [qp_m] at hn
    simp only [qp_ok] at hok
    simp only [Bool.and_eq_true, decide_eq_true_eq] at hok
    obtain ⟨⟨h1, h2⟩, h3⟩ := hok
    obtain ⟨f, rfl⟩ : ∃ f : Nat → BitVec 64, g = fun i _ => .u64 (f i) := ⟨fun i => toU (g i 0), h2⟩
    have hl := copyG_length (fun i _ => .u64 (f i)) xs n
    refine execN_sound (withAsm_sound (noOrc_sound _)) mixed (LoopsOk.innerAt LoopsOk.none 0) (by kernel_rfl) (by intro v h; cases h) ((qp_on f len hd (copyG (fun i _ => .u64 (f i)) xs n) n).trans ?_)
    refine stX ?_ ?_ ?_
    · (try simp (disch := omega) only [tmod_lit, tdiv_lit, mul_lit, add_lit, lit_mul, lit_add, add_nat, mul_nat, sub_lit, lit_sub, sub_nat, wrapI_nat, wrapI_in, Int.toNat_natCast, Nat.mul_one, Nat.zero_add, toNat_lit])
      (try simp only [Bool.and_eq_true, Bool.and_true, Bool.true_and, decide_eq_true_eq, Bool.not_eq_true', decide_eq_false_iff_not, if_true, Bool.false_eq_true, if_false, List.length_set, List.length_append, List.length_replicate, List.length_cons, List.length_nil, Blk.len])
      (repeat' apply And.intro) <;> first | omega | exact True.intro | rfl | decide
    · first | rfl | (simp (disch := omega) only [tmod_lit, tdiv_lit, mul_lit, add_lit, lit_mul, lit_add, add_nat, mul_nat, sub_lit, lit_sub, sub_nat, wrapI_nat, wrapI_in, Int.toNat_natCast, Nat.mul_one, Nat.zero_add, toNat_lit] <;> rfl) | (simp (disch := omega) only [tmod_lit, tdiv_lit, mul_lit, add_lit, lit_mul, lit_add, add_nat, mul_nat, sub_lit, lit_sub, sub_nat, wrapI_nat, wrapI_in, Int.toNat_natCast, Nat.mul_one, Nat.zero_add, toNat_lit]; done)
    · first | rfl | (simp (disch := omega) only [tmod_lit, tdiv_lit, mul_lit, add_lit, lit_mul, lit_add, add_nat, mul_nat, sub_lit, lit_sub, sub_nat, wrapI_nat, wrapI_in, Int.toNat_natCast, Nat.mul_one, Nat.zero_add, toNat_lit] <;> rfl) | (simp (disch := omega) only [tmod_lit, tdiv_lit, mul_lit, add_lit, lit_mul, lit_add, add_nat, mul_nat, sub_lit, lit_sub, sub_nat, wrapI_nat, wrapI_in, Int.toNat_natCast, Nat.mul_one, Nat.zero_add, toNat_lit]; done)
  · rintro ⟨g, len, hd, xs⟩ hok
    simp only [qp_ok] at hok
    simp only [Bool.and_eq_true, decide_eq_true_eq] at hok
    obtain ⟨⟨h1, h2⟩, h3⟩ := hok
    obtain ⟨f, rfl⟩ : ∃ f : Nat → BitVec 64, g = fun i _ => .u64 (f i) := ⟨fun i => toU (g i 0), h2⟩
    have hl := copyG_length (fun i _ => .u64 (f i)) xs (min 25 len)
    by_cases hc : 25 ≤ len
    · refine execN_sound (withAsm_sound (noOrc_sound _)) mixed (LoopsOk.innerAt LoopsOk.none 0) (by kernel_rfl) (by intro v h; cases h) ((qp_off0 f len hd (copyG (fun i _ => .u64 (f i)) xs (min 25 len)) (min 25 len)).trans ?_)
      refine stX ?_ ?_ ?_
      · (try simp (disch := omega) only [tmod_lit, tdiv_lit, mul_lit, add_lit, lit_mul, lit_add, add_nat, mul_nat, sub_lit, lit_sub, sub_nat, wrapI_nat, wrapI_in, Int.toNat_natCast, Nat.mul_one, Nat.zero_add, toNat_lit])
        (try simp only [Bool.and_eq_true, Bool.and_true, Bool.true_and, decide_eq_true_eq, Bool.not_eq_true', decide_eq_false_iff_not, if_true, Bool.false_eq_true, if_false, List.length_set, List.length_append, List.length_replicate, List.length_cons, List.length_nil, Blk.len])
        (repeat' apply And.intro) <;> first | omega | exact True.intro | rfl | decide
      · first | rfl | (simp (disch := omega) only [tmod_lit, tdiv_lit, mul_lit, add_lit, lit_mul, lit_add, add_nat, mul_nat, sub_lit, lit_sub, sub_nat, wrapI_nat, wrapI_in, Int.toNat_natCast, Nat.mul_one, Nat.zero_add, toNat_lit] <;> rfl) | (simp (disch := omega) only [tmod_lit, tdiv_lit, mul_lit, add_lit, lit_mul, lit_add, add_nat, mul_nat, sub_lit, lit_sub, sub_nat, wrapI_nat, wrapI_in, Int.toNat_natCast, Nat.mul_one, Nat.zero_add, toNat_lit]; done)
      · first | rfl | (simp (disch := omega) only [tmod_lit, tdiv_lit, mul_lit, add_lit, lit_mul, lit_add, add_nat, mul_nat, sub_lit, lit_sub, sub_nat, wrapI_nat, wrapI_in, Int.toNat_natCast, Nat.mul_one, Nat.zero_add, toNat_lit] <;> rfl) | (simp (disch := omega) only [tmod_lit, tdiv_lit, mul_lit, add_lit, lit_mul, lit_add, add_nat, mul_nat, sub_lit, lit_sub, sub_nat, wrapI_nat, wrapI_in, Int.toNat_natCast, Nat.mul_one, Nat.zero_add, toNat_lit]; done)
    · refine execN_sound (withAsm_sound (noOrc_sound _)) mixed (LoopsOk.innerAt LoopsOk.none 0) (by kernel_rfl) (by intro v h; cases h) ((qp_off1 f len hd (copyG (fun i _ => .u64 (f i)) xs (min 25 len)) (min 25 len)).trans ?_)
      refine stX ?_ ?_ ?_
      · (try simp (disch := omega) only [tmod_lit, tdiv_lit, mul_lit, add_lit, lit_mul, lit_add, add_nat, mul_nat, sub_lit, lit_sub, sub_nat, wrapI_nat, wrapI_in, Int.toNat_natCast, Nat.mul_one, Nat.zero_add, toNat_lit])
        (try simp only [Bool.and_eq_true, Bool.and_true, Bool.true_and, decide_eq_true_eq, Bool.not_eq_true', decide_eq_false_iff_not, if_true, Bool.false_eq_true, if_false, List.length_set, List.length_append, List.length_replicate, List.length_cons, List.length_nil, Blk.len])
        (repeat' apply And.intro) <;> first | omega | exact True.intro | rfl | decide
      · first | rfl | (simp (disch := omega) only [tmod_lit, tdiv_lit, mul_lit, add_lit, lit_mul, lit_add, add_nat, mul_nat, sub_lit, lit_sub, sub_nat, wrapI_nat, wrapI_in, Int.toNat_natCast, Nat.mul_one, Nat.zero_add, toNat_lit] <;> rfl) | (simp (disch := omega) only [tmod_lit, tdiv_lit, mul_lit, add_lit, lit_mul, lit_add, add_nat, mul_nat, sub_lit, lit_sub, sub_nat, wrapI_nat, wrapI_in, Int.toNat_natCast, Nat.mul_one, Nat.zero_add, toNat_lit]; done)
      · first | rfl | (simp (disch := omega) only [tmod_lit, tdiv_lit, mul_lit, add_lit, lit_mul, lit_add, add_nat, mul_nat, sub_lit, lit_sub, sub_nat, wrapI_nat, wrapI_in, Int.toNat_natCast, Nat.mul_one, Nat.zero_add, toNat_lit] <;> rfl) | (simp (disch := omega) only [tmod_lit, tdiv_lit, mul_lit, add_lit, lit_mul, lit_add, add_nat, mul_nat, sub_lit, lit_sub, sub_nat, wrapI_nat, wrapI_in, Int.toNat_natCast, Nat.mul_one, Nat.zero_add, toNat_lit]; done)
end
end Go.Proofs.Ytggblpmijekemaa.K
