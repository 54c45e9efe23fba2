/- The document's Sum. -/
import Derived.Test.YtggblpmijekemaaK10
import Derived.Test.YtggblpmijekemaaK7
set_option linter.unusedSimpArgs false
set_option linter.unusedVariables false
open Go Go.Lh
namespace Go.Proofs.Ytggblpmijekemaa.K
noncomputable section
set_option maxRecDepth 100000
structure PA where
  xs : List (BitVec 64)
  cp : Option Nat
def permRG_read : List V → Heap → Option PA := fun f h => match f, h with
  | [.sl 0 0 1 25 cp], [.b64 xs] => some ⟨xs, cp⟩
  | _, _ => none
def permRG_okf : PA → Bool := fun a => decide (a.xs.length = 25)
def permRG := ct permRG_read permRG_okf (fun _ => .ret (.sl 1 0 1 25 (some 25))) (fun a => [.b64 a.xs, .b64 (permL a.xs)])
theorem permRG_ok : ∀ args h fin h', permRG args h = some (true, fin, h') → LFn Pr 12 args h fin h' := by
  refine ct_ok (fun a => [.sl 0 0 1 25 a.cp]) (fun a => [.b64 a.xs]) ?_ ?_
  · intro args h a e
    unfold permRG_read at e
    split at e <;> cases e
    exact ⟨rfl, rfl⟩
  · rintro ⟨xs, cp⟩ hok
    have h1 : xs.length = 25 := of_decide_eq_true hok
    have := rperm_fn xs cp h1
    rw [permR_eq xs h1] at this
    exact this
def OV : Orc := auto Pr noExt [(12, permRG)] [] 3
theorem OV_sound : OrcSound Pr OV := auto_sound mixed noExt_ok (KOk.cons rperm_en permRG_ok KOk.nil) (by kernel_rfl) 3
/-- zeros behind -/
def padN (bs : List (BitVec 8)) : Nat → List (BitVec 8)
  | 0 => bs
  | n + 1 => padN bs n ++ [0#8]
theorem padN_length (bs : List (BitVec 8)) : ∀ n, (padN bs n).length = bs.length + n
  | 0 => rfl
  | n + 1 => by simp [padN, padN_length bs n]; omega
theorem padN_eq (bs : List (BitVec 8)) : ∀ n, padN bs n = bs ++ List.replicate n 0#8
  | 0 => by simp [padN]
  | n + 1 => by rw [padN, padN_eq bs n, List.append_assoc, List.replicate_succ']
theorem rs0_on (l : Nat) (bs : List (BitVec 8)) (n : Nat) :
  execN Pr noOrc noLoops [((16 : Nat), true)] (100 : Nat) (0 : Nat) [(3 : Nat)] (loopBody Go.Proofs.Try.f10 (0 : Nat))
  [((3 : Nat), V.sl (0 : Nat) (0 : Nat) (1 : Nat) l none)] [Blk.b8 bs] =
  some
  ((if true = true then (↑l : Int).tmod (136 : Int) != (0 : Int) else !(↑l : Int).tmod (136 : Int) != (0 : Int)) &&
        true &&
      (decide ((0 : Nat) + l * (1 : Nat) ≤ bs.length) &&
            (decide (l + (1 : Nat) ≤ (70368744177664 : Nat)) &&
                decide (((2 : Nat) * (l + (1 : Nat)) + (1024 : Nat)) * (1 : Nat) ≤ (281474976710656 : Nat)) &&
              true) &&
          true &&
        true),
    X.normal, [((3 : Nat), V.sl (0 : Nat) (0 : Nat) (1 : Nat) (l + (1 : Nat)) none)],
    [Blk.b8
        (List.take (l * (1 : Nat)) (List.drop (0 : Nat) bs) ++
          List.take (1 : Nat) (List.drop (0 : Nat) [BitVec.ofInt (8 : Nat) (0 : Int)]))]) := by kernel_rfl
theorem rs0_off (l : Nat) (bs : List (BitVec 8)) (n : Nat) :
  execN Pr noOrc noLoops [((16 : Nat), false)] (100 : Nat) (0 : Nat) [(3 : Nat)] (loopBody Go.Proofs.Try.f10 (0 : Nat))
  [((3 : Nat), V.sl (0 : Nat) (0 : Nat) (1 : Nat) l none)] [Blk.b8 bs] =
  some
  ((if false = true then (↑l : Int).tmod (136 : Int) != (0 : Int) else !(↑l : Int).tmod (136 : Int) != (0 : Int)) &&
      true,
    X.exit (0 : Nat), [((3 : Nat), V.sl (0 : Nat) (0 : Nat) (1 : Nat) l none)], [Blk.b8 bs]) := by kernel_rfl
def rs0_S : Nat × (List (BitVec 8)) → Nat → Fr × Heap := fun ⟨l, bs⟩ n => ([(3, .sl 0 0 1 (l + n) none)], [.b8 (padN bs n)])
def rs0_read : Fr → Heap → Option (Nat × (List (BitVec 8))) := fun f h => match f, h with
  | [(3, .sl 0 0 1 l none)], [.b8 bs] => some (l, bs)
  | _, _ => none
def rs0_ok : Nat × (List (BitVec 8)) → Bool := fun ⟨l, bs⟩ => decide (bs.length = l) && decide (l ≤ 1000000000001)
def rs0_E : Nat × (List (BitVec 8)) → X × Fr × Heap := fun ⟨l, bs⟩ => (.exit 0, [(3, .sl 0 0 1 (l + ((136 - l % 136) % 136)) none)], [.b8 (padN bs ((136 - l % 136) % 136))])
def rs0_m : Nat × (List (BitVec 8)) → Nat := fun ⟨l, bs⟩ => (136 - l % 136) % 136
def rs0_k : Nat := 0
def rs0_s : Sm := whS 2 [3] rs0_read rs0_ok rs0_E
theorem rs0_at : SmAt Pr Go.Proofs.Try.f10 0 rs0_s rs0_k := by
  refine cnt_at rs0_S rs0_m (by kernel_rfl) (by kernel_rfl) ?_ ?_ ?_ ?_
  · intro f g a h
    unfold rs0_read at h
    split at h <;> cases h
    rfl
  · intro a h; cases h
  · rintro ⟨l, bs⟩ hok n hn
    simp only [rs0_m] at hn
    simp only [rs0_ok] at hok
    simp only [Bool.and_eq_true, decide_eq_true_eq] at hok
    obtain ⟨h1, h2⟩ := hok
    have hl := padN_length bs n
    have e1 : ((l + n : Nat) : Int).tmod 136 = (((l + n) % 136 : Nat) : Int) := tmod_lit _ 136
    refine execN_sound (noOrc_sound _) mixed (LoopsOk.innerAt LoopsOk.none 0) (by kernel_rfl) (by intro v h; cases h) ((rs0_on ((l + n)) ((padN bs n)) (n)).trans ?_)
    refine stX ?_ ?_ ?_
    · have e2 : (l + n) % 136 ≠ 0 := by omega
      have e3 : (((l + n) % 136 : Nat) : Int) ≠ 0 := by omega
      rw [e1]; simp [hl, h1, e3]; omega
    · first | rfl | (simp (disch := omega) only [tmod_lit, tdiv_lit, mul_lit, add_lit, lit_mul, lit_add, add_nat, mul_nat, sub_lit, lit_sub, sub_nat, wrapI_nat, wrapI_in, Int.toNat_natCast, Nat.mul_one, Nat.zero_add, toNat_lit] <;> rfl) | (simp (disch := omega) only [tmod_lit, tdiv_lit, mul_lit, add_lit, lit_mul, lit_add, add_nat, mul_nat, sub_lit, lit_sub, sub_nat, wrapI_nat, wrapI_in, Int.toNat_natCast, Nat.mul_one, Nat.zero_add, toNat_lit]; done)
    · have : List.take ((l + n) * 1) (List.drop 0 (padN bs n)) = padN bs n := by rw [List.drop_zero, Nat.mul_one, List.take_of_length_le (by omega)]
      rw [this]; rfl
  · rintro ⟨l, bs⟩ hok
    simp only [rs0_ok] at hok
    simp only [Bool.and_eq_true, decide_eq_true_eq] at hok
    obtain ⟨h1, h2⟩ := hok
    have hl := padN_length bs ((136 - l % 136) % 136)
    have e1 : ((l + (136 - l % 136) % 136 : Nat) : Int).tmod 136 = (((l + (136 - l % 136) % 136) % 136 : Nat) : Int) := tmod_lit _ 136
    have e2 : (l + (136 - l % 136) % 136) % 136 = 0 := by omega
    refine execN_sound (noOrc_sound _) mixed (LoopsOk.innerAt LoopsOk.none 0) (by kernel_rfl) (by intro v h; cases h) ((rs0_off ((l + ((136 - l % 136) % 136))) ((padN bs ((136 - l % 136) % 136))) (((136 - l % 136) % 136))).trans ?_)
    refine stX ?_ ?_ ?_
    · rw [e1, e2]; simp
    · first | rfl | (simp (disch := omega) only [tmod_lit, tdiv_lit, mul_lit, add_lit, lit_mul, lit_add, add_nat, mul_nat, sub_lit, lit_sub, sub_nat, wrapI_nat, wrapI_in, Int.toNat_natCast, Nat.mul_one, Nat.zero_add, toNat_lit] <;> rfl) | (simp (disch := omega) only [tmod_lit, tdiv_lit, mul_lit, add_lit, lit_mul, lit_add, add_nat, mul_nat, sub_lit, lit_sub, sub_nat, wrapI_nat, wrapI_in, Int.toNat_natCast, Nat.mul_one, Nat.zero_add, toNat_lit]; done)
    · rfl
theorem rs2_on (l : Nat) (bs : List (BitVec 8)) (xs : List (BitVec 64)) (cp : Option Nat) (at_ : Int) (n : Nat) :
  execN Pr noOrc noLoops [((40 : Nat), true)] (100 : Nat) (0 : Nat) [(3 : Nat), (4 : Nat), (5 : Nat), (6 : Nat)]
  (loopBody Go.Proofs.Try.f10 (2 : Nat))
  [((3 : Nat), V.sl (0 : Nat) (0 : Nat) (1 : Nat) l cp),
    ((4 : Nat), V.sl (1 : Nat) (0 : Nat) (1 : Nat) (25 : Nat) (some (25 : Nat))), ((5 : Nat), V.int IntKind.i64 at_),
    ((6 : Nat), V.int IntKind.i64 (↑n : Int))]
  [Blk.b8 bs, Blk.b64 xs] =
  some
  ((if true = true then decide ((↑n : Int) < (136 : Int)) else !decide ((↑n : Int) < (136 : Int))) && true &&
      (decide ((0 : Int) ≤ wrapI IntKind.i64 ((↑n : Int).tdiv (8 : Int))) &&
            decide (wrapI IntKind.i64 ((↑n : Int).tdiv (8 : Int)) < (25 : Int)) &&
          (decide ((0 : Nat) + (wrapI IntKind.i64 ((↑n : Int).tdiv (8 : Int))).toNat * (1 : Nat) < xs.length) &&
            (decide ((0 : Int) ≤ wrapI IntKind.i64 (at_ + (↑n : Int))) &&
                decide (wrapI IntKind.i64 (at_ + (↑n : Int)) < (↑l : Int)) &&
              (decide ((0 : Nat) + (wrapI IntKind.i64 (at_ + (↑n : Int))).toNat * (1 : Nat) < bs.length) &&
                (decide ((0 : Int) ≤ wrapI IntKind.i64 ((8 : Int) * (↑n : Int).tmod (8 : Int))) &&
                  (decide ((0 : Int) ≤ wrapI IntKind.i64 ((↑n : Int).tdiv (8 : Int))) &&
                      decide (wrapI IntKind.i64 ((↑n : Int).tdiv (8 : Int)) < (25 : Int)) &&
                    (decide
                        ((0 : Nat) + (wrapI IntKind.i64 ((↑n : Int).tdiv (8 : Int))).toNat * (1 : Nat) +
                            [V.u64
                                  (xs.getD
                                      ((0 : Nat) + (wrapI IntKind.i64 ((↑n : Int).tdiv (8 : Int))).toNat * (1 : Nat))
                                      (OfNat.ofNat (0 : Nat)) ^^^
                                    BitVec.setWidth (64 : Nat)
                                        (bs.getD ((0 : Nat) + (wrapI IntKind.i64 (at_ + (↑n : Int))).toNat * (1 : Nat))
                                          (OfNat.ofNat (0 : Nat))) <<<
                                      (wrapI IntKind.i64 ((8 : Int) * (↑n : Int).tmod (8 : Int))).toNat)].length ≤
                          xs.length) &&
                      true)))))) &&
        true),
    X.normal,
    [((3 : Nat), V.sl (0 : Nat) (0 : Nat) (1 : Nat) l cp),
      ((4 : Nat), V.sl (1 : Nat) (0 : Nat) (1 : Nat) (25 : Nat) (some (25 : Nat))), ((5 : Nat), V.int IntKind.i64 at_),
      ((6 : Nat), V.int IntKind.i64 (wrapI IntKind.i64 ((↑n : Int) + (1 : Int))))],
    [Blk.b8 bs,
      Blk.b64
        (xs.set ((0 : Nat) + (wrapI IntKind.i64 ((↑n : Int).tdiv (8 : Int))).toNat * (1 : Nat))
          (xs.getD ((0 : Nat) + (wrapI IntKind.i64 ((↑n : Int).tdiv (8 : Int))).toNat * (1 : Nat))
              (OfNat.ofNat (0 : Nat)) ^^^
            BitVec.setWidth (64 : Nat)
                (bs.getD ((0 : Nat) + (wrapI IntKind.i64 (at_ + (↑n : Int))).toNat * (1 : Nat))
                  (OfNat.ofNat (0 : Nat))) <<<
              (wrapI IntKind.i64 ((8 : Int) * (↑n : Int).tmod (8 : Int))).toNat))]) := by kernel_rfl
theorem rs2_off (l : Nat) (bs : List (BitVec 8)) (xs : List (BitVec 64)) (cp : Option Nat) (at_ : Int) (n : Nat) :
  execN Pr noOrc noLoops [((40 : Nat), false)] (100 : Nat) (0 : Nat) [(3 : Nat), (4 : Nat), (5 : Nat)]
  (loopBody Go.Proofs.Try.f10 (2 : Nat))
  [((3 : Nat), V.sl (0 : Nat) (0 : Nat) (1 : Nat) l cp),
    ((4 : Nat), V.sl (1 : Nat) (0 : Nat) (1 : Nat) (25 : Nat) (some (25 : Nat))), ((5 : Nat), V.int IntKind.i64 at_),
    ((6 : Nat), V.int IntKind.i64 (↑n : Int))]
  [Blk.b8 bs, Blk.b64 xs] =
  some
  ((if false = true then decide ((↑n : Int) < (136 : Int)) else !decide ((↑n : Int) < (136 : Int))) && true,
    X.exit (4 : Nat),
    [((3 : Nat), V.sl (0 : Nat) (0 : Nat) (1 : Nat) l cp),
      ((4 : Nat), V.sl (1 : Nat) (0 : Nat) (1 : Nat) (25 : Nat) (some (25 : Nat))), ((5 : Nat), V.int IntKind.i64 at_)],
    [Blk.b8 bs, Blk.b64 xs]) := by kernel_rfl
def rs2_S : Nat × (List (BitVec 8)) × (List (BitVec 64)) × (Option Nat) × Int → Nat → Fr × Heap := fun ⟨l, bs, xs, cp, at_⟩ n => ([(3, .sl 0 0 1 l cp), (4, .sl 1 0 1 25 (some 25)), (5, .int .i64 at_), (6, .int .i64 n)], [.b8 bs, .b64 (absN at_.toNat bs n xs)])
def rs2_read : Fr → Heap → Option (Nat × (List (BitVec 8)) × (List (BitVec 64)) × (Option Nat) × Int) := fun f h => match f, h with
  | [(3, .sl 0 0 1 l cp), (4, .sl 1 0 1 25 (some 25)), (5, .int .i64 at_), (6, .int .i64 0)], [.b8 bs, .b64 xs] => some (l, bs, xs, cp, at_)
  | _, _ => none
def rs2_ok : Nat × (List (BitVec 8)) × (List (BitVec 64)) × (Option Nat) × Int → Bool := fun ⟨l, bs, xs, cp, at_⟩ => decide (xs.length = 25) && decide (0 ≤ at_) && decide (at_.toNat + 136 ≤ l) && decide (bs.length = l) && decide (l ≤ 2000000000000)
def rs2_E : Nat × (List (BitVec 8)) × (List (BitVec 64)) × (Option Nat) × Int → X × Fr × Heap := fun ⟨l, bs, xs, cp, at_⟩ => (.exit 4, [(3, .sl 0 0 1 l cp), (4, .sl 1 0 1 25 (some 25)), (5, .int .i64 at_)], [.b8 bs, .b64 (absN at_.toNat bs (136) xs)])
def rs2_m : Nat × (List (BitVec 8)) × (List (BitVec 64)) × (Option Nat) × Int → Nat := fun ⟨l, bs, xs, cp, at_⟩ => 136
def rs2_k : Nat := 2
def rs2_s : Sm := whS 10 [3,4,5,6] rs2_read rs2_ok rs2_E
theorem rs2_at : SmAt Pr Go.Proofs.Try.f10 0 rs2_s rs2_k := by
  refine cnt_at rs2_S rs2_m (by kernel_rfl) (by kernel_rfl) ?_ ?_ ?_ ?_
  · intro f g a h
    unfold rs2_read at h
    split at h <;> cases h
    rfl
  · intro a h; cases h
  · rintro ⟨l, bs, xs, cp, at_⟩ hok n hn
    simp only [rs2_m] at hn
    simp only [rs2_ok] at hok
    simp only [Bool.and_eq_true, decide_eq_true_eq] at hok
    obtain ⟨⟨⟨⟨h1, h2⟩, h3⟩, h4⟩, h5⟩ := hok
    obtain ⟨u, rfl⟩ : ∃ u : Nat, at_ = u := ⟨at_.toNat, by omega⟩
    have hx := absN_length u bs xs n
    refine execN_sound (noOrc_sound _) mixed (LoopsOk.innerAt LoopsOk.none 2) (by kernel_rfl) (by intro v h; cases h) ((rs2_on l bs ((absN ((u : Nat) : Int).toNat bs n xs)) cp ((u : Nat) : Int) (n)).trans ?_)
    refine stX ?_ ?_ ?_
    · (try simp (disch := omega) only [tmod_lit, tdiv_lit, mul_lit, add_lit, lit_mul, lit_add, add_nat, mul_nat, sub_lit, lit_sub, sub_nat, wrapI_nat, wrapI_in, Int.toNat_natCast, Nat.mul_one, Nat.zero_add, toNat_lit])
      (try simp only [Bool.and_eq_true, Bool.and_true, Bool.true_and, decide_eq_true_eq, Bool.not_eq_true', decide_eq_false_iff_not, if_true, Bool.false_eq_true, if_false, List.length_set, List.length_append, List.length_replicate, List.length_cons, List.length_nil, Blk.len])
      (repeat' apply And.intro) <;> first | omega | trivial | rfl | decide
    · first | rfl | (simp (disch := omega) only [tmod_lit, tdiv_lit, mul_lit, add_lit, lit_mul, lit_add, add_nat, mul_nat, sub_lit, lit_sub, sub_nat, wrapI_nat, wrapI_in, Int.toNat_natCast, Nat.mul_one, Nat.zero_add, toNat_lit] <;> rfl) | (simp (disch := omega) only [tmod_lit, tdiv_lit, mul_lit, add_lit, lit_mul, lit_add, add_nat, mul_nat, sub_lit, lit_sub, sub_nat, wrapI_nat, wrapI_in, Int.toNat_natCast, Nat.mul_one, Nat.zero_add, toNat_lit]; done)
    · simp (disch := omega) only [tmod_lit, tdiv_lit, mul_lit, lit_mul, add_nat, wrapI_nat, Int.toNat_natCast, Nat.mul_one, Nat.zero_add]
      rw [Nat.mul_comm 8]; rfl
  · rintro ⟨l, bs, xs, cp, at_⟩ hok
    simp only [rs2_ok] at hok
    simp only [Bool.and_eq_true, decide_eq_true_eq] at hok
    obtain ⟨⟨⟨⟨h1, h2⟩, h3⟩, h4⟩, h5⟩ := hok
    have hx := absN_length at_.toNat bs xs 136
    refine execN_sound (noOrc_sound _) mixed (LoopsOk.innerAt LoopsOk.none 2) (by kernel_rfl) (by intro v h; cases h) ((rs2_off l bs ((absN at_.toNat bs 136 xs)) cp at_ (136)).trans ?_)
    refine stX ?_ ?_ ?_
    · (try simp (disch := omega) only [tmod_lit, tdiv_lit, mul_lit, add_lit, lit_mul, lit_add, add_nat, mul_nat, sub_lit, lit_sub, sub_nat, wrapI_nat, wrapI_in, Int.toNat_natCast, Nat.mul_one, Nat.zero_add, toNat_lit])
      (try simp only [Bool.and_eq_true, Bool.and_true, Bool.true_and, decide_eq_true_eq, Bool.not_eq_true', decide_eq_false_iff_not, if_true, Bool.false_eq_true, if_false, List.length_set, List.length_append, List.length_replicate, List.length_cons, List.length_nil, Blk.len])
      (repeat' apply And.intro) <;> first | omega | trivial | rfl | decide
    · first | rfl | (simp (disch := omega) only [tmod_lit, tdiv_lit, mul_lit, add_lit, lit_mul, lit_add, add_nat, mul_nat, sub_lit, lit_sub, sub_nat, wrapI_nat, wrapI_in, Int.toNat_natCast, Nat.mul_one, Nat.zero_add, toNat_lit] <;> rfl) | (simp (disch := omega) only [tmod_lit, tdiv_lit, mul_lit, add_lit, lit_mul, lit_add, add_nat, mul_nat, sub_lit, lit_sub, sub_nat, wrapI_nat, wrapI_in, Int.toNat_natCast, Nat.mul_one, Nat.zero_add, toNat_lit]; done)
    · first | rfl | (simp (disch := omega) only [tmod_lit, tdiv_lit, mul_lit, add_lit, lit_mul, lit_add, add_nat, mul_nat, sub_lit, lit_sub, sub_nat, wrapI_nat, wrapI_in, Int.toNat_natCast, Nat.mul_one, Nat.zero_add, toNat_lit] <;> rfl) | (simp (disch := omega) only [tmod_lit, tdiv_lit, mul_lit, add_lit, lit_mul, lit_add, add_nat, mul_nat, sub_lit, lit_sub, sub_nat, wrapI_nat, wrapI_in, Int.toNat_natCast, Nat.mul_one, Nat.zero_add, toNat_lit]; done)
theorem rs1_on (l : Nat) (bs : List (BitVec 8)) (xs : List (BitVec 64)) (cp : Option Nat) (n : Nat) :
  execN Pr OV (smL (0 : Nat) [rs2_s]) [((36 : Nat), true)] (100 : Nat) (0 : Nat) [(3 : Nat), (4 : Nat), (5 : Nat)]
  (loopBody Go.Proofs.Try.f10 (1 : Nat))
  [((3 : Nat), V.sl (0 : Nat) (0 : Nat) (1 : Nat) l cp),
    ((4 : Nat), V.sl (1 : Nat) (0 : Nat) (1 : Nat) (25 : Nat) (some (25 : Nat))),
    ((5 : Nat), V.int IntKind.i64 (↑((136 : Nat) * n) : Int))]
  [Blk.b8 bs, Blk.b64 xs] =
  some
  ((if true = true then decide ((↑((136 : Nat) * n) : Int) < (↑l : Int))
        else !decide ((↑((136 : Nat) * n) : Int) < (↑l : Int))) &&
        true &&
      (rs2_ok (l, bs, xs, cp, (↑((136 : Nat) * n) : Int)) &&
          (permRG_okf (PA.mk (absN (↑((136 : Nat) * n) : Int).toNat bs (136 : Nat) xs) (some (25 : Nat))) && true) &&
        true),
    X.normal,
    [((3 : Nat), V.sl (0 : Nat) (0 : Nat) (1 : Nat) l cp),
      ((4 : Nat), V.sl (1 : Nat) (0 : Nat) (1 : Nat) (25 : Nat) (some (25 : Nat))),
      ((5 : Nat), V.int IntKind.i64 (wrapI IntKind.i64 ((↑((136 : Nat) * n) : Int) + (136 : Int))))],
    [Blk.b8 bs,
      Blk.b64
        (permL
          (PA.mk (absN (↑((136 : Nat) * n) : Int).toNat bs (136 : Nat) xs) (some (25 : Nat))).xs)]) := by kernel_rfl
theorem rs1_off (l : Nat) (bs : List (BitVec 8)) (xs : List (BitVec 64)) (cp : Option Nat) (n : Nat) :
  execN Pr OV (smL (0 : Nat) [rs2_s]) [((36 : Nat), false)] (100 : Nat) (0 : Nat) [(4 : Nat)]
  (loopBody Go.Proofs.Try.f10 (1 : Nat))
  [((3 : Nat), V.sl (0 : Nat) (0 : Nat) (1 : Nat) l cp),
    ((4 : Nat), V.sl (1 : Nat) (0 : Nat) (1 : Nat) (25 : Nat) (some (25 : Nat))),
    ((5 : Nat), V.int IntKind.i64 (↑((136 : Nat) * n) : Int))]
  [Blk.b8 bs, Blk.b64 xs] =
  some
  ((if false = true then decide ((↑((136 : Nat) * n) : Int) < (↑l : Int))
      else !decide ((↑((136 : Nat) * n) : Int) < (↑l : Int))) &&
      true,
    X.exit (2 : Nat), [((4 : Nat), V.sl (0 : Nat) (0 : Nat) (1 : Nat) (25 : Nat) (some (25 : Nat)))],
    [Blk.b64 xs]) := by kernel_rfl
def rs1_S : Nat × (List (BitVec 8)) × (List (BitVec 64)) × (Option Nat) → Nat → Fr × Heap := fun ⟨l, bs, xs, cp⟩ n => ([(3, .sl 0 0 1 l cp), (4, .sl 1 0 1 25 (some 25)), (5, .int .i64 ((136 * n : Nat) : Int))], [.b8 bs, .b64 (takeAll bs 0 n xs)])
def rs1_read : Fr → Heap → Option (Nat × (List (BitVec 8)) × (List (BitVec 64)) × (Option Nat)) := fun f h => match f, h with
  | [(3, .sl 0 0 1 l cp), (4, .sl 1 0 1 25 (some 25)), (5, .int .i64 ((136 * 0 : Nat) : Int))], [.b8 bs, .b64 xs] => some (l, bs, xs, cp)
  | _, _ => none
def rs1_ok : Nat × (List (BitVec 8)) × (List (BitVec 64)) × (Option Nat) → Bool := fun ⟨l, bs, xs, cp⟩ => decide (xs.length = 25) && decide (l % 136 = 0) && decide (bs.length = l) && decide (l ≤ 2000000000000)
def rs1_E : Nat × (List (BitVec 8)) × (List (BitVec 64)) × (Option Nat) → X × Fr × Heap := fun ⟨l, bs, xs, cp⟩ => (.exit 2, [(4, .sl 0 0 1 25 (some 25))], [.b64 (takeAll bs 0 (l / 136) xs)])
def rs1_m : Nat × (List (BitVec 8)) × (List (BitVec 64)) × (Option Nat) → Nat := fun ⟨l, bs, xs, cp⟩ => l / 136
def rs1_k : Nat := 1
def rs1_s : Sm := whS 7 [3,4,5] rs1_read rs1_ok rs1_E
theorem rs1_at : SmAt Pr Go.Proofs.Try.f10 0 rs1_s rs1_k := by
  refine cnt_at rs1_S rs1_m (by kernel_rfl) (by kernel_rfl) ?_ ?_ ?_ ?_
  · intro f g a h
    unfold rs1_read at h
    split at h <;> cases h
    rfl
  · intro a h; cases h
  · rintro ⟨l, bs, xs, cp⟩ hok n hn
    simp only [rs1_m] at hn
    simp only [rs1_ok] at hok
    simp only [Bool.and_eq_true, decide_eq_true_eq] at hok
    obtain ⟨⟨⟨h1, h2⟩, h3⟩, h4⟩ := hok
    have hx := takeAll_length bs 0 xs h1 n
    have hn' : 136 * n + 136 ≤ l := by omega
    have hy := absN_length (136 * n) bs (takeAll bs 0 n xs)
    have e0 : ((0 : Int)).toNat = 0 := rfl
    refine execN_sound OV_sound mixed (LoopsOk.innerAt (LoopsOk.of [(rs2_s, rs2_k)] (by kernel_rfl) (by intro p hp; simp only [List.mem_cons, List.not_mem_nil, or_false] at hp; rcases hp with rfl; exact rs2_at)) 1) (by kernel_rfl) (by intro v h; cases h) ((rs1_on l bs ((takeAll bs 0 n xs)) cp (n)).trans ?_)
    refine stX ?_ ?_ ?_
    · simp only [rs2_ok, permRG_okf, Int.toNat_natCast, hy, hx, Bool.and_eq_true, Bool.and_true, Bool.true_and, decide_eq_true_eq, if_true]
      
      refine ⟨by omega, ⟨⟨⟨⟨trivial, by omega⟩, by omega⟩, h3⟩, h4⟩, trivial⟩
    · simp (disch := omega) only [add_lit, wrapI_nat]
      rfl
    · simp only [Int.toNat_natCast]
      show _ = [Blk.b8 bs, Blk.b64 (takeIn (0 + 136 * n) bs (takeAll bs 0 n xs))]
      rw [Nat.zero_add]; rfl
  · rintro ⟨l, bs, xs, cp⟩ hok
    simp only [rs1_ok] at hok
    simp only [Bool.and_eq_true, decide_eq_true_eq] at hok
    obtain ⟨⟨⟨h1, h2⟩, h3⟩, h4⟩ := hok
    have hx := takeAll_length bs 0 xs h1 (l / 136)
    refine execN_sound OV_sound mixed (LoopsOk.innerAt (LoopsOk.of [(rs2_s, rs2_k)] (by kernel_rfl) (by intro p hp; simp only [List.mem_cons, List.not_mem_nil, or_false] at hp; rcases hp with rfl; exact rs2_at)) 1) (by kernel_rfl) (by intro v h; cases h) ((rs1_off l bs ((takeAll bs 0 (l / 136) xs)) cp ((l / 136))).trans ?_)
    refine stX ?_ ?_ ?_
    · simp only [Bool.and_true, Bool.false_eq_true, if_false, Bool.not_eq_true', decide_eq_false_iff_not]
      omega
    · first | rfl | (simp (disch := omega) only [tmod_lit, tdiv_lit, mul_lit, add_lit, lit_mul, lit_add, add_nat, mul_nat, sub_lit, lit_sub, sub_nat, wrapI_nat, wrapI_in, Int.toNat_natCast, Nat.mul_one, Nat.zero_add, toNat_lit] <;> rfl) | (simp (disch := omega) only [tmod_lit, tdiv_lit, mul_lit, add_lit, lit_mul, lit_add, add_nat, mul_nat, sub_lit, lit_sub, sub_nat, wrapI_nat, wrapI_in, Int.toNat_natCast, Nat.mul_one, Nat.zero_add, toNat_lit]; done)
    · first | rfl | (simp (disch := omega) only [tmod_lit, tdiv_lit, mul_lit, add_lit, lit_mul, lit_add, add_nat, mul_nat, sub_lit, lit_sub, sub_nat, wrapI_nat, wrapI_in, Int.toNat_natCast, Nat.mul_one, Nat.zero_add, toNat_lit] <;> rfl) | (simp (disch := omega) only [tmod_lit, tdiv_lit, mul_lit, add_lit, lit_mul, lit_add, add_nat, mul_nat, sub_lit, lit_sub, sub_nat, wrapI_nat, wrapI_in, Int.toNat_natCast, Nat.mul_one, Nat.zero_add, toNat_lit]; done)
theorem rs3_on (xs : List (BitVec 64)) (ys : List (BitVec 8)) (n : Nat) :
  execN Pr noOrc noLoops [((68 : Nat), true)] (100 : Nat) (0 : Nat) [(4 : Nat), (7 : Nat), (8 : Nat)]
  (loopBody Go.Proofs.Try.f10 (3 : Nat))
  [((4 : Nat), V.sl (0 : Nat) (0 : Nat) (1 : Nat) (25 : Nat) (some (25 : Nat))),
    ((7 : Nat), V.sl (1 : Nat) (0 : Nat) (1 : Nat) (32 : Nat) (some (32 : Nat))),
    ((8 : Nat), V.int IntKind.i64 (↑n : Int))]
  [Blk.b64 xs, Blk.b8 ys] =
  some
  ((if true = true then decide ((↑n : Int) < (32 : Int)) else !decide ((↑n : Int) < (32 : Int))) && true &&
      (decide ((0 : Int) ≤ wrapI IntKind.i64 ((↑n : Int).tdiv (8 : Int))) &&
            decide (wrapI IntKind.i64 ((↑n : Int).tdiv (8 : Int)) < (25 : Int)) &&
          (decide ((0 : Nat) + (wrapI IntKind.i64 ((↑n : Int).tdiv (8 : Int))).toNat * (1 : Nat) < xs.length) &&
            (decide ((0 : Int) ≤ wrapI IntKind.i64 ((8 : Int) * (↑n : Int).tmod (8 : Int))) &&
              (decide ((0 : Int) ≤ (↑n : Int)) && decide ((↑n : Int) < (32 : Int)) &&
                (decide
                    ((0 : Nat) + (↑n : Int).toNat * (1 : Nat) +
                        [V.u8
                              (BitVec.setWidth (8 : Nat)
                                (xs.getD ((0 : Nat) + (wrapI IntKind.i64 ((↑n : Int).tdiv (8 : Int))).toNat * (1 : Nat))
                                    (OfNat.ofNat (0 : Nat)) >>>
                                  (wrapI IntKind.i64 ((8 : Int) * (↑n : Int).tmod (8 : Int))).toNat))].length ≤
                      ys.length) &&
                  true)))) &&
        true),
    X.normal,
    [((4 : Nat), V.sl (0 : Nat) (0 : Nat) (1 : Nat) (25 : Nat) (some (25 : Nat))),
      ((7 : Nat), V.sl (1 : Nat) (0 : Nat) (1 : Nat) (32 : Nat) (some (32 : Nat))),
      ((8 : Nat), V.int IntKind.i64 (wrapI IntKind.i64 ((↑n : Int) + (1 : Int))))],
    [Blk.b64 xs,
      Blk.b8
        (ys.set ((0 : Nat) + (↑n : Int).toNat * (1 : Nat))
          (BitVec.setWidth (8 : Nat)
            (xs.getD ((0 : Nat) + (wrapI IntKind.i64 ((↑n : Int).tdiv (8 : Int))).toNat * (1 : Nat))
                (OfNat.ofNat (0 : Nat)) >>>
              (wrapI IntKind.i64 ((8 : Int) * (↑n : Int).tmod (8 : Int))).toNat)))]) := by kernel_rfl
theorem rs3_off (xs : List (BitVec 64)) (ys : List (BitVec 8)) (n : Nat) :
  execN Pr noOrc noLoops [((68 : Nat), false)] (100 : Nat) (0 : Nat) [(7 : Nat)] (loopBody Go.Proofs.Try.f10 (3 : Nat))
  [((4 : Nat), V.sl (0 : Nat) (0 : Nat) (1 : Nat) (25 : Nat) (some (25 : Nat))),
    ((7 : Nat), V.sl (1 : Nat) (0 : Nat) (1 : Nat) (32 : Nat) (some (32 : Nat))),
    ((8 : Nat), V.int IntKind.i64 (↑n : Int))]
  [Blk.b64 xs, Blk.b8 ys] =
  some
  ((if false = true then decide ((↑n : Int) < (32 : Int)) else !decide ((↑n : Int) < (32 : Int))) && true,
    X.exit (6 : Nat), [((7 : Nat), V.sl (0 : Nat) (0 : Nat) (1 : Nat) (32 : Nat) (some (32 : Nat)))],
    [Blk.b8 ys]) := by kernel_rfl
def rs3_S : (List (BitVec 64)) × (List (BitVec 8)) → Nat → Fr × Heap := fun ⟨xs, ys⟩ n => ([(4, .sl 0 0 1 25 (some 25)), (7, .sl 1 0 1 32 (some 32)), (8, .int .i64 n)], [.b64 xs, .b8 (out8 xs ys n)])
def rs3_read : Fr → Heap → Option ((List (BitVec 64)) × (List (BitVec 8))) := fun f h => match f, h with
  | [(4, .sl 0 0 1 25 (some 25)), (7, .sl 1 0 1 32 (some 32)), (8, .int .i64 0)], [.b64 xs, .b8 ys] => some (xs, ys)
  | _, _ => none
def rs3_ok : (List (BitVec 64)) × (List (BitVec 8)) → Bool := fun ⟨xs, ys⟩ => decide (xs.length = 25) && decide (ys.length = 32)
def rs3_E : (List (BitVec 64)) × (List (BitVec 8)) → X × Fr × Heap := fun ⟨xs, ys⟩ => (.exit 6, [(7, .sl 0 0 1 32 (some 32))], [.b8 (out8 xs ys (32))])
def rs3_m : (List (BitVec 64)) × (List (BitVec 8)) → Nat := fun ⟨xs, ys⟩ => 32
def rs3_k : Nat := 3
def rs3_s : Sm := whS 16 [4,7,8] rs3_read rs3_ok rs3_E
theorem rs3_at : SmAt Pr Go.Proofs.Try.f10 0 rs3_s rs3_k := by
  refine cnt_at rs3_S rs3_m (by kernel_rfl) (by kernel_rfl) ?_ ?_ ?_ ?_
  · intro f g a h
    unfold rs3_read at h
    split at h <;> cases h
    rfl
  · intro a h; cases h
  · rintro ⟨xs, ys⟩ hok n hn
    simp only [rs3_m] at hn
    simp only [rs3_ok] at hok
    simp only [Bool.and_eq_true, decide_eq_true_eq] at hok
    obtain ⟨h1, h2⟩ := hok
    have hl : (out8 xs ys n).length = 32 := by rw [out8_eq, outN_length, h2]
    refine execN_sound (noOrc_sound _) mixed (LoopsOk.innerAt LoopsOk.none 3) (by kernel_rfl) (by intro v h; cases h) ((rs3_on xs ((out8 xs ys n)) (n)).trans ?_)
    refine stX ?_ ?_ ?_
    · (try simp (disch := omega) only [tmod_lit, tdiv_lit, mul_lit, add_lit, lit_mul, lit_add, add_nat, mul_nat, sub_lit, lit_sub, sub_nat, wrapI_nat, wrapI_in, Int.toNat_natCast, Nat.mul_one, Nat.zero_add, toNat_lit])
      (try simp only [Bool.and_eq_true, Bool.and_true, Bool.true_and, decide_eq_true_eq, Bool.not_eq_true', decide_eq_false_iff_not, if_true, Bool.false_eq_true, if_false, List.length_set, List.length_append, List.length_replicate, List.length_cons, List.length_nil, Blk.len])
      (repeat' apply And.intro) <;> first | omega | trivial | rfl | decide
    · first | rfl | (simp (disch := omega) only [tmod_lit, tdiv_lit, mul_lit, add_lit, lit_mul, lit_add, add_nat, mul_nat, sub_lit, lit_sub, sub_nat, wrapI_nat, wrapI_in, Int.toNat_natCast, Nat.mul_one, Nat.zero_add, toNat_lit] <;> rfl) | (simp (disch := omega) only [tmod_lit, tdiv_lit, mul_lit, add_lit, lit_mul, lit_add, add_nat, mul_nat, sub_lit, lit_sub, sub_nat, wrapI_nat, wrapI_in, Int.toNat_natCast, Nat.mul_one, Nat.zero_add, toNat_lit]; done)
    · first | rfl | (simp (disch := omega) only [tmod_lit, tdiv_lit, mul_lit, add_lit, lit_mul, lit_add, add_nat, mul_nat, sub_lit, lit_sub, sub_nat, wrapI_nat, wrapI_in, Int.toNat_natCast, Nat.mul_one, Nat.zero_add, toNat_lit] <;> rfl) | (simp (disch := omega) only [tmod_lit, tdiv_lit, mul_lit, add_lit, lit_mul, lit_add, add_nat, mul_nat, sub_lit, lit_sub, sub_nat, wrapI_nat, wrapI_in, Int.toNat_natCast, Nat.mul_one, Nat.zero_add, toNat_lit]; done)
  · rintro ⟨xs, ys⟩ hok
    simp only [rs3_ok] at hok
    simp only [Bool.and_eq_true, decide_eq_true_eq] at hok
    obtain ⟨h1, h2⟩ := hok
    have hl : (out8 xs ys 32).length = 32 := by rw [out8_eq, outN_length, h2]
    refine execN_sound (noOrc_sound _) mixed (LoopsOk.innerAt LoopsOk.none 3) (by kernel_rfl) (by intro v h; cases h) ((rs3_off xs ((out8 xs ys 32)) (32)).trans ?_)
    refine stX ?_ ?_ ?_
    · (try simp (disch := omega) only [tmod_lit, tdiv_lit, mul_lit, add_lit, lit_mul, lit_add, add_nat, mul_nat, sub_lit, lit_sub, sub_nat, wrapI_nat, wrapI_in, Int.toNat_natCast, Nat.mul_one, Nat.zero_add, toNat_lit])
      (try simp only [Bool.and_eq_true, Bool.and_true, Bool.true_and, decide_eq_true_eq, Bool.not_eq_true', decide_eq_false_iff_not, if_true, Bool.false_eq_true, if_false, List.length_set, List.length_append, List.length_replicate, List.length_cons, List.length_nil, Blk.len])
      (repeat' apply And.intro) <;> first | omega | trivial | rfl | decide
    · first | rfl | (simp (disch := omega) only [tmod_lit, tdiv_lit, mul_lit, add_lit, lit_mul, lit_add, add_nat, mul_nat, sub_lit, lit_sub, sub_nat, wrapI_nat, wrapI_in, Int.toNat_natCast, Nat.mul_one, Nat.zero_add, toNat_lit] <;> rfl) | (simp (disch := omega) only [tmod_lit, tdiv_lit, mul_lit, add_lit, lit_mul, lit_add, add_nat, mul_nat, sub_lit, lit_sub, sub_nat, wrapI_nat, wrapI_in, Int.toNat_natCast, Nat.mul_one, Nat.zero_add, toNat_lit]; done)
    · first | rfl | (simp (disch := omega) only [tmod_lit, tdiv_lit, mul_lit, add_lit, lit_mul, lit_add, add_nat, mul_nat, sub_lit, lit_sub, sub_nat, wrapI_nat, wrapI_in, Int.toNat_natCast, Nat.mul_one, Nat.zero_add, toNat_lit] <;> rfl) | (simp (disch := omega) only [tmod_lit, tdiv_lit, mul_lit, add_lit, lit_mul, lit_add, add_nat, mul_nat, sub_lit, lit_sub, sub_nat, wrapI_nat, wrapI_in, Int.toNat_natCast, Nat.mul_one, Nat.zero_add, toNat_lit]; done)

def padT (s : List (BitVec 8)) : List (BitVec 8) := padN (padB1 s) ((136 - (s.length + 1) % 136) % 136)
def padU (s : List (BitVec 8)) : List (BitVec 8) := (padT s).set (s.length + padM s) ((padT s).getD (s.length + padM s) 0 ^^^ BitVec.ofInt 8 128)
theorem rsum_x (s : List (BitVec 8)) :
  execF Pr OV (smL (0 : Nat) [rs0_s, rs1_s, rs3_s]) (100 : Nat) Go.Proofs.Try.f10 [V.str s] [] =
  some
  (decide ((0 : Nat) + s.length * (1 : Nat) ≤ s.length) &&
              (decide (s.length + (1 : Nat) ≤ (70368744177664 : Nat)) &&
                  decide (((2 : Nat) * (s.length + (1 : Nat)) + (1024 : Nat)) * (1 : Nat) ≤ (281474976710656 : Nat)) &&
                true) &&
            true &&
          true &&
        (rs0_ok (s.length + (1 : Nat), padB1 s) &&
          (decide
                  ((0 : Int) ≤
                    wrapI IntKind.i64
                      ((↑(s.length + (1 : Nat) + ((136 : Nat) - (s.length + (1 : Nat)) % (136 : Nat)) % (136 : Nat)) :
                          Int) -
                        (1 : Int))) &&
                decide
                  (wrapI IntKind.i64
                      ((↑(s.length + (1 : Nat) + ((136 : Nat) - (s.length + (1 : Nat)) % (136 : Nat)) % (136 : Nat)) :
                          Int) -
                        (1 : Int)) <
                    (↑(s.length + (1 : Nat) + ((136 : Nat) - (s.length + (1 : Nat)) % (136 : Nat)) % (136 : Nat)) :
                      Int)) &&
              (decide
                  ((0 : Nat) +
                      (wrapI IntKind.i64
                            ((↑(s.length + (1 : Nat) +
                                    ((136 : Nat) - (s.length + (1 : Nat)) % (136 : Nat)) % (136 : Nat)) :
                                Int) -
                              (1 : Int))).toNat *
                        (1 : Nat) <
                    (padN (padB1 s) (((136 : Nat) - (s.length + (1 : Nat)) % (136 : Nat)) % (136 : Nat))).length) &&
                (decide
                      ((0 : Int) ≤
                        wrapI IntKind.i64
                          ((↑(s.length + (1 : Nat) +
                                  ((136 : Nat) - (s.length + (1 : Nat)) % (136 : Nat)) % (136 : Nat)) :
                              Int) -
                            (1 : Int))) &&
                    decide
                      (wrapI IntKind.i64
                          ((↑(s.length + (1 : Nat) +
                                  ((136 : Nat) - (s.length + (1 : Nat)) % (136 : Nat)) % (136 : Nat)) :
                              Int) -
                            (1 : Int)) <
                        (↑(s.length + (1 : Nat) + ((136 : Nat) - (s.length + (1 : Nat)) % (136 : Nat)) % (136 : Nat)) :
                          Int)) &&
                  (decide
                      ((0 : Nat) +
                            (wrapI IntKind.i64
                                  ((↑(s.length + (1 : Nat) +
                                          ((136 : Nat) - (s.length + (1 : Nat)) % (136 : Nat)) % (136 : Nat)) :
                                      Int) -
                                    (1 : Int))).toNat *
                              (1 : Nat) +
                          [V.u8
                                ((padN (padB1 s)
                                        (((136 : Nat) - (s.length + (1 : Nat)) % (136 : Nat)) % (136 : Nat))).getD
                                    ((0 : Nat) +
                                      (wrapI IntKind.i64
                                            ((↑(s.length + (1 : Nat) +
                                                    ((136 : Nat) - (s.length + (1 : Nat)) % (136 : Nat)) %
                                                      (136 : Nat)) :
                                                Int) -
                                              (1 : Int))).toNat *
                                        (1 : Nat))
                                    (OfNat.ofNat (0 : Nat)) ^^^
                                  BitVec.ofInt (8 : Nat) (128 : Int))].length ≤
                        (padN (padB1 s) (((136 : Nat) - (s.length + (1 : Nat)) % (136 : Nat)) % (136 : Nat))).length) &&
                    true))) &&
            (rs1_ok
                (s.length + (1 : Nat) + ((136 : Nat) - (s.length + (1 : Nat)) % (136 : Nat)) % (136 : Nat),
                  (padN (padB1 s) (((136 : Nat) - (s.length + (1 : Nat)) % (136 : Nat)) % (136 : Nat))).set
                    ((0 : Nat) +
                      (wrapI IntKind.i64
                            ((↑(s.length + (1 : Nat) +
                                    ((136 : Nat) - (s.length + (1 : Nat)) % (136 : Nat)) % (136 : Nat)) :
                                Int) -
                              (1 : Int))).toNat *
                        (1 : Nat))
                    ((padN (padB1 s) (((136 : Nat) - (s.length + (1 : Nat)) % (136 : Nat)) % (136 : Nat))).getD
                        ((0 : Nat) +
                          (wrapI IntKind.i64
                                ((↑(s.length + (1 : Nat) +
                                        ((136 : Nat) - (s.length + (1 : Nat)) % (136 : Nat)) % (136 : Nat)) :
                                    Int) -
                                  (1 : Int))).toNat *
                            (1 : Nat))
                        (OfNat.ofNat (0 : Nat)) ^^^
                      BitVec.ofInt (8 : Nat) (128 : Int)),
                  List.replicate (25 : Nat) (BitVec.ofInt (64 : Nat) (0 : Int)), none) &&
              (rs3_ok
                  (takeAll
                      ((padN (padB1 s) (((136 : Nat) - (s.length + (1 : Nat)) % (136 : Nat)) % (136 : Nat))).set
                        ((0 : Nat) +
                          (wrapI IntKind.i64
                                ((↑(s.length + (1 : Nat) +
                                        ((136 : Nat) - (s.length + (1 : Nat)) % (136 : Nat)) % (136 : Nat)) :
                                    Int) -
                                  (1 : Int))).toNat *
                            (1 : Nat))
                        ((padN (padB1 s) (((136 : Nat) - (s.length + (1 : Nat)) % (136 : Nat)) % (136 : Nat))).getD
                            ((0 : Nat) +
                              (wrapI IntKind.i64
                                    ((↑(s.length + (1 : Nat) +
                                            ((136 : Nat) - (s.length + (1 : Nat)) % (136 : Nat)) % (136 : Nat)) :
                                        Int) -
                                      (1 : Int))).toNat *
                                (1 : Nat))
                            (OfNat.ofNat (0 : Nat)) ^^^
                          BitVec.ofInt (8 : Nat) (128 : Int)))
                      (0 : Nat)
                      ((s.length + (1 : Nat) + ((136 : Nat) - (s.length + (1 : Nat)) % (136 : Nat)) % (136 : Nat)) /
                        (136 : Nat))
                      (List.replicate (25 : Nat) (BitVec.ofInt (64 : Nat) (0 : Int))),
                    List.replicate (32 : Nat) (BitVec.ofInt (8 : Nat) (0 : Int))) &&
                (decide
                      ((32 : Nat) ≤
                        (out8
                            (takeAll
                              ((padN (padB1 s) (((136 : Nat) - (s.length + (1 : Nat)) % (136 : Nat)) % (136 : Nat))).set
                                ((0 : Nat) +
                                  (wrapI IntKind.i64
                                        ((↑(s.length + (1 : Nat) +
                                                ((136 : Nat) - (s.length + (1 : Nat)) % (136 : Nat)) % (136 : Nat)) :
                                            Int) -
                                          (1 : Int))).toNat *
                                    (1 : Nat))
                                ((padN (padB1 s)
                                        (((136 : Nat) - (s.length + (1 : Nat)) % (136 : Nat)) % (136 : Nat))).getD
                                    ((0 : Nat) +
                                      (wrapI IntKind.i64
                                            ((↑(s.length + (1 : Nat) +
                                                    ((136 : Nat) - (s.length + (1 : Nat)) % (136 : Nat)) %
                                                      (136 : Nat)) :
                                                Int) -
                                              (1 : Int))).toNat *
                                        (1 : Nat))
                                    (OfNat.ofNat (0 : Nat)) ^^^
                                  BitVec.ofInt (8 : Nat) (128 : Int)))
                              (0 : Nat)
                              ((s.length + (1 : Nat) +
                                  ((136 : Nat) - (s.length + (1 : Nat)) % (136 : Nat)) % (136 : Nat)) /
                                (136 : Nat))
                              (List.replicate (25 : Nat) (BitVec.ofInt (64 : Nat) (0 : Int))))
                            (List.replicate (32 : Nat) (BitVec.ofInt (8 : Nat) (0 : Int))) (32 : Nat)).length) &&
                    true &&
                  true))))) &&
      true,
    Fin.ret
      (V.str
        (List.take (32 : Nat)
          (List.drop (0 : Nat)
            (out8
              (takeAll
                ((padN (padB1 s) (((136 : Nat) - (s.length + (1 : Nat)) % (136 : Nat)) % (136 : Nat))).set
                  ((0 : Nat) +
                    (wrapI IntKind.i64
                          ((↑(s.length + (1 : Nat) +
                                  ((136 : Nat) - (s.length + (1 : Nat)) % (136 : Nat)) % (136 : Nat)) :
                              Int) -
                            (1 : Int))).toNat *
                      (1 : Nat))
                  ((padN (padB1 s) (((136 : Nat) - (s.length + (1 : Nat)) % (136 : Nat)) % (136 : Nat))).getD
                      ((0 : Nat) +
                        (wrapI IntKind.i64
                              ((↑(s.length + (1 : Nat) +
                                      ((136 : Nat) - (s.length + (1 : Nat)) % (136 : Nat)) % (136 : Nat)) :
                                  Int) -
                                (1 : Int))).toNat *
                          (1 : Nat))
                      (OfNat.ofNat (0 : Nat)) ^^^
                    BitVec.ofInt (8 : Nat) (128 : Int)))
                (0 : Nat)
                ((s.length + (1 : Nat) + ((136 : Nat) - (s.length + (1 : Nat)) % (136 : Nat)) % (136 : Nat)) /
                  (136 : Nat))
                (List.replicate (25 : Nat) (BitVec.ofInt (64 : Nat) (0 : Int))))
              (List.replicate (32 : Nat) (BitVec.ofInt (8 : Nat) (0 : Int))) (32 : Nat))))),
    []) := by kernel_rfl
end
end Go.Proofs.Ytggblpmijekemaa.K
