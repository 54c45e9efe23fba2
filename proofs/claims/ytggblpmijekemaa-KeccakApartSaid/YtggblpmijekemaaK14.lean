/- KeccakApart. -/
import Derived.Test.YtggblpmijekemaaK13
import Derived.Test.YtggblpmijekemaaLhAF
set_option linter.unusedSimpArgs false
set_option linter.unusedVariables false
open Go Go.Lh
namespace Go.Proofs.Ytggblpmijekemaa.K
noncomputable section
set_option maxRecDepth 100000
theorem qa_on (f : Nat → BitVec 64) (len : Nat) (a : BitVec 8) (b : BitVec 64) (hd : Bool) (xs : List (BitVec 64)) (n : Nat) :
  execN Pr (withAsm noOrc [((16 : Nat), true), ((19 : Nat), true)]) noLoops [] (100 : Nat) (0 : Nat)
  [(0 : Nat), (1 : Nat), (2 : Nat), (7 : Nat), (8 : Nat), (9 : Nat)] (loopBody Go.Proofs.Try.f5 (0 : Nat))
  [((0 : Nat), V.isl (1 : Nat) len fun i x ↦ V.u64 (f i)), ((1 : Nat), V.u8 a), ((2 : Nat), V.u64 b),
    ((7 : Nat), V.bool hd), ((8 : Nat), V.ptr (0 : Nat) (0 : Nat)), ((9 : Nat), V.int IntKind.i64 (↑n : Int))]
  [Blk.b64 xs] =
  some
  ((if true = true then decide ((↑n : Int) < (25 : Int)) else !decide ((↑n : Int) < (25 : Int))) &&
          ((if true = true then decide ((↑n : Int) < (↑len : Int)) else !decide ((↑n : Int) < (↑len : Int))) && true) &&
        true &&
      (decide ((0 : Int) ≤ (↑n : Int)) && decide ((↑n : Int) < (↑len : Int)) &&
          (decide ((↑n : Int).toNat < len) && true &&
            (decide ((0 : Int) ≤ (↑n : Int)) && decide ((↑n : Int) < (25 : Int)) &&
              (decide
                  ((0 : Nat) + (↑n : Int).toNat * (1 : Nat) +
                      [(fun i x ↦ V.u64 (f i)) (↑n : Int).toNat (0 : Nat)].length ≤
                    xs.length) &&
                true))) &&
        true),
    X.normal,
    [((0 : Nat), V.isl (1 : Nat) len fun i x ↦ V.u64 (f i)), ((1 : Nat), V.u8 a), ((2 : Nat), V.u64 b),
      ((7 : Nat), V.bool hd), ((8 : Nat), V.ptr (0 : Nat) (0 : Nat)),
      ((9 : Nat), V.int IntKind.i64 (wrapI IntKind.i64 ((↑n : Int) + (1 : Int))))],
    [Blk.b64 (xs.set ((0 : Nat) + (↑n : Int).toNat * (1 : Nat)) (f (↑n : Int).toNat))]) := by kernel_rfl
theorem qa_off0 (f : Nat → BitVec 64) (len : Nat) (a : BitVec 8) (b : BitVec 64) (hd : Bool) (xs : List (BitVec 64)) (n : Nat) :
  execN Pr (withAsm noOrc [((16 : Nat), false)]) noLoops [] (100 : Nat) (0 : Nat)
  [(1 : Nat), (2 : Nat), (7 : Nat), (8 : Nat)] (loopBody Go.Proofs.Try.f5 (0 : Nat))
  [((0 : Nat), V.isl (1 : Nat) len fun i x ↦ V.u64 (f i)), ((1 : Nat), V.u8 a), ((2 : Nat), V.u64 b),
    ((7 : Nat), V.bool hd), ((8 : Nat), V.ptr (0 : Nat) (0 : Nat)), ((9 : Nat), V.int IntKind.i64 (↑n : Int))]
  [Blk.b64 xs] =
  some
  ((if false = true then decide ((↑n : Int) < (25 : Int)) else !decide ((↑n : Int) < (25 : Int))) && true && true,
    X.exit (0 : Nat),
    [((1 : Nat), V.u8 a), ((2 : Nat), V.u64 b), ((7 : Nat), V.bool hd), ((8 : Nat), V.ptr (0 : Nat) (0 : Nat))],
    [Blk.b64 xs]) := by kernel_rfl
theorem qa_off1 (f : Nat → BitVec 64) (len : Nat) (a : BitVec 8) (b : BitVec 64) (hd : Bool) (xs : List (BitVec 64)) (n : Nat) :
  execN Pr (withAsm noOrc [((16 : Nat), true), ((19 : Nat), false)]) noLoops [] (100 : Nat) (0 : Nat)
  [(1 : Nat), (2 : Nat), (7 : Nat), (8 : Nat)] (loopBody Go.Proofs.Try.f5 (0 : Nat))
  [((0 : Nat), V.isl (1 : Nat) len fun i x ↦ V.u64 (f i)), ((1 : Nat), V.u8 a), ((2 : Nat), V.u64 b),
    ((7 : Nat), V.bool hd), ((8 : Nat), V.ptr (0 : Nat) (0 : Nat)), ((9 : Nat), V.int IntKind.i64 (↑n : Int))]
  [Blk.b64 xs] =
  some
  ((if true = true then decide ((↑n : Int) < (25 : Int)) else !decide ((↑n : Int) < (25 : Int))) &&
        ((if false = true then decide ((↑n : Int) < (↑len : Int)) else !decide ((↑n : Int) < (↑len : Int))) && true) &&
      true,
    X.exit (0 : Nat),
    [((1 : Nat), V.u8 a), ((2 : Nat), V.u64 b), ((7 : Nat), V.bool hd), ((8 : Nat), V.ptr (0 : Nat) (0 : Nat))],
    [Blk.b64 xs]) := by kernel_rfl
def qa_S : (Nat → Nat → V) × Nat × (BitVec 8) × (BitVec 64) × Bool × (List (BitVec 64)) → Nat → Fr × Heap := fun ⟨g, len, a, b, hd, xs⟩ n => ([(0, .isl 1 len g), (1, .u8 a), (2, .u64 b), (7, .bool hd), (8, .ptr 0 0), (9, .int .i64 n)], [.b64 (copyG g xs n)])
def qa_read : Fr → Heap → Option ((Nat → Nat → V) × Nat × (BitVec 8) × (BitVec 64) × Bool × (List (BitVec 64))) := fun f h => match f, h with
  | [(0, .isl 1 len g), (1, .u8 a), (2, .u64 b), (7, .bool hd), (8, .ptr 0 0), (9, .int .i64 0)], [.b64 xs] => some (g, len, a, b, hd, xs)
  | _, _ => none
open Classical in
def qa_ok : (Nat → Nat → V) × Nat × (BitVec 8) × (BitVec 64) × Bool × (List (BitVec 64)) → Bool := fun ⟨g, len, a, b, hd, xs⟩ => decide (xs.length = 25) && decide (g = fun i _ => .u64 (toU (g i 0))) && decide (len < 100000000000000000000)
def qa_E : (Nat → Nat → V) × Nat × (BitVec 8) × (BitVec 64) × Bool × (List (BitVec 64)) → X × Fr × Heap := fun ⟨g, len, a, b, hd, xs⟩ => (.exit 0, [(1, .u8 a), (2, .u64 b), (7, .bool hd), (8, .ptr 0 0)], [.b64 (copyG g xs (min 25 len))])
def qa_m : (Nat → Nat → V) × Nat × (BitVec 8) × (BitVec 64) × Bool × (List (BitVec 64)) → Nat := fun ⟨g, len, a, b, hd, xs⟩ => min 25 len
def qa_k : Nat := 0
def qa_s : Sm := whS 6 [0,1,2,7,8,9] qa_read qa_ok qa_E
theorem qa_at : SmAt Pr Go.Proofs.Try.f5 0 qa_s qa_k := by
  refine cnt_at qa_S qa_m (by kernel_rfl) (by kernel_rfl) ?_ ?_ ?_ ?_
  · intro f g a h
    unfold qa_read at h
    split at h <;> cases h
    rfl
  · intro a h; cases h
  · rintro ⟨g, len, a, b, hd, xs⟩ hok n hn
    simp only [qa_m] at hn
    simp only [qa_ok] at hok
    simp only [Bool.and_eq_true, decide_eq_true_eq] at hok
    obtain ⟨⟨h1, h2⟩, h3⟩ := hok
    obtain ⟨f, rfl⟩ : ∃ f : Nat → BitVec 64, g = fun i _ => .u64 (f i) := ⟨fun i => toU (g i 0), h2⟩
    have hl := copyG_length (fun i _ => .u64 (f i)) xs n
    refine execN_sound (withAsm_sound (noOrc_sound _)) mixed (LoopsOk.innerAt LoopsOk.none 0) (by kernel_rfl) (by intro v h; cases h) ((qa_on f len a b hd (copyG (fun i _ => .u64 (f i)) xs n) n).trans ?_)
    refine stX ?_ ?_ ?_
    · (try simp (disch := omega) only [tmod_lit, tdiv_lit, mul_lit, add_lit, lit_mul, lit_add, add_nat, mul_nat, sub_lit, lit_sub, sub_nat, wrapI_nat, wrapI_in, Int.toNat_natCast, Nat.mul_one, Nat.zero_add, toNat_lit])
      (try simp only [Bool.and_eq_true, Bool.and_true, Bool.true_and, decide_eq_true_eq, Bool.not_eq_true', decide_eq_false_iff_not, if_true, Bool.false_eq_true, if_false, List.length_set, List.length_append, List.length_replicate, List.length_cons, List.length_nil, Blk.len])
      (repeat' apply And.intro) <;> first | omega | exact True.intro | rfl | decide
    · first | rfl | (simp (disch := omega) only [tmod_lit, tdiv_lit, mul_lit, add_lit, lit_mul, lit_add, add_nat, mul_nat, sub_lit, lit_sub, sub_nat, wrapI_nat, wrapI_in, Int.toNat_natCast, Nat.mul_one, Nat.zero_add, toNat_lit] <;> rfl) | (simp (disch := omega) only [tmod_lit, tdiv_lit, mul_lit, add_lit, lit_mul, lit_add, add_nat, mul_nat, sub_lit, lit_sub, sub_nat, wrapI_nat, wrapI_in, Int.toNat_natCast, Nat.mul_one, Nat.zero_add, toNat_lit]; done)
    · first | rfl | (simp (disch := omega) only [tmod_lit, tdiv_lit, mul_lit, add_lit, lit_mul, lit_add, add_nat, mul_nat, sub_lit, lit_sub, sub_nat, wrapI_nat, wrapI_in, Int.toNat_natCast, Nat.mul_one, Nat.zero_add, toNat_lit] <;> rfl) | (simp (disch := omega) only [tmod_lit, tdiv_lit, mul_lit, add_lit, lit_mul, lit_add, add_nat, mul_nat, sub_lit, lit_sub, sub_nat, wrapI_nat, wrapI_in, Int.toNat_natCast, Nat.mul_one, Nat.zero_add, toNat_lit]; done)
  · rintro ⟨g, len, a, b, hd, xs⟩ hok
    simp only [qa_ok] at hok
    simp only [Bool.and_eq_true, decide_eq_true_eq] at hok
    obtain ⟨⟨h1, h2⟩, h3⟩ := hok
    obtain ⟨f, rfl⟩ : ∃ f : Nat → BitVec 64, g = fun i _ => .u64 (f i) := ⟨fun i => toU (g i 0), h2⟩
    have hl := copyG_length (fun i _ => .u64 (f i)) xs (min 25 len)
    by_cases hc : 25 ≤ len
    · refine execN_sound (withAsm_sound (noOrc_sound _)) mixed (LoopsOk.innerAt LoopsOk.none 0) (by kernel_rfl) (by intro v h; cases h) ((qa_off0 f len a b hd (copyG (fun i _ => .u64 (f i)) xs (min 25 len)) (min 25 len)).trans ?_)
      refine stX ?_ ?_ ?_
      · (try simp (disch := omega) only [tmod_lit, tdiv_lit, mul_lit, add_lit, lit_mul, lit_add, add_nat, mul_nat, sub_lit, lit_sub, sub_nat, wrapI_nat, wrapI_in, Int.toNat_natCast, Nat.mul_one, Nat.zero_add, toNat_lit])
        (try simp only [Bool.and_eq_true, Bool.and_true, Bool.true_and, decide_eq_true_eq, Bool.not_eq_true', decide_eq_false_iff_not, if_true, Bool.false_eq_true, if_false, List.length_set, List.length_append, List.length_replicate, List.length_cons, List.length_nil, Blk.len])
        (repeat' apply And.intro) <;> first | omega | exact True.intro | rfl | decide
      · first | rfl | (simp (disch := omega) only [tmod_lit, tdiv_lit, mul_lit, add_lit, lit_mul, lit_add, add_nat, mul_nat, sub_lit, lit_sub, sub_nat, wrapI_nat, wrapI_in, Int.toNat_natCast, Nat.mul_one, Nat.zero_add, toNat_lit] <;> rfl) | (simp (disch := omega) only [tmod_lit, tdiv_lit, mul_lit, add_lit, lit_mul, lit_add, add_nat, mul_nat, sub_lit, lit_sub, sub_nat, wrapI_nat, wrapI_in, Int.toNat_natCast, Nat.mul_one, Nat.zero_add, toNat_lit]; done)
      · first | rfl | (simp (disch := omega) only [tmod_lit, tdiv_lit, mul_lit, add_lit, lit_mul, lit_add, add_nat, mul_nat, sub_lit, lit_sub, sub_nat, wrapI_nat, wrapI_in, Int.toNat_natCast, Nat.mul_one, Nat.zero_add, toNat_lit] <;> rfl) | (simp (disch := omega) only [tmod_lit, tdiv_lit, mul_lit, add_lit, lit_mul, lit_add, add_nat, mul_nat, sub_lit, lit_sub, sub_nat, wrapI_nat, wrapI_in, Int.toNat_natCast, Nat.mul_one, Nat.zero_add, toNat_lit]; done)
    · refine execN_sound (withAsm_sound (noOrc_sound _)) mixed (LoopsOk.innerAt LoopsOk.none 0) (by kernel_rfl) (by intro v h; cases h) ((qa_off1 f len a b hd (copyG (fun i _ => .u64 (f i)) xs (min 25 len)) (min 25 len)).trans ?_)
      refine stX ?_ ?_ ?_
      · (try simp (disch := omega) only [tmod_lit, tdiv_lit, mul_lit, add_lit, lit_mul, lit_add, add_nat, mul_nat, sub_lit, lit_sub, sub_nat, wrapI_nat, wrapI_in, Int.toNat_natCast, Nat.mul_one, Nat.zero_add, toNat_lit])
        (try simp only [Bool.and_eq_true, Bool.and_true, Bool.true_and, decide_eq_true_eq, Bool.not_eq_true', decide_eq_false_iff_not, if_true, Bool.false_eq_true, if_false, List.length_set, List.length_append, List.length_replicate, List.length_cons, List.length_nil, Blk.len])
        (repeat' apply And.intro) <;> first | omega | exact True.intro | rfl | decide
      · first | rfl | (simp (disch := omega) only [tmod_lit, tdiv_lit, mul_lit, add_lit, lit_mul, lit_add, add_nat, mul_nat, sub_lit, lit_sub, sub_nat, wrapI_nat, wrapI_in, Int.toNat_natCast, Nat.mul_one, Nat.zero_add, toNat_lit] <;> rfl) | (simp (disch := omega) only [tmod_lit, tdiv_lit, mul_lit, add_lit, lit_mul, lit_add, add_nat, mul_nat, sub_lit, lit_sub, sub_nat, wrapI_nat, wrapI_in, Int.toNat_natCast, Nat.mul_one, Nat.zero_add, toNat_lit]; done)
      · first | rfl | (simp (disch := omega) only [tmod_lit, tdiv_lit, mul_lit, add_lit, lit_mul, lit_add, add_nat, mul_nat, sub_lit, lit_sub, sub_nat, wrapI_nat, wrapI_in, Int.toNat_natCast, Nat.mul_one, Nat.zero_add, toNat_lit] <;> rfl) | (simp (disch := omega) only [tmod_lit, tdiv_lit, mul_lit, add_lit, lit_mul, lit_add, add_nat, mul_nat, sub_lit, lit_sub, sub_nat, wrapI_nat, wrapI_in, Int.toNat_natCast, Nat.mul_one, Nat.zero_add, toNat_lit]; done)
def yP (f : Nat → BitVec 64) (len : Nat) : List (BitVec 64) := (((((((((((((((((((((((((zP).set 0 ((aP f len).getD 0 (0 : BitVec 64))).set 1 ((aP f len).getD 1 (0 : BitVec 64))).set 2 ((aP f len).getD 2 (0 : BitVec 64))).set 3 ((aP f len).getD 3 (0 : BitVec 64))).set 4 ((aP f len).getD 4 (0 : BitVec 64))).set 5 ((aP f len).getD 5 (0 : BitVec 64))).set 6 ((aP f len).getD 6 (0 : BitVec 64))).set 7 ((aP f len).getD 7 (0 : BitVec 64))).set 8 ((aP f len).getD 8 (0 : BitVec 64))).set 9 ((aP f len).getD 9 (0 : BitVec 64))).set 10 ((aP f len).getD 10 (0 : BitVec 64))).set 11 ((aP f len).getD 11 (0 : BitVec 64))).set 12 ((aP f len).getD 12 (0 : BitVec 64))).set 13 ((aP f len).getD 13 (0 : BitVec 64))).set 14 ((aP f len).getD 14 (0 : BitVec 64))).set 15 ((aP f len).getD 15 (0 : BitVec 64))).set 16 ((aP f len).getD 16 (0 : BitVec 64))).set 17 ((aP f len).getD 17 (0 : BitVec 64))).set 18 ((aP f len).getD 18 (0 : BitVec 64))).set 19 ((aP f len).getD 19 (0 : BitVec 64))).set 20 ((aP f len).getD 20 (0 : BitVec 64))).set 21 ((aP f len).getD 21 (0 : BitVec 64))).set 22 ((aP f len).getD 22 (0 : BitVec 64))).set 23 ((aP f len).getD 23 (0 : BitVec 64))).set 24 ((aP f len).getD 24 (0 : BitVec 64))
def wP (f : Nat → BitVec 64) (len : Nat) (at_ : BitVec 8) (b : BitVec 64) : List (BitVec 64) := (yP f len).set ((0 : Nat) + (↑(at_ % BitVec.ofInt (8 : Nat) (25 : Int)).toNat : Int).toNat * (1 : Nat)) ((yP f len).getD ((0 : Nat) + (↑(at_ % BitVec.ofInt (8 : Nat) (25 : Int)).toNat : Int).toNat * (1 : Nat)) (0 : BitVec 64) ^^^ b)
def vP (f : Nat → BitVec 64) (len : Nat) (at_ : BitVec 8) (b : BitVec 64) : List (BitVec 64) := [(wP f len at_ b).getD 0 (0 : BitVec 64), (wP f len at_ b).getD 1 (0 : BitVec 64), (wP f len at_ b).getD 2 (0 : BitVec 64), (wP f len at_ b).getD 3 (0 : BitVec 64), (wP f len at_ b).getD 4 (0 : BitVec 64), (wP f len at_ b).getD 5 (0 : BitVec 64), (wP f len at_ b).getD 6 (0 : BitVec 64), (wP f len at_ b).getD 7 (0 : BitVec 64), (wP f len at_ b).getD 8 (0 : BitVec 64), (wP f len at_ b).getD 9 (0 : BitVec 64), (wP f len at_ b).getD 10 (0 : BitVec 64), (wP f len at_ b).getD 11 (0 : BitVec 64), (wP f len at_ b).getD 12 (0 : BitVec 64), (wP f len at_ b).getD 13 (0 : BitVec 64), (wP f len at_ b).getD 14 (0 : BitVec 64), (wP f len at_ b).getD 15 (0 : BitVec 64), (wP f len at_ b).getD 16 (0 : BitVec 64), (wP f len at_ b).getD 17 (0 : BitVec 64), (wP f len at_ b).getD 18 (0 : BitVec 64), (wP f len at_ b).getD 19 (0 : BitVec 64), (wP f len at_ b).getD 20 (0 : BitVec 64), (wP f len at_ b).getD 21 (0 : BitVec 64), (wP f len at_ b).getD 22 (0 : BitVec 64), (wP f len at_ b).getD 23 (0 : BitVec 64), (wP f len at_ b).getD 24 (0 : BitVec 64)]
def eq25 (xs ys : List (BitVec 64)) : Bool := (xs.getD 0 (0 : BitVec 64) == ys.getD 0 (0 : BitVec 64) && (xs.getD 1 (0 : BitVec 64) == ys.getD 1 (0 : BitVec 64) && (xs.getD 2 (0 : BitVec 64) == ys.getD 2 (0 : BitVec 64) && (xs.getD 3 (0 : BitVec 64) == ys.getD 3 (0 : BitVec 64) && (xs.getD 4 (0 : BitVec 64) == ys.getD 4 (0 : BitVec 64) && (xs.getD 5 (0 : BitVec 64) == ys.getD 5 (0 : BitVec 64) && (xs.getD 6 (0 : BitVec 64) == ys.getD 6 (0 : BitVec 64) && (xs.getD 7 (0 : BitVec 64) == ys.getD 7 (0 : BitVec 64) && (xs.getD 8 (0 : BitVec 64) == ys.getD 8 (0 : BitVec 64) && (xs.getD 9 (0 : BitVec 64) == ys.getD 9 (0 : BitVec 64) && (xs.getD 10 (0 : BitVec 64) == ys.getD 10 (0 : BitVec 64) && (xs.getD 11 (0 : BitVec 64) == ys.getD 11 (0 : BitVec 64) && (xs.getD 12 (0 : BitVec 64) == ys.getD 12 (0 : BitVec 64) && (xs.getD 13 (0 : BitVec 64) == ys.getD 13 (0 : BitVec 64) && (xs.getD 14 (0 : BitVec 64) == ys.getD 14 (0 : BitVec 64) && (xs.getD 15 (0 : BitVec 64) == ys.getD 15 (0 : BitVec 64) && (xs.getD 16 (0 : BitVec 64) == ys.getD 16 (0 : BitVec 64) && (xs.getD 17 (0 : BitVec 64) == ys.getD 17 (0 : BitVec 64) && (xs.getD 18 (0 : BitVec 64) == ys.getD 18 (0 : BitVec 64) && (xs.getD 19 (0 : BitVec 64) == ys.getD 19 (0 : BitVec 64) && (xs.getD 20 (0 : BitVec 64) == ys.getD 20 (0 : BitVec 64) && (xs.getD 21 (0 : BitVec 64) == ys.getD 21 (0 : BitVec 64) && (xs.getD 22 (0 : BitVec 64) == ys.getD 22 (0 : BitVec 64) && (xs.getD 23 (0 : BitVec 64) == ys.getD 23 (0 : BitVec 64) && (xs.getD 24 (0 : BitVec 64) == ys.getD 24 (0 : BitVec 64) && true)))))))))))))))))))))))))
def uP (f : Nat → BitVec 64) (len : Nat) (at_ : BitVec 8) (b : BitVec 64) : List (BitVec 64) := (((((((((((((((((((((((((zP).set 0 ((permL (vP f len at_ b)).getD 0 (0 : BitVec 64))).set 1 ((permL (vP f len at_ b)).getD 1 (0 : BitVec 64))).set 2 ((permL (vP f len at_ b)).getD 2 (0 : BitVec 64))).set 3 ((permL (vP f len at_ b)).getD 3 (0 : BitVec 64))).set 4 ((permL (vP f len at_ b)).getD 4 (0 : BitVec 64))).set 5 ((permL (vP f len at_ b)).getD 5 (0 : BitVec 64))).set 6 ((permL (vP f len at_ b)).getD 6 (0 : BitVec 64))).set 7 ((permL (vP f len at_ b)).getD 7 (0 : BitVec 64))).set 8 ((permL (vP f len at_ b)).getD 8 (0 : BitVec 64))).set 9 ((permL (vP f len at_ b)).getD 9 (0 : BitVec 64))).set 10 ((permL (vP f len at_ b)).getD 10 (0 : BitVec 64))).set 11 ((permL (vP f len at_ b)).getD 11 (0 : BitVec 64))).set 12 ((permL (vP f len at_ b)).getD 12 (0 : BitVec 64))).set 13 ((permL (vP f len at_ b)).getD 13 (0 : BitVec 64))).set 14 ((permL (vP f len at_ b)).getD 14 (0 : BitVec 64))).set 15 ((permL (vP f len at_ b)).getD 15 (0 : BitVec 64))).set 16 ((permL (vP f len at_ b)).getD 16 (0 : BitVec 64))).set 17 ((permL (vP f len at_ b)).getD 17 (0 : BitVec 64))).set 18 ((permL (vP f len at_ b)).getD 18 (0 : BitVec 64))).set 19 ((permL (vP f len at_ b)).getD 19 (0 : BitVec 64))).set 20 ((permL (vP f len at_ b)).getD 20 (0 : BitVec 64))).set 21 ((permL (vP f len at_ b)).getD 21 (0 : BitVec 64))).set 22 ((permL (vP f len at_ b)).getD 22 (0 : BitVec 64))).set 23 ((permL (vP f len at_ b)).getD 23 (0 : BitVec 64))).set 24 ((permL (vP f len at_ b)).getD 24 (0 : BitVec 64))
theorem apart_x (f : Nat → BitVec 64) (len : Nat) (at_ : BitVec 8) (b : BitVec 64) :
  execF Pr (withAsm OZ [((50 : Nat), true), ((56 : Nat), true)]) (smL (0 : Nat) [qa_s]) (100 : Nat) Go.Proofs.Try.f5
  [V.isl (1 : Nat) len fun i x ↦ V.u64 (f i), V.u8 at_, V.u64 b] [] =
  some
  (qa_ok (fun i x ↦ V.u64 (f i), len, at_, b, true, zP) &&
        (decide ((25 : Nat) ≤ (aP f len).length) &&
            (decide ((0 : Nat) + ((Blk.b64 (aP f len)).atN (0 : Nat) (25 : Nat)).length ≤ (25 : Nat)) && true) &&
          (decide ((0 : Int) ≤ (↑(at_ % BitVec.ofInt (8 : Nat) (25 : Int)).toNat : Int)) &&
                decide ((↑(at_ % BitVec.ofInt (8 : Nat) (25 : Int)).toNat : Int) < (25 : Int)) &&
              (decide
                  ((0 : Nat) + (↑(at_ % BitVec.ofInt (8 : Nat) (25 : Int)).toNat : Int).toNat * (1 : Nat) <
                    (yP f len).length) &&
                (decide ((0 : Int) ≤ (↑(at_ % BitVec.ofInt (8 : Nat) (25 : Int)).toNat : Int)) &&
                    decide ((↑(at_ % BitVec.ofInt (8 : Nat) (25 : Int)).toNat : Int) < (25 : Int)) &&
                  (decide
                      ((0 : Nat) + (↑(at_ % BitVec.ofInt (8 : Nat) (25 : Int)).toNat : Int).toNat * (1 : Nat) +
                          [V.u64
                                ((yP f len).getD
                                    ((0 : Nat) +
                                      (↑(at_ % BitVec.ofInt (8 : Nat) (25 : Int)).toNat : Int).toNat * (1 : Nat))
                                    (OfNat.ofNat (0 : Nat)) ^^^
                                  b)].length ≤
                        (yP f len).length) &&
                    true))) &&
            (decide ((25 : Nat) ≤ (aP f len).length) &&
                ((eP f len).length.beq (25 : Nat) &&
                  (decide
                      ((0 : Nat) +
                          [V.u64 ((permL (eP f len)).getD (0 : Nat) (OfNat.ofNat (0 : Nat))),
                              V.u64 ((permL (eP f len)).getD (1 : Nat) (OfNat.ofNat (0 : Nat))),
                              V.u64 ((permL (eP f len)).getD (2 : Nat) (OfNat.ofNat (0 : Nat))),
                              V.u64 ((permL (eP f len)).getD (3 : Nat) (OfNat.ofNat (0 : Nat))),
                              V.u64 ((permL (eP f len)).getD (4 : Nat) (OfNat.ofNat (0 : Nat))),
                              V.u64 ((permL (eP f len)).getD (5 : Nat) (OfNat.ofNat (0 : Nat))),
                              V.u64 ((permL (eP f len)).getD (6 : Nat) (OfNat.ofNat (0 : Nat))),
                              V.u64 ((permL (eP f len)).getD (7 : Nat) (OfNat.ofNat (0 : Nat))),
                              V.u64 ((permL (eP f len)).getD (8 : Nat) (OfNat.ofNat (0 : Nat))),
                              V.u64 ((permL (eP f len)).getD (9 : Nat) (OfNat.ofNat (0 : Nat))),
                              V.u64 ((permL (eP f len)).getD (10 : Nat) (OfNat.ofNat (0 : Nat))),
                              V.u64 ((permL (eP f len)).getD (11 : Nat) (OfNat.ofNat (0 : Nat))),
                              V.u64 ((permL (eP f len)).getD (12 : Nat) (OfNat.ofNat (0 : Nat))),
                              V.u64 ((permL (eP f len)).getD (13 : Nat) (OfNat.ofNat (0 : Nat))),
                              V.u64 ((permL (eP f len)).getD (14 : Nat) (OfNat.ofNat (0 : Nat))),
                              V.u64 ((permL (eP f len)).getD (15 : Nat) (OfNat.ofNat (0 : Nat))),
                              V.u64 ((permL (eP f len)).getD (16 : Nat) (OfNat.ofNat (0 : Nat))),
                              V.u64 ((permL (eP f len)).getD (17 : Nat) (OfNat.ofNat (0 : Nat))),
                              V.u64 ((permL (eP f len)).getD (18 : Nat) (OfNat.ofNat (0 : Nat))),
                              V.u64 ((permL (eP f len)).getD (19 : Nat) (OfNat.ofNat (0 : Nat))),
                              V.u64 ((permL (eP f len)).getD (20 : Nat) (OfNat.ofNat (0 : Nat))),
                              V.u64 ((permL (eP f len)).getD (21 : Nat) (OfNat.ofNat (0 : Nat))),
                              V.u64 ((permL (eP f len)).getD (22 : Nat) (OfNat.ofNat (0 : Nat))),
                              V.u64 ((permL (eP f len)).getD (23 : Nat) (OfNat.ofNat (0 : Nat))),
                              V.u64 ((permL (eP f len)).getD (24 : Nat) (OfNat.ofNat (0 : Nat)))].length ≤
                        (25 : Nat)) &&
                    true)) &&
              (decide ((25 : Nat) ≤ (wP f len at_ b).length) &&
                  ((vP f len at_ b).length.beq (25 : Nat) &&
                    (decide
                        ((0 : Nat) +
                            [V.u64 ((permL (vP f len at_ b)).getD (0 : Nat) (OfNat.ofNat (0 : Nat))),
                                V.u64 ((permL (vP f len at_ b)).getD (1 : Nat) (OfNat.ofNat (0 : Nat))),
                                V.u64 ((permL (vP f len at_ b)).getD (2 : Nat) (OfNat.ofNat (0 : Nat))),
                                V.u64 ((permL (vP f len at_ b)).getD (3 : Nat) (OfNat.ofNat (0 : Nat))),
                                V.u64 ((permL (vP f len at_ b)).getD (4 : Nat) (OfNat.ofNat (0 : Nat))),
                                V.u64 ((permL (vP f len at_ b)).getD (5 : Nat) (OfNat.ofNat (0 : Nat))),
                                V.u64 ((permL (vP f len at_ b)).getD (6 : Nat) (OfNat.ofNat (0 : Nat))),
                                V.u64 ((permL (vP f len at_ b)).getD (7 : Nat) (OfNat.ofNat (0 : Nat))),
                                V.u64 ((permL (vP f len at_ b)).getD (8 : Nat) (OfNat.ofNat (0 : Nat))),
                                V.u64 ((permL (vP f len at_ b)).getD (9 : Nat) (OfNat.ofNat (0 : Nat))),
                                V.u64 ((permL (vP f len at_ b)).getD (10 : Nat) (OfNat.ofNat (0 : Nat))),
                                V.u64 ((permL (vP f len at_ b)).getD (11 : Nat) (OfNat.ofNat (0 : Nat))),
                                V.u64 ((permL (vP f len at_ b)).getD (12 : Nat) (OfNat.ofNat (0 : Nat))),
                                V.u64 ((permL (vP f len at_ b)).getD (13 : Nat) (OfNat.ofNat (0 : Nat))),
                                V.u64 ((permL (vP f len at_ b)).getD (14 : Nat) (OfNat.ofNat (0 : Nat))),
                                V.u64 ((permL (vP f len at_ b)).getD (15 : Nat) (OfNat.ofNat (0 : Nat))),
                                V.u64 ((permL (vP f len at_ b)).getD (16 : Nat) (OfNat.ofNat (0 : Nat))),
                                V.u64 ((permL (vP f len at_ b)).getD (17 : Nat) (OfNat.ofNat (0 : Nat))),
                                V.u64 ((permL (vP f len at_ b)).getD (18 : Nat) (OfNat.ofNat (0 : Nat))),
                                V.u64 ((permL (vP f len at_ b)).getD (19 : Nat) (OfNat.ofNat (0 : Nat))),
                                V.u64 ((permL (vP f len at_ b)).getD (20 : Nat) (OfNat.ofNat (0 : Nat))),
                                V.u64 ((permL (vP f len at_ b)).getD (21 : Nat) (OfNat.ofNat (0 : Nat))),
                                V.u64 ((permL (vP f len at_ b)).getD (22 : Nat) (OfNat.ofNat (0 : Nat))),
                                V.u64 ((permL (vP f len at_ b)).getD (23 : Nat) (OfNat.ofNat (0 : Nat))),
                                V.u64 ((permL (vP f len at_ b)).getD (24 : Nat) (OfNat.ofNat (0 : Nat)))].length ≤
                          (25 : Nat)) &&
                      true)) &&
                (decide ((25 : Nat) ≤ (xP f len).length) &&
                    (decide ((25 : Nat) ≤ (uP f len at_ b).length) &&
                      ((if true = true then eq25 (xP f len) (uP f len at_ b) == (b == BitVec.ofInt (64 : Nat) (0 : Int))
                        else !eq25 (xP f len) (uP f len at_ b) == (b == BitVec.ofInt (64 : Nat) (0 : Int))) &&
                        (decide ((25 : Nat) ≤ (xP f len).length) &&
                          (decide ((25 : Nat) ≤ (aP f len).length) &&
                            ((eP f len).length.beq (25 : Nat) &&
                              ((if true = true then eq25 (xP f len) (permL (eP f len))
                                else !eq25 (xP f len) (permL (eP f len))) &&
                                true)))))) &&
                  true))))) &&
      true,
    Fin.ret (V.bool true), []) := by kernel_rfl
def eZ : List (BitVec 64) := [zP.getD 0 (0 : BitVec 64), zP.getD 1 (0 : BitVec 64), zP.getD 2 (0 : BitVec 64), zP.getD 3 (0 : BitVec 64), zP.getD 4 (0 : BitVec 64), zP.getD 5 (0 : BitVec 64), zP.getD 6 (0 : BitVec 64), zP.getD 7 (0 : BitVec 64), zP.getD 8 (0 : BitVec 64), zP.getD 9 (0 : BitVec 64), zP.getD 10 (0 : BitVec 64), zP.getD 11 (0 : BitVec 64), zP.getD 12 (0 : BitVec 64), zP.getD 13 (0 : BitVec 64), zP.getD 14 (0 : BitVec 64), zP.getD 15 (0 : BitVec 64), zP.getD 16 (0 : BitVec 64), zP.getD 17 (0 : BitVec 64), zP.getD 18 (0 : BitVec 64), zP.getD 19 (0 : BitVec 64), zP.getD 20 (0 : BitVec 64), zP.getD 21 (0 : BitVec 64), zP.getD 22 (0 : BitVec 64), zP.getD 23 (0 : BitVec 64), zP.getD 24 (0 : BitVec 64)]
def yZ : List (BitVec 64) := (((((((((((((((((((((((((zP).set 0 (zP.getD 0 (0 : BitVec 64))).set 1 (zP.getD 1 (0 : BitVec 64))).set 2 (zP.getD 2 (0 : BitVec 64))).set 3 (zP.getD 3 (0 : BitVec 64))).set 4 (zP.getD 4 (0 : BitVec 64))).set 5 (zP.getD 5 (0 : BitVec 64))).set 6 (zP.getD 6 (0 : BitVec 64))).set 7 (zP.getD 7 (0 : BitVec 64))).set 8 (zP.getD 8 (0 : BitVec 64))).set 9 (zP.getD 9 (0 : BitVec 64))).set 10 (zP.getD 10 (0 : BitVec 64))).set 11 (zP.getD 11 (0 : BitVec 64))).set 12 (zP.getD 12 (0 : BitVec 64))).set 13 (zP.getD 13 (0 : BitVec 64))).set 14 (zP.getD 14 (0 : BitVec 64))).set 15 (zP.getD 15 (0 : BitVec 64))).set 16 (zP.getD 16 (0 : BitVec 64))).set 17 (zP.getD 17 (0 : BitVec 64))).set 18 (zP.getD 18 (0 : BitVec 64))).set 19 (zP.getD 19 (0 : BitVec 64))).set 20 (zP.getD 20 (0 : BitVec 64))).set 21 (zP.getD 21 (0 : BitVec 64))).set 22 (zP.getD 22 (0 : BitVec 64))).set 23 (zP.getD 23 (0 : BitVec 64))).set 24 (zP.getD 24 (0 : BitVec 64))
def wZ (at_ : BitVec 8) (b : BitVec 64) : List (BitVec 64) := yZ.set ((0 : Nat) + (↑(at_ % BitVec.ofInt (8 : Nat) (25 : Int)).toNat : Int).toNat * (1 : Nat)) (yZ.getD ((0 : Nat) + (↑(at_ % BitVec.ofInt (8 : Nat) (25 : Int)).toNat : Int).toNat * (1 : Nat)) (0 : BitVec 64) ^^^ b)
def vZ (at_ : BitVec 8) (b : BitVec 64) : List (BitVec 64) := [(wZ at_ b).getD 0 (0 : BitVec 64), (wZ at_ b).getD 1 (0 : BitVec 64), (wZ at_ b).getD 2 (0 : BitVec 64), (wZ at_ b).getD 3 (0 : BitVec 64), (wZ at_ b).getD 4 (0 : BitVec 64), (wZ at_ b).getD 5 (0 : BitVec 64), (wZ at_ b).getD 6 (0 : BitVec 64), (wZ at_ b).getD 7 (0 : BitVec 64), (wZ at_ b).getD 8 (0 : BitVec 64), (wZ at_ b).getD 9 (0 : BitVec 64), (wZ at_ b).getD 10 (0 : BitVec 64), (wZ at_ b).getD 11 (0 : BitVec 64), (wZ at_ b).getD 12 (0 : BitVec 64), (wZ at_ b).getD 13 (0 : BitVec 64), (wZ at_ b).getD 14 (0 : BitVec 64), (wZ at_ b).getD 15 (0 : BitVec 64), (wZ at_ b).getD 16 (0 : BitVec 64), (wZ at_ b).getD 17 (0 : BitVec 64), (wZ at_ b).getD 18 (0 : BitVec 64), (wZ at_ b).getD 19 (0 : BitVec 64), (wZ at_ b).getD 20 (0 : BitVec 64), (wZ at_ b).getD 21 (0 : BitVec 64), (wZ at_ b).getD 22 (0 : BitVec 64), (wZ at_ b).getD 23 (0 : BitVec 64), (wZ at_ b).getD 24 (0 : BitVec 64)]
def xY : List (BitVec 64) := (((((((((((((((((((((((((zP).set 0 ((permL eZ).getD 0 (0 : BitVec 64))).set 1 ((permL eZ).getD 1 (0 : BitVec 64))).set 2 ((permL eZ).getD 2 (0 : BitVec 64))).set 3 ((permL eZ).getD 3 (0 : BitVec 64))).set 4 ((permL eZ).getD 4 (0 : BitVec 64))).set 5 ((permL eZ).getD 5 (0 : BitVec 64))).set 6 ((permL eZ).getD 6 (0 : BitVec 64))).set 7 ((permL eZ).getD 7 (0 : BitVec 64))).set 8 ((permL eZ).getD 8 (0 : BitVec 64))).set 9 ((permL eZ).getD 9 (0 : BitVec 64))).set 10 ((permL eZ).getD 10 (0 : BitVec 64))).set 11 ((permL eZ).getD 11 (0 : BitVec 64))).set 12 ((permL eZ).getD 12 (0 : BitVec 64))).set 13 ((permL eZ).getD 13 (0 : BitVec 64))).set 14 ((permL eZ).getD 14 (0 : BitVec 64))).set 15 ((permL eZ).getD 15 (0 : BitVec 64))).set 16 ((permL eZ).getD 16 (0 : BitVec 64))).set 17 ((permL eZ).getD 17 (0 : BitVec 64))).set 18 ((permL eZ).getD 18 (0 : BitVec 64))).set 19 ((permL eZ).getD 19 (0 : BitVec 64))).set 20 ((permL eZ).getD 20 (0 : BitVec 64))).set 21 ((permL eZ).getD 21 (0 : BitVec 64))).set 22 ((permL eZ).getD 22 (0 : BitVec 64))).set 23 ((permL eZ).getD 23 (0 : BitVec 64))).set 24 ((permL eZ).getD 24 (0 : BitVec 64))
def uZ (at_ : BitVec 8) (b : BitVec 64) : List (BitVec 64) := (((((((((((((((((((((((((zP).set 0 ((permL (vZ at_ b)).getD 0 (0 : BitVec 64))).set 1 ((permL (vZ at_ b)).getD 1 (0 : BitVec 64))).set 2 ((permL (vZ at_ b)).getD 2 (0 : BitVec 64))).set 3 ((permL (vZ at_ b)).getD 3 (0 : BitVec 64))).set 4 ((permL (vZ at_ b)).getD 4 (0 : BitVec 64))).set 5 ((permL (vZ at_ b)).getD 5 (0 : BitVec 64))).set 6 ((permL (vZ at_ b)).getD 6 (0 : BitVec 64))).set 7 ((permL (vZ at_ b)).getD 7 (0 : BitVec 64))).set 8 ((permL (vZ at_ b)).getD 8 (0 : BitVec 64))).set 9 ((permL (vZ at_ b)).getD 9 (0 : BitVec 64))).set 10 ((permL (vZ at_ b)).getD 10 (0 : BitVec 64))).set 11 ((permL (vZ at_ b)).getD 11 (0 : BitVec 64))).set 12 ((permL (vZ at_ b)).getD 12 (0 : BitVec 64))).set 13 ((permL (vZ at_ b)).getD 13 (0 : BitVec 64))).set 14 ((permL (vZ at_ b)).getD 14 (0 : BitVec 64))).set 15 ((permL (vZ at_ b)).getD 15 (0 : BitVec 64))).set 16 ((permL (vZ at_ b)).getD 16 (0 : BitVec 64))).set 17 ((permL (vZ at_ b)).getD 17 (0 : BitVec 64))).set 18 ((permL (vZ at_ b)).getD 18 (0 : BitVec 64))).set 19 ((permL (vZ at_ b)).getD 19 (0 : BitVec 64))).set 20 ((permL (vZ at_ b)).getD 20 (0 : BitVec 64))).set 21 ((permL (vZ at_ b)).getD 21 (0 : BitVec 64))).set 22 ((permL (vZ at_ b)).getD 22 (0 : BitVec 64))).set 23 ((permL (vZ at_ b)).getD 23 (0 : BitVec 64))).set 24 ((permL (vZ at_ b)).getD 24 (0 : BitVec 64))
theorem apart_n (at_ : BitVec 8) (b : BitVec 64) :
  execF Pr (withAsm OZ [((50 : Nat), true), ((56 : Nat), true)]) (smL (0 : Nat) [qa_s]) (100 : Nat) Go.Proofs.Try.f5
  [V.nilSl, V.u8 at_, V.u64 b] [] =
  some
  (decide ((0 : Int) ≤ (↑(at_ % BitVec.ofInt (8 : Nat) (25 : Int)).toNat : Int)) &&
            decide ((↑(at_ % BitVec.ofInt (8 : Nat) (25 : Int)).toNat : Int) < (25 : Int)) &&
          (decide
              ((0 : Nat) + (↑(at_ % BitVec.ofInt (8 : Nat) (25 : Int)).toNat : Int).toNat * (1 : Nat) < (25 : Nat)) &&
            (decide ((0 : Int) ≤ (↑(at_ % BitVec.ofInt (8 : Nat) (25 : Int)).toNat : Int)) &&
                decide ((↑(at_ % BitVec.ofInt (8 : Nat) (25 : Int)).toNat : Int) < (25 : Int)) &&
              (decide
                  ((0 : Nat) + (↑(at_ % BitVec.ofInt (8 : Nat) (25 : Int)).toNat : Int).toNat * (1 : Nat) +
                      [V.u64
                            (yZ.getD
                                ((0 : Nat) + (↑(at_ % BitVec.ofInt (8 : Nat) (25 : Int)).toNat : Int).toNat * (1 : Nat))
                                (OfNat.ofNat (0 : Nat)) ^^^
                              b)].length ≤
                    (25 : Nat)) &&
                true))) &&
        (decide ((25 : Nat) ≤ (wZ at_ b).length) &&
            ((vZ at_ b).length.beq (25 : Nat) &&
              (decide
                  ((0 : Nat) +
                      [V.u64 ((permL (vZ at_ b)).getD (0 : Nat) (OfNat.ofNat (0 : Nat))),
                          V.u64 ((permL (vZ at_ b)).getD (1 : Nat) (OfNat.ofNat (0 : Nat))),
                          V.u64 ((permL (vZ at_ b)).getD (2 : Nat) (OfNat.ofNat (0 : Nat))),
                          V.u64 ((permL (vZ at_ b)).getD (3 : Nat) (OfNat.ofNat (0 : Nat))),
                          V.u64 ((permL (vZ at_ b)).getD (4 : Nat) (OfNat.ofNat (0 : Nat))),
                          V.u64 ((permL (vZ at_ b)).getD (5 : Nat) (OfNat.ofNat (0 : Nat))),
                          V.u64 ((permL (vZ at_ b)).getD (6 : Nat) (OfNat.ofNat (0 : Nat))),
                          V.u64 ((permL (vZ at_ b)).getD (7 : Nat) (OfNat.ofNat (0 : Nat))),
                          V.u64 ((permL (vZ at_ b)).getD (8 : Nat) (OfNat.ofNat (0 : Nat))),
                          V.u64 ((permL (vZ at_ b)).getD (9 : Nat) (OfNat.ofNat (0 : Nat))),
                          V.u64 ((permL (vZ at_ b)).getD (10 : Nat) (OfNat.ofNat (0 : Nat))),
                          V.u64 ((permL (vZ at_ b)).getD (11 : Nat) (OfNat.ofNat (0 : Nat))),
                          V.u64 ((permL (vZ at_ b)).getD (12 : Nat) (OfNat.ofNat (0 : Nat))),
                          V.u64 ((permL (vZ at_ b)).getD (13 : Nat) (OfNat.ofNat (0 : Nat))),
                          V.u64 ((permL (vZ at_ b)).getD (14 : Nat) (OfNat.ofNat (0 : Nat))),
                          V.u64 ((permL (vZ at_ b)).getD (15 : Nat) (OfNat.ofNat (0 : Nat))),
                          V.u64 ((permL (vZ at_ b)).getD (16 : Nat) (OfNat.ofNat (0 : Nat))),
                          V.u64 ((permL (vZ at_ b)).getD (17 : Nat) (OfNat.ofNat (0 : Nat))),
                          V.u64 ((permL (vZ at_ b)).getD (18 : Nat) (OfNat.ofNat (0 : Nat))),
                          V.u64 ((permL (vZ at_ b)).getD (19 : Nat) (OfNat.ofNat (0 : Nat))),
                          V.u64 ((permL (vZ at_ b)).getD (20 : Nat) (OfNat.ofNat (0 : Nat))),
                          V.u64 ((permL (vZ at_ b)).getD (21 : Nat) (OfNat.ofNat (0 : Nat))),
                          V.u64 ((permL (vZ at_ b)).getD (22 : Nat) (OfNat.ofNat (0 : Nat))),
                          V.u64 ((permL (vZ at_ b)).getD (23 : Nat) (OfNat.ofNat (0 : Nat))),
                          V.u64 ((permL (vZ at_ b)).getD (24 : Nat) (OfNat.ofNat (0 : Nat)))].length ≤
                    (25 : Nat)) &&
                true)) &&
          (decide ((25 : Nat) ≤ (uZ at_ b).length) &&
              ((if true = true then eq25 xY (uZ at_ b) == (b == BitVec.ofInt (64 : Nat) (0 : Int))
                else !eq25 xY (uZ at_ b) == (b == BitVec.ofInt (64 : Nat) (0 : Int))) &&
                true) &&
            true)) &&
      true,
    Fin.ret (V.bool true), []) := by kernel_rfl

theorem eq25_eq (xs ys : List (BitVec 64)) (hx : xs.length = 25) (hy : ys.length = 25) : eq25 xs ys = decide (xs = ys) := by
  obtain ⟨x0, x1, x2, x3, x4, x5, x6, x7, x8, x9, x10, x11, x12, x13, x14, x15, x16, x17, x18, x19, x20, x21, x22, x23, x24, rfl⟩ := list25 xs hx
  obtain ⟨y0, y1, y2, y3, y4, y5, y6, y7, y8, y9, y10, y11, y12, y13, y14, y15, y16, y17, y18, y19, y20, y21, y22, y23, y24, rfl⟩ := list25 ys hy
  unfold eq25
  rw [Bool.eq_iff_iff]
  simp
theorem flip_eq (xs : List (BitVec 64)) (hx : xs.length = 25) (i : Nat) (hi : i < 25) (b : BitVec 64) : (xs.set i (xs.getD i 0 ^^^ b) = xs) ↔ b = 0 := by
  constructor
  · intro h
    have e := congrArg (fun l => l.getD i 0) h
    simp only [getD_set _ _ _ _ (show i < xs.length by omega), if_true] at e
    have e2 : xs.getD i 0 ^^^ b = xs.getD i 0 ^^^ 0 := by rw [e]; simp
    exact (BitVec.xor_right_inj _).1 e2
  · rintro rfl
    apply List.ext_getElem?
    intro k
    by_cases e : k = i
    · subst e
      rw [List.getElem?_set_self (by omega), List.getElem?_eq_getElem (by omega)]
      simp [List.getD_eq_getElem?_getD, List.getElem?_eq_getElem (show k < xs.length by omega)]
    · rw [List.getElem?_set_ne (Ne.symm e)]
theorem yP_eq (f : Nat → BitVec 64) (len : Nat) : yP f len = aP f len := setN25 zP (aP f len) rfl (aP_length f len)
theorem vP_eq (f : Nat → BitVec 64) (len : Nat) (a : BitVec 8) (b : BitVec 64) : vP f len a b = wP f len a b := each25 (wP f len a b) (by unfold wP; rw [List.length_set, yP_eq, aP_length])
theorem uP_eq (f : Nat → BitVec 64) (len : Nat) (a : BitVec 8) (b : BitVec 64) : uP f len a b = permL (wP f len a b) := by rw [← vP_eq]; exact setN25 zP (permL (vP f len a b)) rfl (permL_length _)
theorem at_lt (a : BitVec 8) : (a % BitVec.ofInt 8 25).toNat < 25 := by
  rw [BitVec.toNat_umod]; exact Nat.mod_lt _ (by decide)
theorem wP_length (f : Nat → BitVec 64) (len : Nat) (a : BitVec 8) (b : BitVec 64) : (wP f len a b).length = 25 := by unfold wP; rw [List.length_set, yP_eq, aP_length]
theorem wP_iff (f : Nat → BitVec 64) (len : Nat) (a : BitVec 8) (b : BitVec 64) : (permL (aP f len) = permL (wP f len a b)) ↔ b = 0 := by
  have e : wP f len a b = (aP f len).set (a % BitVec.ofInt 8 25).toNat ((aP f len).getD (a % BitVec.ofInt 8 25).toNat 0 ^^^ b) := by
    unfold wP; rw [yP_eq, Int.toNat_natCast, Nat.mul_one, Nat.zero_add]
  rw [← flip_eq (aP f len) (aP_length f len) _ (at_lt a) b, ← e]
  exact ⟨fun h => (perm_inj (aP_length f len) (wP_length f len a b) h).symm, fun h => by rw [h]⟩
theorem apart_exec (f : Nat → BitVec 64) (len : Nat) (h : len < 100000000000000000000) (a : BitVec 8) (b : BitVec 64) : execF Pr (withAsm OZ [(50,true),(56,true)]) (smL 0 [qa_s]) 100 Go.Proofs.Try.f5 [.isl 1 len (fun i _ => .u64 (f i)), .u8 a, .u64 b] [] = some (true, .ret (.bool true), []) := by
  rw [apart_x]
  have l1 := aP_length f len
  have l2 := wP_length f len a b
  have l3 := at_lt a
  have pl := fun xs => permL_length xs
  have c1 : eq25 (permL (aP f len)) (permL (wP f len a b)) = (b == BitVec.ofInt 64 0) := by
    rw [eq25_eq _ _ (pl _) (pl _), Bool.eq_iff_iff, decide_eq_true_eq, wP_iff, beq_iff_eq]; rfl
  have c2 : eq25 (permL (aP f len)) (permL (aP f len)) = true := by rw [eq25_eq _ _ (pl _) (pl _)]; simp
  rw [xP_eq, eP_eq, uP_eq, vP_eq, yP_eq, c1, c2]
  have b1 : Nat.beq 25 25 = true := rfl
  have b2 : ((Blk.b64 (aP f len)).atN 0 25).length = 25 := rfl
  refine stF ?_ rfl rfl
  simp only [qa_ok, l1, l2, pl, b1, b2, zP_length, Int.toNat_natCast, Nat.mul_one, Nat.zero_add, Bool.and_eq_true, Bool.and_true, Bool.true_and, decide_eq_true_eq, if_true, beq_self_eq_true, List.length_cons, List.length_nil]
  (repeat' apply And.intro) <;> first | omega | exact True.intro | rfl
theorem apartL : LoopsOk Pr Go.Proofs.Try.f5 0 (smL 0 [qa_s]) := LoopsOk.of [(qa_s, qa_k)] (by kernel_rfl) (by
  intro p hp
  simp only [List.mem_cons, List.not_mem_nil, or_false] at hp
  subst hp
  exact qa_at)
theorem apart_fn (f : Nat → BitVec 64) (len : Nat) (h : len < 100000000000000000000) (a : BitVec 8) (b : BitVec 64) : LFn Pr 5 [.isl 1 len (fun i _ => .u64 (f i)), .u8 a, .u64 b] [] (.ret (.bool true)) [] :=
  execF_sound (fn := Go.Proofs.Try.f5) (withAsm_sound OZ_sound) mixed (by kernel_rfl) apartL (apart_exec f len h a b)
theorem eZ_eq : eZ = zP := rfl
theorem yZ_eq : yZ = zP := rfl
theorem wZ_length (a : BitVec 8) (b : BitVec 64) : (wZ a b).length = 25 := by unfold wZ; rw [List.length_set]; rfl
theorem vZ_eq (a : BitVec 8) (b : BitVec 64) : vZ a b = wZ a b := each25 (wZ a b) (wZ_length a b)
theorem xY_eq : xY = permL zP := by rw [← eZ_eq]; exact setN25 zP (permL eZ) rfl (permL_length _)
theorem uZ_eq (a : BitVec 8) (b : BitVec 64) : uZ a b = permL (wZ a b) := by rw [← vZ_eq]; exact setN25 zP (permL (vZ a b)) rfl (permL_length _)
theorem wZ_iff (a : BitVec 8) (b : BitVec 64) : (permL zP = permL (wZ a b)) ↔ b = 0 := by
  have e : wZ a b = zP.set (a % BitVec.ofInt 8 25).toNat (zP.getD (a % BitVec.ofInt 8 25).toNat 0 ^^^ b) := by
    unfold wZ; rw [yZ_eq, Int.toNat_natCast, Nat.mul_one, Nat.zero_add]
  rw [← flip_eq zP rfl _ (at_lt a) b, ← e]
  exact ⟨fun h => (perm_inj rfl (wZ_length a b) h).symm, fun h => by rw [h]⟩
theorem apartn_exec (a : BitVec 8) (b : BitVec 64) : execF Pr (withAsm OZ [(50,true),(56,true)]) (smL 0 [qa_s]) 100 Go.Proofs.Try.f5 [.nilSl, .u8 a, .u64 b] [] = some (true, .ret (.bool true), []) := by
  rw [apart_n]
  have l2 := wZ_length a b
  have l3 := at_lt a
  have pl := fun xs => permL_length xs
  have c1 : eq25 (permL zP) (permL (wZ a b)) = (b == BitVec.ofInt 64 0) := by
    rw [eq25_eq _ _ (pl _) (pl _), Bool.eq_iff_iff, decide_eq_true_eq, wZ_iff, beq_iff_eq]; rfl
  rw [xY_eq, uZ_eq, vZ_eq, c1]
  have b1 : Nat.beq 25 25 = true := rfl
  refine stF ?_ rfl rfl
  simp only [l2, pl, b1, zP_length, Int.toNat_natCast, Nat.mul_one, Nat.zero_add, Bool.and_eq_true, Bool.and_true, Bool.true_and, decide_eq_true_eq, if_true, beq_self_eq_true, List.length_cons, List.length_nil]
  (repeat' apply And.intro) <;> first | omega | exact True.intro | rfl
theorem apartn_fn (a : BitVec 8) (b : BitVec 64) : LFn Pr 5 [.nilSl, .u8 a, .u64 b] [] (.ret (.bool true)) [] :=
  execF_sound (fn := Go.Proofs.Try.f5) (withAsm_sound OZ_sound) mixed (by kernel_rfl) apartL (apartn_exec a b)
end
end Go.Proofs.Ytggblpmijekemaa.K
