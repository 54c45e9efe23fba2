/- The document's Permute. -/
import Derived.Test.YtggblpmijekemaaK8
import Derived.Test.YtggblpmijekemaaLhAE
set_option linter.unusedSimpArgs false
set_option linter.unusedVariables false
open Go Go.Lh
namespace Go.Proofs.Ytggblpmijekemaa.K
noncomputable section
set_option maxRecDepth 100000
def turn (x : BitVec 64) (k : Nat) : BitVec 64 := x <<< (k % 64) ||| (x >>> ((64 - k % 64) % 64)) * BitVec.ofInt 64 (if (1 : Int) < ((k % 64 : Nat) : Int) then (1 : Int) else ((k % 64 : Nat) : Int))
theorem turned_x (a : BitVec 64) (i : Int) :
  execFD Pr noOrc noLoops [] (100 : Nat) Go.Proofs.Try.f19 [V.u64 a, V.int IntKind.i64 i] [] =
  some
  (decide ((0 : Int) ≤ i.tmod (64 : Int)) &&
          (decide ((0 : Int) ≤ (wrapI IntKind.i64 ((64 : Int) - i.tmod (64 : Int))).tmod (64 : Int)) && true) &&
        true &&
      true,
    Fin.ret
      (V.u64
        (a <<< (i.tmod (64 : Int)).toNat |||
          a >>> ((wrapI IntKind.i64 ((64 : Int) - i.tmod (64 : Int))).tmod (64 : Int)).toNat *
            BitVec.ofInt (64 : Nat) (if (1 : Int) < i.tmod (64 : Int) then (1 : Int) else i.tmod (64 : Int)))),
    []) := by kernel_rfl
theorem turned_fn (a : BitVec 64) (i : Int) (h1 : 0 ≤ i) (h2 : i < 64) : LFn Pr 19 [.u64 a, .int .i64 i] [] (.ret (.u64 (turn a i.toNat))) [] := by
  obtain ⟨n, rfl⟩ : ∃ n : Nat, i = n := ⟨i.toNat, by omega⟩
  have e0 : (n : Int).tmod 64 = ((n % 64 : Nat) : Int) := tmod_lit n 64
  have e1 : wrapI IntKind.i64 ((64 : Int) - (n : Int).tmod 64) = ((64 - n % 64 : Nat) : Int) := by rw [e0, lit_sub _ _ (by omega), wrapI_nat (by omega)]
  have e2 : (wrapI IntKind.i64 ((64 : Int) - (n : Int).tmod 64)).tmod 64 = (((64 - n % 64) % 64 : Nat) : Int) := by rw [e1]; exact tmod_lit _ 64
  refine execFD_sound (noOrc_sound _) mixed (f := 19) (fn := Go.Proofs.Try.f19) (by kernel_rfl) LoopsOk.none ((turned_x a (n : Int)).trans ?_)
  refine stF ?_ ?_ ?_
  · rw [e2, e0]; simp only [Bool.and_true, Bool.and_eq_true, decide_eq_true_eq]; omega
  · unfold turn; rw [e2, e0]; simp only [Int.toNat_natCast]
  · first | rfl | (simp (disch := omega) only [tmod_lit, tdiv_lit, mul_lit, add_lit, lit_mul, lit_add, add_nat, mul_nat, sub_lit, lit_sub, sub_nat, wrapI_nat, wrapI_in, Int.toNat_natCast, Nat.mul_one, Nat.zero_add, toNat_lit] <;> rfl) | (simp (disch := omega) only [tmod_lit, tdiv_lit, mul_lit, add_lit, lit_mul, lit_add, add_nat, mul_nat, sub_lit, lit_sub, sub_nat, wrapI_nat, wrapI_in, Int.toNat_natCast, Nat.mul_one, Nat.zero_add, toNat_lit]; done)
def turned_read : List V → Heap → Option ((BitVec 64) × Int) := fun f h => match f, h with
  | [.u64 a, .int .i64 i], [] => some (a, i)
  | _, _ => none
def turned_g := ct turned_read (fun ⟨a, i⟩ => decide (0 ≤ i) && decide (i < 64)) (fun ⟨a, i⟩ => .ret (.u64 (turn a i.toNat))) (fun ⟨a, i⟩ => [])
theorem turned_ok : ∀ args h fin h', turned_g args h = some (true, fin, h') → LFn Pr 19 args h fin h' := by
  refine ct_ok (fun ⟨a, i⟩ => [.u64 a, .int .i64 i]) (fun ⟨a, i⟩ => []) ?_ ?_
  · intro args h a e
    unfold turned_read at e
    split at e <;> cases e
    exact ⟨rfl, rfl⟩
  · rintro ⟨a, i⟩ hok
    simp only [Bool.and_eq_true, decide_eq_true_eq] at hok
    obtain ⟨h1, h2⟩ := hok
    exact turned_fn a i h1 h2
theorem turned_en : Enters Pr 19 := Enters.of (fn := Go.Proofs.Try.f19) (by kernel_rfl) (by kernel_rfl)
def OT : Orc := auto Pr noExt [(19, turned_g)] [17, 18] 3
theorem OT_sound : OrcSound Pr OT := auto_sound mixed noExt_ok (KOk.cons turned_en turned_ok KOk.nil) (by kernel_rfl) 3
/-- the columns -/
def cN (xs cs : List (BitVec 64)) : Nat → List (BitVec 64)
  | 0 => cs
  | n + 1 => (cN xs cs n).set (n % 5) ((cN xs cs n).getD (n % 5) 0 ^^^ xs.getD n 0)
theorem cN_length (xs cs : List (BitVec 64)) : ∀ n, (cN xs cs n).length = cs.length
  | 0 => rfl
  | n + 1 => by simp [cN, cN_length xs cs n]

/-- the lanes, turned, of a column -/
def bY (xs cs : List (BitVec 64)) (is : List Int) (x : Nat) (bs : List (BitVec 64)) : Nat → List (BitVec 64)
  | 0 => bs
  | y + 1 => (bY xs cs is x bs y).set (y + 5 * ((2 * x + 3 * y) % 5)) (turn (xs.getD (x + 5 * y) 0 ^^^ cs.getD ((x + 4) % 5) 0 ^^^ turn (cs.getD ((x + 1) % 5) 0) 1) (is.getD (x + 5 * y) 0).toNat)
theorem bY_length (xs cs : List (BitVec 64)) (is : List Int) (x : Nat) (bs : List (BitVec 64)) : ∀ n, (bY xs cs is x bs n).length = bs.length
  | 0 => rfl
  | n + 1 => by simp [bY, bY_length xs cs is x bs n]
def bX (xs cs : List (BitVec 64)) (is : List Int) (bs : List (BitVec 64)) : Nat → List (BitVec 64)
  | 0 => bs
  | x + 1 => bY xs cs is x (bX xs cs is bs x) 5
theorem bX_length (xs cs : List (BitVec 64)) (is : List Int) (bs : List (BitVec 64)) : ∀ n, (bX xs cs is bs n).length = bs.length
  | 0 => rfl
  | n + 1 => by simp [bX, bY_length, bX_length xs cs is bs n]
def oY (bs : List (BitVec 64)) (x : Nat) (os : List (BitVec 64)) : Nat → List (BitVec 64)
  | 0 => os
  | y + 1 => (oY bs x os y).set (x + 5 * y) (bs.getD (x + 5 * y) 0 ^^^ (~~~(bs.getD ((x + 1) % 5 + 5 * y) 0) &&& bs.getD ((x + 2) % 5 + 5 * y) 0))
theorem oY_length (bs : List (BitVec 64)) (x : Nat) (os : List (BitVec 64)) : ∀ n, (oY bs x os n).length = os.length
  | 0 => rfl
  | n + 1 => by simp [oY, oY_length bs x os n]
def oX (bs os : List (BitVec 64)) : Nat → List (BitVec 64)
  | 0 => os
  | x + 1 => oY bs x (oX bs os x) 5
theorem oX_length (bs os : List (BitVec 64)) : ∀ n, (oX bs os n).length = os.length
  | 0 => rfl
  | n + 1 => by simp [oX, oY_length, oX_length bs os n]
def rotI : List Int := [0, 1, 62, 28, 27, 36, 44, 6, 55, 20, 3, 10, 43, 25, 39, 41, 45, 15, 21, 8, 18, 2, 61, 56, 14]
theorem rotI_in : ∀ k, k < 25 → 0 ≤ rotI.getD k 0 ∧ rotI.getD k 0 < 64 := by decide
theorem rotI_length : rotI.length = 25 := rfl

theorem pcA_on (cs : List (BitVec 64)) (xs : List (BitVec 64)) (rs : List (BitVec 64)) (is : List Int) (i : Int) (cp : Option Nat) (m : Nat) (n : Nat) :
  execN Pr noOrc noLoops [((23 : Nat), true)] (100 : Nat) (1 : Nat)
  [(0 : Nat), (3 : Nat), (4 : Nat), (5 : Nat), (6 : Nat), (7 : Nat)] (loopBody Go.Proofs.Try.f12 (1 : Nat))
  [((0 : Nat), V.sl (0 : Nat) (0 : Nat) (1 : Nat) (25 : Nat) cp),
    ((3 : Nat), V.sl (1 : Nat) (0 : Nat) (1 : Nat) (25 : Nat) (some (25 : Nat))),
    ((4 : Nat), V.sl (2 : Nat) (0 : Nat) (1 : Nat) m none), ((5 : Nat), V.int IntKind.i64 i),
    ((6 : Nat), V.sl (3 : Nat) (0 : Nat) (1 : Nat) (5 : Nat) (some (5 : Nat))),
    ((7 : Nat), V.int IntKind.i64 (↑n : Int))]
  [Blk.b64 xs, Blk.ints is, Blk.b64 rs, Blk.b64 cs] =
  some
  ((if true = true then decide ((↑n : Int) < (25 : Int)) else !decide ((↑n : Int) < (25 : Int))) && true &&
      (decide ((0 : Int) ≤ (↑n : Int).tmod (5 : Int)) && decide ((↑n : Int).tmod (5 : Int) < (5 : Int)) &&
          (decide ((0 : Nat) + ((↑n : Int).tmod (5 : Int)).toNat * (1 : Nat) < cs.length) &&
            (decide ((0 : Int) ≤ (↑n : Int)) && decide ((↑n : Int) < (25 : Int)) &&
              (decide ((0 : Nat) + (↑n : Int).toNat * (1 : Nat) < xs.length) &&
                (decide ((0 : Int) ≤ (↑n : Int).tmod (5 : Int)) && decide ((↑n : Int).tmod (5 : Int) < (5 : Int)) &&
                  (decide
                      ((0 : Nat) + ((↑n : Int).tmod (5 : Int)).toNat * (1 : Nat) +
                          [V.u64
                                (cs.getD ((0 : Nat) + ((↑n : Int).tmod (5 : Int)).toNat * (1 : Nat))
                                    (OfNat.ofNat (0 : Nat)) ^^^
                                  xs.getD ((0 : Nat) + (↑n : Int).toNat * (1 : Nat)) (OfNat.ofNat (0 : Nat)))].length ≤
                        cs.length) &&
                    true))))) &&
        true),
    X.normal,
    [((0 : Nat), V.sl (0 : Nat) (0 : Nat) (1 : Nat) (25 : Nat) cp),
      ((3 : Nat), V.sl (1 : Nat) (0 : Nat) (1 : Nat) (25 : Nat) (some (25 : Nat))),
      ((4 : Nat), V.sl (2 : Nat) (0 : Nat) (1 : Nat) m none), ((5 : Nat), V.int IntKind.i64 i),
      ((6 : Nat), V.sl (3 : Nat) (0 : Nat) (1 : Nat) (5 : Nat) (some (5 : Nat))),
      ((7 : Nat), V.int IntKind.i64 (wrapI IntKind.i64 ((↑n : Int) + (1 : Int))))],
    [Blk.b64 xs, Blk.ints is, Blk.b64 rs,
      Blk.b64
        (cs.set ((0 : Nat) + ((↑n : Int).tmod (5 : Int)).toNat * (1 : Nat))
          (cs.getD ((0 : Nat) + ((↑n : Int).tmod (5 : Int)).toNat * (1 : Nat)) (OfNat.ofNat (0 : Nat)) ^^^
            xs.getD ((0 : Nat) + (↑n : Int).toNat * (1 : Nat)) (OfNat.ofNat (0 : Nat))))]) := by kernel_rfl
theorem pcA_off (cs : List (BitVec 64)) (xs : List (BitVec 64)) (rs : List (BitVec 64)) (is : List Int) (i : Int) (cp : Option Nat) (m : Nat) (n : Nat) :
  execN Pr noOrc noLoops [((23 : Nat), false)] (100 : Nat) (1 : Nat)
  [(0 : Nat), (3 : Nat), (4 : Nat), (5 : Nat), (6 : Nat)] (loopBody Go.Proofs.Try.f12 (1 : Nat))
  [((0 : Nat), V.sl (0 : Nat) (0 : Nat) (1 : Nat) (25 : Nat) cp),
    ((3 : Nat), V.sl (1 : Nat) (0 : Nat) (1 : Nat) (25 : Nat) (some (25 : Nat))),
    ((4 : Nat), V.sl (2 : Nat) (0 : Nat) (1 : Nat) m none), ((5 : Nat), V.int IntKind.i64 i),
    ((6 : Nat), V.sl (3 : Nat) (0 : Nat) (1 : Nat) (5 : Nat) (some (5 : Nat))),
    ((7 : Nat), V.int IntKind.i64 (↑n : Int))]
  [Blk.b64 xs, Blk.ints is, Blk.b64 rs, Blk.b64 cs] =
  some
  ((if false = true then decide ((↑n : Int) < (25 : Int)) else !decide ((↑n : Int) < (25 : Int))) && true,
    X.exit (2 : Nat),
    [((0 : Nat), V.sl (0 : Nat) (0 : Nat) (1 : Nat) (25 : Nat) cp),
      ((3 : Nat), V.sl (1 : Nat) (0 : Nat) (1 : Nat) (25 : Nat) (some (25 : Nat))),
      ((4 : Nat), V.sl (2 : Nat) (0 : Nat) (1 : Nat) m none), ((5 : Nat), V.int IntKind.i64 i),
      ((6 : Nat), V.sl (3 : Nat) (0 : Nat) (1 : Nat) (5 : Nat) (some (5 : Nat)))],
    [Blk.b64 xs, Blk.ints is, Blk.b64 rs, Blk.b64 cs]) := by kernel_rfl
def pcA_S : (List (BitVec 64)) × (List (BitVec 64)) × (List (BitVec 64)) × (List Int) × Int × (Option Nat) × Nat → Nat → Fr × Heap := fun ⟨cs, xs, rs, is, i, cp, m⟩ n => ([(0, .sl 0 0 1 25 cp), (3, .sl 1 0 1 25 (some 25)), (4, .sl 2 0 1 m none), (5, .int .i64 i), (6, .sl 3 0 1 5 (some 5)), (7, .int .i64 n)], [.b64 xs, .ints is, .b64 rs, .b64 (cN xs cs n)])
def pcA_read : Fr → Heap → Option ((List (BitVec 64)) × (List (BitVec 64)) × (List (BitVec 64)) × (List Int) × Int × (Option Nat) × Nat) := fun f h => match f, h with
  | [(0, .sl 0 0 1 25 cp), (3, .sl 1 0 1 25 (some 25)), (4, .sl 2 0 1 m none), (5, .int .i64 i), (6, .sl 3 0 1 5 (some 5)), (7, .int .i64 0)], [.b64 xs, .ints is, .b64 rs, .b64 cs] => some (cs, xs, rs, is, i, cp, m)
  | _, _ => none
def pcA_ok : (List (BitVec 64)) × (List (BitVec 64)) × (List (BitVec 64)) × (List Int) × Int × (Option Nat) × Nat → Bool := fun ⟨cs, xs, rs, is, i, cp, m⟩ => decide (cs.length = 5) && decide (xs.length = 25)
def pcA_E : (List (BitVec 64)) × (List (BitVec 64)) × (List (BitVec 64)) × (List Int) × Int × (Option Nat) × Nat → X × Fr × Heap := fun ⟨cs, xs, rs, is, i, cp, m⟩ => (.exit 2, [(0, .sl 0 0 1 25 cp), (3, .sl 1 0 1 25 (some 25)), (4, .sl 2 0 1 m none), (5, .int .i64 i), (6, .sl 3 0 1 5 (some 5))], [.b64 xs, .ints is, .b64 rs, .b64 (cN xs cs (25))])
def pcA_k : Nat := 1
def pcA_s : Sm := whS 8 [0,3,4,5,6,7] pcA_read pcA_ok pcA_E
theorem pcA_at : SmAt Pr Go.Proofs.Try.f12 1 pcA_s pcA_k := by
  refine cnt_at pcA_S (fun ⟨cs, xs, rs, is, i, cp, m⟩ => 25) (by kernel_rfl) (by kernel_rfl) ?_ ?_ ?_ ?_
  · intro f g a h
    unfold pcA_read at h
    split at h <;> cases h
    rfl
  · intro a h; cases h
  · rintro ⟨cs, xs, rs, is, i, cp, m⟩ hok n hn
    simp only at hn
    simp only [pcA_ok] at hok
    simp only [Bool.and_eq_true, decide_eq_true_eq] at hok
    obtain ⟨h1, h2⟩ := hok
    have := cN_length xs cs n
    refine execN_sound (noOrc_sound _) mixed (LoopsOk.innerAt LoopsOk.none 1) (by kernel_rfl) (by intro v h; cases h) ((pcA_on ((cN xs cs n)) xs rs is i cp m (n)).trans ?_)
    refine stX ?_ ?_ ?_
    · (try simp (disch := omega) only [tmod_lit, tdiv_lit, mul_lit, add_lit, lit_mul, lit_add, add_nat, mul_nat, sub_lit, lit_sub, sub_nat, wrapI_nat, wrapI_in, Int.toNat_natCast, Nat.mul_one, Nat.zero_add, toNat_lit])
      (try simp only [Bool.and_eq_true, Bool.and_true, Bool.true_and, decide_eq_true_eq, Bool.not_eq_true', decide_eq_false_iff_not, if_true, Bool.false_eq_true, if_false, List.length_set, List.length_append, List.length_replicate, List.length_cons, List.length_nil, Blk.len])
      (repeat' apply And.intro) <;> first | rfl | omega | decide
    · first | rfl | (simp (disch := omega) only [tmod_lit, tdiv_lit, mul_lit, add_lit, lit_mul, lit_add, add_nat, mul_nat, sub_lit, lit_sub, sub_nat, wrapI_nat, wrapI_in, Int.toNat_natCast, Nat.mul_one, Nat.zero_add, toNat_lit] <;> rfl) | (simp (disch := omega) only [tmod_lit, tdiv_lit, mul_lit, add_lit, lit_mul, lit_add, add_nat, mul_nat, sub_lit, lit_sub, sub_nat, wrapI_nat, wrapI_in, Int.toNat_natCast, Nat.mul_one, Nat.zero_add, toNat_lit]; done)
    · first | rfl | (simp (disch := omega) only [tmod_lit, tdiv_lit, mul_lit, add_lit, lit_mul, lit_add, add_nat, mul_nat, sub_lit, lit_sub, sub_nat, wrapI_nat, wrapI_in, Int.toNat_natCast, Nat.mul_one, Nat.zero_add, toNat_lit] <;> rfl) | (simp (disch := omega) only [tmod_lit, tdiv_lit, mul_lit, add_lit, lit_mul, lit_add, add_nat, mul_nat, sub_lit, lit_sub, sub_nat, wrapI_nat, wrapI_in, Int.toNat_natCast, Nat.mul_one, Nat.zero_add, toNat_lit]; done)
  · rintro ⟨cs, xs, rs, is, i, cp, m⟩ hok
    simp only [pcA_ok] at hok
    simp only [Bool.and_eq_true, decide_eq_true_eq] at hok
    obtain ⟨h1, h2⟩ := hok
    have := cN_length xs cs 25
    refine execN_sound (noOrc_sound _) mixed (LoopsOk.innerAt LoopsOk.none 1) (by kernel_rfl) (by intro v h; cases h) ((pcA_off ((cN xs cs 25)) xs rs is i cp m (25)).trans ?_)
    refine stX ?_ ?_ ?_
    · (try simp (disch := omega) only [tmod_lit, tdiv_lit, mul_lit, add_lit, lit_mul, lit_add, add_nat, mul_nat, sub_lit, lit_sub, sub_nat, wrapI_nat, wrapI_in, Int.toNat_natCast, Nat.mul_one, Nat.zero_add, toNat_lit])
      (try simp only [Bool.and_eq_true, Bool.and_true, Bool.true_and, decide_eq_true_eq, Bool.not_eq_true', decide_eq_false_iff_not, if_true, Bool.false_eq_true, if_false, List.length_set, List.length_append, List.length_replicate, List.length_cons, List.length_nil, Blk.len])
      (repeat' apply And.intro) <;> first | rfl | omega | decide
    · first | rfl | (simp (disch := omega) only [tmod_lit, tdiv_lit, mul_lit, add_lit, lit_mul, lit_add, add_nat, mul_nat, sub_lit, lit_sub, sub_nat, wrapI_nat, wrapI_in, Int.toNat_natCast, Nat.mul_one, Nat.zero_add, toNat_lit] <;> rfl) | (simp (disch := omega) only [tmod_lit, tdiv_lit, mul_lit, add_lit, lit_mul, lit_add, add_nat, mul_nat, sub_lit, lit_sub, sub_nat, wrapI_nat, wrapI_in, Int.toNat_natCast, Nat.mul_one, Nat.zero_add, toNat_lit]; done)
    · first | rfl | (simp (disch := omega) only [tmod_lit, tdiv_lit, mul_lit, add_lit, lit_mul, lit_add, add_nat, mul_nat, sub_lit, lit_sub, sub_nat, wrapI_nat, wrapI_in, Int.toNat_natCast, Nat.mul_one, Nat.zero_add, toNat_lit] <;> rfl) | (simp (disch := omega) only [tmod_lit, tdiv_lit, mul_lit, add_lit, lit_mul, lit_add, add_nat, mul_nat, sub_lit, lit_sub, sub_nat, wrapI_nat, wrapI_in, Int.toNat_natCast, Nat.mul_one, Nat.zero_add, toNat_lit]; done)
theorem pyA_on (bs : List (BitVec 64)) (cs : List (BitVec 64)) (xs : List (BitVec 64)) (rs : List (BitVec 64)) (is : List Int) (i : Int) (cp : Option Nat) (m : Nat) (x : Int) (n : Nat) :
  execN Pr OT noLoops [((46 : Nat), true)] (100 : Nat) (1 : Nat)
  [(0 : Nat), (3 : Nat), (4 : Nat), (5 : Nat), (6 : Nat), (8 : Nat), (9 : Nat), (10 : Nat)]
  (loopBody Go.Proofs.Try.f12 (3 : Nat))
  [((0 : Nat), V.sl (0 : Nat) (0 : Nat) (1 : Nat) (25 : Nat) cp),
    ((3 : Nat), V.sl (1 : Nat) (0 : Nat) (1 : Nat) (25 : Nat) (some (25 : Nat))),
    ((4 : Nat), V.sl (2 : Nat) (0 : Nat) (1 : Nat) m none), ((5 : Nat), V.int IntKind.i64 i),
    ((6 : Nat), V.sl (3 : Nat) (0 : Nat) (1 : Nat) (5 : Nat) (some (5 : Nat))),
    ((8 : Nat), V.sl (4 : Nat) (0 : Nat) (1 : Nat) (25 : Nat) (some (25 : Nat))), ((9 : Nat), V.int IntKind.i64 x),
    ((10 : Nat), V.int IntKind.i64 (↑n : Int))]
  [Blk.b64 xs, Blk.ints is, Blk.b64 rs, Blk.b64 cs, Blk.b64 bs] =
  some
  ((if true = true then decide ((↑n : Int) < (5 : Int)) else !decide ((↑n : Int) < (5 : Int))) && true &&
      (decide ((0 : Int) ≤ wrapI IntKind.i64 (x + wrapI IntKind.i64 ((5 : Int) * (↑n : Int)))) &&
              decide (wrapI IntKind.i64 (x + wrapI IntKind.i64 ((5 : Int) * (↑n : Int))) < (25 : Int)) &&
            (decide
                ((0 : Nat) + (wrapI IntKind.i64 (x + wrapI IntKind.i64 ((5 : Int) * (↑n : Int)))).toNat * (1 : Nat) <
                  xs.length) &&
              (decide ((0 : Int) ≤ (wrapI IntKind.i64 (x + (4 : Int))).tmod (5 : Int)) &&
                  decide ((wrapI IntKind.i64 (x + (4 : Int))).tmod (5 : Int) < (5 : Int)) &&
                (decide
                    ((0 : Nat) + ((wrapI IntKind.i64 (x + (4 : Int))).tmod (5 : Int)).toNat * (1 : Nat) < cs.length) &&
                  (decide ((0 : Int) ≤ (wrapI IntKind.i64 (x + (1 : Int))).tmod (5 : Int)) &&
                      decide ((wrapI IntKind.i64 (x + (1 : Int))).tmod (5 : Int) < (5 : Int)) &&
                    (decide
                        ((0 : Nat) + ((wrapI IntKind.i64 (x + (1 : Int))).tmod (5 : Int)).toNat * (1 : Nat) <
                          cs.length) &&
                      ((fun x ↦
                            match x with
                            | (a, i) => decide ((0 : Int) ≤ i) && decide (i < (64 : Int)))
                          (cs.getD ((0 : Nat) + ((wrapI IntKind.i64 (x + (1 : Int))).tmod (5 : Int)).toNat * (1 : Nat))
                              (OfNat.ofNat (0 : Nat)),
                            (1 : Int)) &&
                        true)))))) &&
          (decide ((0 : Int) ≤ wrapI IntKind.i64 (x + wrapI IntKind.i64 ((5 : Int) * (↑n : Int)))) &&
              decide (wrapI IntKind.i64 (x + wrapI IntKind.i64 ((5 : Int) * (↑n : Int))) < (25 : Int)) &&
            (decide
                ((0 : Nat) + (wrapI IntKind.i64 (x + wrapI IntKind.i64 ((5 : Int) * (↑n : Int)))).toNat * (1 : Nat) <
                  is.length) &&
              ((fun x ↦
                    match x with
                    | (a, i) => decide ((0 : Int) ≤ i) && decide (i < (64 : Int)))
                  (xs.getD
                          ((0 : Nat) +
                            (wrapI IntKind.i64 (x + wrapI IntKind.i64 ((5 : Int) * (↑n : Int)))).toNat * (1 : Nat))
                          (OfNat.ofNat (0 : Nat)) ^^^
                        cs.getD ((0 : Nat) + ((wrapI IntKind.i64 (x + (4 : Int))).tmod (5 : Int)).toNat * (1 : Nat))
                          (OfNat.ofNat (0 : Nat)) ^^^
                      turn
                        (cs.getD ((0 : Nat) + ((wrapI IntKind.i64 (x + (1 : Int))).tmod (5 : Int)).toNat * (1 : Nat))
                          (OfNat.ofNat (0 : Nat)))
                        (1 : Nat),
                    is.getD
                      ((0 : Nat) +
                        (wrapI IntKind.i64 (x + wrapI IntKind.i64 ((5 : Int) * (↑n : Int)))).toNat * (1 : Nat))
                      (0 : Int)) &&
                (decide
                      ((0 : Int) ≤
                        wrapI IntKind.i64
                          ((↑n : Int) +
                            wrapI IntKind.i64
                              ((5 : Int) *
                                (wrapI IntKind.i64
                                      (wrapI IntKind.i64 ((2 : Int) * x) +
                                        wrapI IntKind.i64 ((3 : Int) * (↑n : Int)))).tmod
                                  (5 : Int)))) &&
                    decide
                      (wrapI IntKind.i64
                          ((↑n : Int) +
                            wrapI IntKind.i64
                              ((5 : Int) *
                                (wrapI IntKind.i64
                                      (wrapI IntKind.i64 ((2 : Int) * x) +
                                        wrapI IntKind.i64 ((3 : Int) * (↑n : Int)))).tmod
                                  (5 : Int))) <
                        (25 : Int)) &&
                  (decide
                      ((0 : Nat) +
                            (wrapI IntKind.i64
                                  ((↑n : Int) +
                                    wrapI IntKind.i64
                                      ((5 : Int) *
                                        (wrapI IntKind.i64
                                              (wrapI IntKind.i64 ((2 : Int) * x) +
                                                wrapI IntKind.i64 ((3 : Int) * (↑n : Int)))).tmod
                                          (5 : Int)))).toNat *
                              (1 : Nat) +
                          [V.u64
                                (turn
                                  (xs.getD
                                        ((0 : Nat) +
                                          (wrapI IntKind.i64 (x + wrapI IntKind.i64 ((5 : Int) * (↑n : Int)))).toNat *
                                            (1 : Nat))
                                        (OfNat.ofNat (0 : Nat)) ^^^
                                      cs.getD
                                        ((0 : Nat) +
                                          ((wrapI IntKind.i64 (x + (4 : Int))).tmod (5 : Int)).toNat * (1 : Nat))
                                        (OfNat.ofNat (0 : Nat)) ^^^
                                    turn
                                      (cs.getD
                                        ((0 : Nat) +
                                          ((wrapI IntKind.i64 (x + (1 : Int))).tmod (5 : Int)).toNat * (1 : Nat))
                                        (OfNat.ofNat (0 : Nat)))
                                      (1 : Nat))
                                  (is.getD
                                      ((0 : Nat) +
                                        (wrapI IntKind.i64 (x + wrapI IntKind.i64 ((5 : Int) * (↑n : Int)))).toNat *
                                          (1 : Nat))
                                      (0 : Int)).toNat)].length ≤
                        bs.length) &&
                    true))))) &&
        true),
    X.normal,
    [((0 : Nat), V.sl (0 : Nat) (0 : Nat) (1 : Nat) (25 : Nat) cp),
      ((3 : Nat), V.sl (1 : Nat) (0 : Nat) (1 : Nat) (25 : Nat) (some (25 : Nat))),
      ((4 : Nat), V.sl (2 : Nat) (0 : Nat) (1 : Nat) m none), ((5 : Nat), V.int IntKind.i64 i),
      ((6 : Nat), V.sl (3 : Nat) (0 : Nat) (1 : Nat) (5 : Nat) (some (5 : Nat))),
      ((8 : Nat), V.sl (4 : Nat) (0 : Nat) (1 : Nat) (25 : Nat) (some (25 : Nat))), ((9 : Nat), V.int IntKind.i64 x),
      ((10 : Nat), V.int IntKind.i64 (wrapI IntKind.i64 ((↑n : Int) + (1 : Int))))],
    [Blk.b64 xs, Blk.ints is, Blk.b64 rs, Blk.b64 cs,
      Blk.b64
        (bs.set
          ((0 : Nat) +
            (wrapI IntKind.i64
                  ((↑n : Int) +
                    wrapI IntKind.i64
                      ((5 : Int) *
                        (wrapI IntKind.i64
                              (wrapI IntKind.i64 ((2 : Int) * x) + wrapI IntKind.i64 ((3 : Int) * (↑n : Int)))).tmod
                          (5 : Int)))).toNat *
              (1 : Nat))
          (turn
            (xs.getD
                  ((0 : Nat) + (wrapI IntKind.i64 (x + wrapI IntKind.i64 ((5 : Int) * (↑n : Int)))).toNat * (1 : Nat))
                  (OfNat.ofNat (0 : Nat)) ^^^
                cs.getD ((0 : Nat) + ((wrapI IntKind.i64 (x + (4 : Int))).tmod (5 : Int)).toNat * (1 : Nat))
                  (OfNat.ofNat (0 : Nat)) ^^^
              turn
                (cs.getD ((0 : Nat) + ((wrapI IntKind.i64 (x + (1 : Int))).tmod (5 : Int)).toNat * (1 : Nat))
                  (OfNat.ofNat (0 : Nat)))
                (1 : Nat))
            (is.getD
                ((0 : Nat) + (wrapI IntKind.i64 (x + wrapI IntKind.i64 ((5 : Int) * (↑n : Int)))).toNat * (1 : Nat))
                (0 : Int)).toNat))]) := by kernel_rfl
theorem pyA_off (bs : List (BitVec 64)) (cs : List (BitVec 64)) (xs : List (BitVec 64)) (rs : List (BitVec 64)) (is : List Int) (i : Int) (cp : Option Nat) (m : Nat) (x : Int) (n : Nat) :
  execN Pr OT noLoops [((46 : Nat), false)] (100 : Nat) (1 : Nat)
  [(0 : Nat), (3 : Nat), (4 : Nat), (5 : Nat), (6 : Nat), (8 : Nat), (9 : Nat)] (loopBody Go.Proofs.Try.f12 (3 : Nat))
  [((0 : Nat), V.sl (0 : Nat) (0 : Nat) (1 : Nat) (25 : Nat) cp),
    ((3 : Nat), V.sl (1 : Nat) (0 : Nat) (1 : Nat) (25 : Nat) (some (25 : Nat))),
    ((4 : Nat), V.sl (2 : Nat) (0 : Nat) (1 : Nat) m none), ((5 : Nat), V.int IntKind.i64 i),
    ((6 : Nat), V.sl (3 : Nat) (0 : Nat) (1 : Nat) (5 : Nat) (some (5 : Nat))),
    ((8 : Nat), V.sl (4 : Nat) (0 : Nat) (1 : Nat) (25 : Nat) (some (25 : Nat))), ((9 : Nat), V.int IntKind.i64 x),
    ((10 : Nat), V.int IntKind.i64 (↑n : Int))]
  [Blk.b64 xs, Blk.ints is, Blk.b64 rs, Blk.b64 cs, Blk.b64 bs] =
  some
  ((if false = true then decide ((↑n : Int) < (5 : Int)) else !decide ((↑n : Int) < (5 : Int))) && true,
    X.exit (6 : Nat),
    [((0 : Nat), V.sl (0 : Nat) (0 : Nat) (1 : Nat) (25 : Nat) cp),
      ((3 : Nat), V.sl (1 : Nat) (0 : Nat) (1 : Nat) (25 : Nat) (some (25 : Nat))),
      ((4 : Nat), V.sl (2 : Nat) (0 : Nat) (1 : Nat) m none), ((5 : Nat), V.int IntKind.i64 i),
      ((6 : Nat), V.sl (3 : Nat) (0 : Nat) (1 : Nat) (5 : Nat) (some (5 : Nat))),
      ((8 : Nat), V.sl (4 : Nat) (0 : Nat) (1 : Nat) (25 : Nat) (some (25 : Nat))), ((9 : Nat), V.int IntKind.i64 x)],
    [Blk.b64 xs, Blk.ints is, Blk.b64 rs, Blk.b64 cs, Blk.b64 bs]) := by kernel_rfl
def pyA_S : (List (BitVec 64)) × (List (BitVec 64)) × (List (BitVec 64)) × (List (BitVec 64)) × (List Int) × Int × (Option Nat) × Nat × Int → Nat → Fr × Heap := fun ⟨bs, cs, xs, rs, is, i, cp, m, x⟩ n => ([(0, .sl 0 0 1 25 cp), (3, .sl 1 0 1 25 (some 25)), (4, .sl 2 0 1 m none), (5, .int .i64 i), (6, .sl 3 0 1 5 (some 5)), (8, .sl 4 0 1 25 (some 25)), (9, .int .i64 x), (10, .int .i64 n)], [.b64 xs, .ints is, .b64 rs, .b64 cs, .b64 (bY xs cs is x.toNat bs n)])
def pyA_read : Fr → Heap → Option ((List (BitVec 64)) × (List (BitVec 64)) × (List (BitVec 64)) × (List (BitVec 64)) × (List Int) × Int × (Option Nat) × Nat × Int) := fun f h => match f, h with
  | [(0, .sl 0 0 1 25 cp), (3, .sl 1 0 1 25 (some 25)), (4, .sl 2 0 1 m none), (5, .int .i64 i), (6, .sl 3 0 1 5 (some 5)), (8, .sl 4 0 1 25 (some 25)), (9, .int .i64 x), (10, .int .i64 0)], [.b64 xs, .ints is, .b64 rs, .b64 cs, .b64 bs] => some (bs, cs, xs, rs, is, i, cp, m, x)
  | _, _ => none
def pyA_ok : (List (BitVec 64)) × (List (BitVec 64)) × (List (BitVec 64)) × (List (BitVec 64)) × (List Int) × Int × (Option Nat) × Nat × Int → Bool := fun ⟨bs, cs, xs, rs, is, i, cp, m, x⟩ => decide (cs.length = 5) && decide (xs.length = 25) && decide (bs.length = 25) && decide (is = rotI) && decide (0 ≤ x) && decide (x < 5)
def pyA_E : (List (BitVec 64)) × (List (BitVec 64)) × (List (BitVec 64)) × (List (BitVec 64)) × (List Int) × Int × (Option Nat) × Nat × Int → X × Fr × Heap := fun ⟨bs, cs, xs, rs, is, i, cp, m, x⟩ => (.exit 6, [(0, .sl 0 0 1 25 cp), (3, .sl 1 0 1 25 (some 25)), (4, .sl 2 0 1 m none), (5, .int .i64 i), (6, .sl 3 0 1 5 (some 5)), (8, .sl 4 0 1 25 (some 25)), (9, .int .i64 x)], [.b64 xs, .ints is, .b64 rs, .b64 cs, .b64 (bY xs cs is x.toNat bs (5))])
def pyA_k : Nat := 3
def pyA_s : Sm := whS 16 [0,3,4,5,6,8,9,10] pyA_read pyA_ok pyA_E
theorem pyA_at : SmAt Pr Go.Proofs.Try.f12 1 pyA_s pyA_k := by
  refine cnt_at pyA_S (fun ⟨bs, cs, xs, rs, is, i, cp, m, x⟩ => 5) (by kernel_rfl) (by kernel_rfl) ?_ ?_ ?_ ?_
  · intro f g a h
    unfold pyA_read at h
    split at h <;> cases h
    rfl
  · intro a h; cases h
  · rintro ⟨bs, cs, xs, rs, is, i, cp, m, x⟩ hok n hn
    simp only at hn
    simp only [pyA_ok] at hok
    simp only [Bool.and_eq_true, decide_eq_true_eq] at hok
    obtain ⟨⟨⟨⟨⟨h1, h2⟩, h3⟩, h4⟩, h5⟩, h6⟩ := hok
    subst h4
    obtain ⟨u, rfl⟩ : ∃ u : Nat, x = u := ⟨x.toNat, by omega⟩
    have hb := bY_length xs cs rotI u bs n
    have hr := rotI_in (u + 5 * n) (by omega)
    have hl := rotI_length
    refine execN_sound OT_sound mixed (LoopsOk.innerAt LoopsOk.none 3) (by kernel_rfl) (by intro v h; cases h) ((pyA_on ((bY xs cs rotI ((u : Nat) : Int).toNat bs n)) cs xs rs rotI i cp m ((u : Nat) : Int) (n)).trans ?_)
    refine stX ?_ ?_ ?_
    · (try simp (disch := omega) only [tmod_lit, tdiv_lit, mul_lit, add_lit, lit_mul, lit_add, add_nat, mul_nat, sub_lit, lit_sub, sub_nat, wrapI_nat, wrapI_in, Int.toNat_natCast, Nat.mul_one, Nat.zero_add, toNat_lit])
      (try simp only [Bool.and_eq_true, Bool.and_true, Bool.true_and, decide_eq_true_eq, Bool.not_eq_true', decide_eq_false_iff_not, if_true, Bool.false_eq_true, if_false, List.length_set, List.length_append, List.length_replicate, List.length_cons, List.length_nil, Blk.len])
      (repeat' apply And.intro) <;> first | rfl | omega | decide
    · first | rfl | (simp (disch := omega) only [tmod_lit, tdiv_lit, mul_lit, add_lit, lit_mul, lit_add, add_nat, mul_nat, sub_lit, lit_sub, sub_nat, wrapI_nat, wrapI_in, Int.toNat_natCast, Nat.mul_one, Nat.zero_add, toNat_lit] <;> rfl) | (simp (disch := omega) only [tmod_lit, tdiv_lit, mul_lit, add_lit, lit_mul, lit_add, add_nat, mul_nat, sub_lit, lit_sub, sub_nat, wrapI_nat, wrapI_in, Int.toNat_natCast, Nat.mul_one, Nat.zero_add, toNat_lit]; done)
    · first | rfl | (simp (disch := omega) only [tmod_lit, tdiv_lit, mul_lit, add_lit, lit_mul, lit_add, add_nat, mul_nat, sub_lit, lit_sub, sub_nat, wrapI_nat, wrapI_in, Int.toNat_natCast, Nat.mul_one, Nat.zero_add, toNat_lit] <;> rfl) | (simp (disch := omega) only [tmod_lit, tdiv_lit, mul_lit, add_lit, lit_mul, lit_add, add_nat, mul_nat, sub_lit, lit_sub, sub_nat, wrapI_nat, wrapI_in, Int.toNat_natCast, Nat.mul_one, Nat.zero_add, toNat_lit]; done)
  · rintro ⟨bs, cs, xs, rs, is, i, cp, m, x⟩ hok
    simp only [pyA_ok] at hok
    simp only [Bool.and_eq_true, decide_eq_true_eq] at hok
    obtain ⟨⟨⟨⟨⟨h1, h2⟩, h3⟩, h4⟩, h5⟩, h6⟩ := hok
    have := bY_length xs cs is x.toNat bs 5
    refine execN_sound OT_sound mixed (LoopsOk.innerAt LoopsOk.none 3) (by kernel_rfl) (by intro v h; cases h) ((pyA_off ((bY xs cs is x.toNat bs 5)) cs xs rs is i cp m x (5)).trans ?_)
    refine stX ?_ ?_ ?_
    · (try simp (disch := omega) only [tmod_lit, tdiv_lit, mul_lit, add_lit, lit_mul, lit_add, add_nat, mul_nat, sub_lit, lit_sub, sub_nat, wrapI_nat, wrapI_in, Int.toNat_natCast, Nat.mul_one, Nat.zero_add, toNat_lit])
      (try simp only [Bool.and_eq_true, Bool.and_true, Bool.true_and, decide_eq_true_eq, Bool.not_eq_true', decide_eq_false_iff_not, if_true, Bool.false_eq_true, if_false, List.length_set, List.length_append, List.length_replicate, List.length_cons, List.length_nil, Blk.len])
      (repeat' apply And.intro) <;> first | rfl | omega | decide
    · first | rfl | (simp (disch := omega) only [tmod_lit, tdiv_lit, mul_lit, add_lit, lit_mul, lit_add, add_nat, mul_nat, sub_lit, lit_sub, sub_nat, wrapI_nat, wrapI_in, Int.toNat_natCast, Nat.mul_one, Nat.zero_add, toNat_lit] <;> rfl) | (simp (disch := omega) only [tmod_lit, tdiv_lit, mul_lit, add_lit, lit_mul, lit_add, add_nat, mul_nat, sub_lit, lit_sub, sub_nat, wrapI_nat, wrapI_in, Int.toNat_natCast, Nat.mul_one, Nat.zero_add, toNat_lit]; done)
    · first | rfl | (simp (disch := omega) only [tmod_lit, tdiv_lit, mul_lit, add_lit, lit_mul, lit_add, add_nat, mul_nat, sub_lit, lit_sub, sub_nat, wrapI_nat, wrapI_in, Int.toNat_natCast, Nat.mul_one, Nat.zero_add, toNat_lit] <;> rfl) | (simp (disch := omega) only [tmod_lit, tdiv_lit, mul_lit, add_lit, lit_mul, lit_add, add_nat, mul_nat, sub_lit, lit_sub, sub_nat, wrapI_nat, wrapI_in, Int.toNat_natCast, Nat.mul_one, Nat.zero_add, toNat_lit]; done)
theorem pxA_on (bs : List (BitVec 64)) (cs : List (BitVec 64)) (xs : List (BitVec 64)) (rs : List (BitVec 64)) (is : List Int) (i : Int) (cp : Option Nat) (m : Nat) (n : Nat) :
  execN Pr OT (smL (1 : Nat) [pyA_s]) [((42 : Nat), true)] (100 : Nat) (1 : Nat)
  [(0 : Nat), (3 : Nat), (4 : Nat), (5 : Nat), (6 : Nat), (8 : Nat), (9 : Nat)] (loopBody Go.Proofs.Try.f12 (2 : Nat))
  [((0 : Nat), V.sl (0 : Nat) (0 : Nat) (1 : Nat) (25 : Nat) cp),
    ((3 : Nat), V.sl (1 : Nat) (0 : Nat) (1 : Nat) (25 : Nat) (some (25 : Nat))),
    ((4 : Nat), V.sl (2 : Nat) (0 : Nat) (1 : Nat) m none), ((5 : Nat), V.int IntKind.i64 i),
    ((6 : Nat), V.sl (3 : Nat) (0 : Nat) (1 : Nat) (5 : Nat) (some (5 : Nat))),
    ((8 : Nat), V.sl (4 : Nat) (0 : Nat) (1 : Nat) (25 : Nat) (some (25 : Nat))),
    ((9 : Nat), V.int IntKind.i64 (↑n : Int))]
  [Blk.b64 xs, Blk.ints is, Blk.b64 rs, Blk.b64 cs, Blk.b64 bs] =
  some
  ((if true = true then decide ((↑n : Int) < (5 : Int)) else !decide ((↑n : Int) < (5 : Int))) && true &&
      (pyA_ok (bs, cs, xs, rs, is, i, cp, m, (↑n : Int)) && true),
    X.normal,
    [((0 : Nat), V.sl (0 : Nat) (0 : Nat) (1 : Nat) (25 : Nat) cp),
      ((3 : Nat), V.sl (1 : Nat) (0 : Nat) (1 : Nat) (25 : Nat) (some (25 : Nat))),
      ((4 : Nat), V.sl (2 : Nat) (0 : Nat) (1 : Nat) m none), ((5 : Nat), V.int IntKind.i64 i),
      ((6 : Nat), V.sl (3 : Nat) (0 : Nat) (1 : Nat) (5 : Nat) (some (5 : Nat))),
      ((8 : Nat), V.sl (4 : Nat) (0 : Nat) (1 : Nat) (25 : Nat) (some (25 : Nat))),
      ((9 : Nat), V.int IntKind.i64 (wrapI IntKind.i64 ((↑n : Int) + (1 : Int))))],
    [Blk.b64 xs, Blk.ints is, Blk.b64 rs, Blk.b64 cs,
      Blk.b64 (bY xs cs is (↑n : Int).toNat bs (5 : Nat))]) := by kernel_rfl
theorem pxA_off (bs : List (BitVec 64)) (cs : List (BitVec 64)) (xs : List (BitVec 64)) (rs : List (BitVec 64)) (is : List Int) (i : Int) (cp : Option Nat) (m : Nat) (n : Nat) :
  execN Pr OT (smL (1 : Nat) [pyA_s]) [((42 : Nat), false)] (100 : Nat) (1 : Nat)
  [(0 : Nat), (3 : Nat), (4 : Nat), (5 : Nat), (8 : Nat)] (loopBody Go.Proofs.Try.f12 (2 : Nat))
  [((0 : Nat), V.sl (0 : Nat) (0 : Nat) (1 : Nat) (25 : Nat) cp),
    ((3 : Nat), V.sl (1 : Nat) (0 : Nat) (1 : Nat) (25 : Nat) (some (25 : Nat))),
    ((4 : Nat), V.sl (2 : Nat) (0 : Nat) (1 : Nat) m none), ((5 : Nat), V.int IntKind.i64 i),
    ((6 : Nat), V.sl (3 : Nat) (0 : Nat) (1 : Nat) (5 : Nat) (some (5 : Nat))),
    ((8 : Nat), V.sl (4 : Nat) (0 : Nat) (1 : Nat) (25 : Nat) (some (25 : Nat))),
    ((9 : Nat), V.int IntKind.i64 (↑n : Int))]
  [Blk.b64 xs, Blk.ints is, Blk.b64 rs, Blk.b64 cs, Blk.b64 bs] =
  some
  ((if false = true then decide ((↑n : Int) < (5 : Int)) else !decide ((↑n : Int) < (5 : Int))) && true,
    X.exit (4 : Nat),
    [((0 : Nat), V.sl (0 : Nat) (0 : Nat) (1 : Nat) (25 : Nat) cp),
      ((3 : Nat), V.sl (1 : Nat) (0 : Nat) (1 : Nat) (25 : Nat) (some (25 : Nat))),
      ((4 : Nat), V.sl (2 : Nat) (0 : Nat) (1 : Nat) m none), ((5 : Nat), V.int IntKind.i64 i),
      ((8 : Nat), V.sl (3 : Nat) (0 : Nat) (1 : Nat) (25 : Nat) (some (25 : Nat)))],
    [Blk.b64 xs, Blk.ints is, Blk.b64 rs, Blk.b64 bs]) := by kernel_rfl
def pxA_S : (List (BitVec 64)) × (List (BitVec 64)) × (List (BitVec 64)) × (List (BitVec 64)) × (List Int) × Int × (Option Nat) × Nat → Nat → Fr × Heap := fun ⟨bs, cs, xs, rs, is, i, cp, m⟩ n => ([(0, .sl 0 0 1 25 cp), (3, .sl 1 0 1 25 (some 25)), (4, .sl 2 0 1 m none), (5, .int .i64 i), (6, .sl 3 0 1 5 (some 5)), (8, .sl 4 0 1 25 (some 25)), (9, .int .i64 n)], [.b64 xs, .ints is, .b64 rs, .b64 cs, .b64 (bX xs cs is bs n)])
def pxA_read : Fr → Heap → Option ((List (BitVec 64)) × (List (BitVec 64)) × (List (BitVec 64)) × (List (BitVec 64)) × (List Int) × Int × (Option Nat) × Nat) := fun f h => match f, h with
  | [(0, .sl 0 0 1 25 cp), (3, .sl 1 0 1 25 (some 25)), (4, .sl 2 0 1 m none), (5, .int .i64 i), (6, .sl 3 0 1 5 (some 5)), (8, .sl 4 0 1 25 (some 25)), (9, .int .i64 0)], [.b64 xs, .ints is, .b64 rs, .b64 cs, .b64 bs] => some (bs, cs, xs, rs, is, i, cp, m)
  | _, _ => none
def pxA_ok : (List (BitVec 64)) × (List (BitVec 64)) × (List (BitVec 64)) × (List (BitVec 64)) × (List Int) × Int × (Option Nat) × Nat → Bool := fun ⟨bs, cs, xs, rs, is, i, cp, m⟩ => decide (cs.length = 5) && decide (xs.length = 25) && decide (bs.length = 25) && decide (is = rotI)
def pxA_E : (List (BitVec 64)) × (List (BitVec 64)) × (List (BitVec 64)) × (List (BitVec 64)) × (List Int) × Int × (Option Nat) × Nat → X × Fr × Heap := fun ⟨bs, cs, xs, rs, is, i, cp, m⟩ => (.exit 4, [(0, .sl 0 0 1 25 cp), (3, .sl 1 0 1 25 (some 25)), (4, .sl 2 0 1 m none), (5, .int .i64 i), (8, .sl 3 0 1 25 (some 25))], [.b64 xs, .ints is, .b64 rs, .b64 (bX xs cs is bs (5))])
def pxA_k : Nat := 2
def pxA_s : Sm := whS 13 [0,3,4,5,6,8,9] pxA_read pxA_ok pxA_E
theorem pxA_at : SmAt Pr Go.Proofs.Try.f12 1 pxA_s pxA_k := by
  refine cnt_at pxA_S (fun ⟨bs, cs, xs, rs, is, i, cp, m⟩ => 5) (by kernel_rfl) (by kernel_rfl) ?_ ?_ ?_ ?_
  · intro f g a h
    unfold pxA_read at h
    split at h <;> cases h
    rfl
  · intro a h; cases h
  · rintro ⟨bs, cs, xs, rs, is, i, cp, m⟩ hok n hn
    simp only at hn
    simp only [pxA_ok] at hok
    simp only [Bool.and_eq_true, decide_eq_true_eq] at hok
    obtain ⟨⟨⟨h1, h2⟩, h3⟩, h4⟩ := hok
    have hb := bX_length xs cs is bs n
    refine execN_sound OT_sound mixed (LoopsOk.innerAt (LoopsOk.of [(pyA_s, pyA_k)] (by kernel_rfl) (by intro p hp; simp only [List.mem_cons, List.not_mem_nil, or_false] at hp; rcases hp with rfl; exact pyA_at)) 2) (by kernel_rfl) (by intro v h; cases h) ((pxA_on ((bX xs cs is bs n)) cs xs rs is i cp m (n)).trans ?_)
    refine stX ?_ ?_ ?_
    · (try simp (disch := omega) only [tmod_lit, tdiv_lit, mul_lit, add_lit, lit_mul, lit_add, add_nat, mul_nat, sub_lit, lit_sub, sub_nat, wrapI_nat, wrapI_in, Int.toNat_natCast, Nat.mul_one, Nat.zero_add, toNat_lit, pyA_ok])
      (try simp only [Bool.and_eq_true, Bool.and_true, Bool.true_and, decide_eq_true_eq, Bool.not_eq_true', decide_eq_false_iff_not, if_true, Bool.false_eq_true, if_false, List.length_set, List.length_append, List.length_replicate, List.length_cons, List.length_nil, Blk.len])
      (repeat' apply And.intro) <;> first | rfl | omega | decide
    · first | rfl | (simp (disch := omega) only [tmod_lit, tdiv_lit, mul_lit, add_lit, lit_mul, lit_add, add_nat, mul_nat, sub_lit, lit_sub, sub_nat, wrapI_nat, wrapI_in, Int.toNat_natCast, Nat.mul_one, Nat.zero_add, toNat_lit, pyA_ok] <;> rfl) | (simp (disch := omega) only [tmod_lit, tdiv_lit, mul_lit, add_lit, lit_mul, lit_add, add_nat, mul_nat, sub_lit, lit_sub, sub_nat, wrapI_nat, wrapI_in, Int.toNat_natCast, Nat.mul_one, Nat.zero_add, toNat_lit, pyA_ok]; done)
    · first | rfl | (simp (disch := omega) only [tmod_lit, tdiv_lit, mul_lit, add_lit, lit_mul, lit_add, add_nat, mul_nat, sub_lit, lit_sub, sub_nat, wrapI_nat, wrapI_in, Int.toNat_natCast, Nat.mul_one, Nat.zero_add, toNat_lit, pyA_ok] <;> rfl) | (simp (disch := omega) only [tmod_lit, tdiv_lit, mul_lit, add_lit, lit_mul, lit_add, add_nat, mul_nat, sub_lit, lit_sub, sub_nat, wrapI_nat, wrapI_in, Int.toNat_natCast, Nat.mul_one, Nat.zero_add, toNat_lit, pyA_ok]; done)
  · rintro ⟨bs, cs, xs, rs, is, i, cp, m⟩ hok
    simp only [pxA_ok] at hok
    simp only [Bool.and_eq_true, decide_eq_true_eq] at hok
    obtain ⟨⟨⟨h1, h2⟩, h3⟩, h4⟩ := hok
    have := bX_length xs cs is bs 5
    refine execN_sound OT_sound mixed (LoopsOk.innerAt (LoopsOk.of [(pyA_s, pyA_k)] (by kernel_rfl) (by intro p hp; simp only [List.mem_cons, List.not_mem_nil, or_false] at hp; rcases hp with rfl; exact pyA_at)) 2) (by kernel_rfl) (by intro v h; cases h) ((pxA_off ((bX xs cs is bs 5)) cs xs rs is i cp m (5)).trans ?_)
    refine stX ?_ ?_ ?_
    · (try simp (disch := omega) only [tmod_lit, tdiv_lit, mul_lit, add_lit, lit_mul, lit_add, add_nat, mul_nat, sub_lit, lit_sub, sub_nat, wrapI_nat, wrapI_in, Int.toNat_natCast, Nat.mul_one, Nat.zero_add, toNat_lit, pyA_ok])
      (try simp only [Bool.and_eq_true, Bool.and_true, Bool.true_and, decide_eq_true_eq, Bool.not_eq_true', decide_eq_false_iff_not, if_true, Bool.false_eq_true, if_false, List.length_set, List.length_append, List.length_replicate, List.length_cons, List.length_nil, Blk.len])
      (repeat' apply And.intro) <;> first | rfl | omega | decide
    · first | rfl | (simp (disch := omega) only [tmod_lit, tdiv_lit, mul_lit, add_lit, lit_mul, lit_add, add_nat, mul_nat, sub_lit, lit_sub, sub_nat, wrapI_nat, wrapI_in, Int.toNat_natCast, Nat.mul_one, Nat.zero_add, toNat_lit, pyA_ok] <;> rfl) | (simp (disch := omega) only [tmod_lit, tdiv_lit, mul_lit, add_lit, lit_mul, lit_add, add_nat, mul_nat, sub_lit, lit_sub, sub_nat, wrapI_nat, wrapI_in, Int.toNat_natCast, Nat.mul_one, Nat.zero_add, toNat_lit, pyA_ok]; done)
    · first | rfl | (simp (disch := omega) only [tmod_lit, tdiv_lit, mul_lit, add_lit, lit_mul, lit_add, add_nat, mul_nat, sub_lit, lit_sub, sub_nat, wrapI_nat, wrapI_in, Int.toNat_natCast, Nat.mul_one, Nat.zero_add, toNat_lit, pyA_ok] <;> rfl) | (simp (disch := omega) only [tmod_lit, tdiv_lit, mul_lit, add_lit, lit_mul, lit_add, add_nat, mul_nat, sub_lit, lit_sub, sub_nat, wrapI_nat, wrapI_in, Int.toNat_natCast, Nat.mul_one, Nat.zero_add, toNat_lit, pyA_ok]; done)
theorem qyA_on (os : List (BitVec 64)) (bs : List (BitVec 64)) (xs : List (BitVec 64)) (rs : List (BitVec 64)) (is : List Int) (i : Int) (cp : Option Nat) (m : Nat) (x : Int) (n : Nat) :
  execN Pr noOrc noLoops [((97 : Nat), true)] (100 : Nat) (1 : Nat)
  [(0 : Nat), (3 : Nat), (4 : Nat), (5 : Nat), (8 : Nat), (12 : Nat), (13 : Nat), (14 : Nat)]
  (loopBody Go.Proofs.Try.f12 (5 : Nat))
  [((0 : Nat), V.sl (0 : Nat) (0 : Nat) (1 : Nat) (25 : Nat) cp),
    ((3 : Nat), V.sl (1 : Nat) (0 : Nat) (1 : Nat) (25 : Nat) (some (25 : Nat))),
    ((4 : Nat), V.sl (2 : Nat) (0 : Nat) (1 : Nat) m none), ((5 : Nat), V.int IntKind.i64 i),
    ((8 : Nat), V.sl (3 : Nat) (0 : Nat) (1 : Nat) (25 : Nat) (some (25 : Nat))),
    ((12 : Nat), V.sl (4 : Nat) (0 : Nat) (1 : Nat) (25 : Nat) (some (25 : Nat))), ((13 : Nat), V.int IntKind.i64 x),
    ((14 : Nat), V.int IntKind.i64 (↑n : Int))]
  [Blk.b64 xs, Blk.ints is, Blk.b64 rs, Blk.b64 bs, Blk.b64 os] =
  some
  ((if true = true then decide ((↑n : Int) < (5 : Int)) else !decide ((↑n : Int) < (5 : Int))) && true &&
      (decide ((0 : Int) ≤ wrapI IntKind.i64 (x + wrapI IntKind.i64 ((5 : Int) * (↑n : Int)))) &&
            decide (wrapI IntKind.i64 (x + wrapI IntKind.i64 ((5 : Int) * (↑n : Int))) < (25 : Int)) &&
          (decide
              ((0 : Nat) + (wrapI IntKind.i64 (x + wrapI IntKind.i64 ((5 : Int) * (↑n : Int)))).toNat * (1 : Nat) <
                bs.length) &&
            (decide
                  ((0 : Int) ≤
                    wrapI IntKind.i64
                      ((wrapI IntKind.i64 (x + (1 : Int))).tmod (5 : Int) +
                        wrapI IntKind.i64 ((5 : Int) * (↑n : Int)))) &&
                decide
                  (wrapI IntKind.i64
                      ((wrapI IntKind.i64 (x + (1 : Int))).tmod (5 : Int) +
                        wrapI IntKind.i64 ((5 : Int) * (↑n : Int))) <
                    (25 : Int)) &&
              (decide
                  ((0 : Nat) +
                      (wrapI IntKind.i64
                            ((wrapI IntKind.i64 (x + (1 : Int))).tmod (5 : Int) +
                              wrapI IntKind.i64 ((5 : Int) * (↑n : Int)))).toNat *
                        (1 : Nat) <
                    bs.length) &&
                (decide
                      ((0 : Int) ≤
                        wrapI IntKind.i64
                          ((wrapI IntKind.i64 (x + (2 : Int))).tmod (5 : Int) +
                            wrapI IntKind.i64 ((5 : Int) * (↑n : Int)))) &&
                    decide
                      (wrapI IntKind.i64
                          ((wrapI IntKind.i64 (x + (2 : Int))).tmod (5 : Int) +
                            wrapI IntKind.i64 ((5 : Int) * (↑n : Int))) <
                        (25 : Int)) &&
                  (decide
                      ((0 : Nat) +
                          (wrapI IntKind.i64
                                ((wrapI IntKind.i64 (x + (2 : Int))).tmod (5 : Int) +
                                  wrapI IntKind.i64 ((5 : Int) * (↑n : Int)))).toNat *
                            (1 : Nat) <
                        bs.length) &&
                    (decide ((0 : Int) ≤ wrapI IntKind.i64 (x + wrapI IntKind.i64 ((5 : Int) * (↑n : Int)))) &&
                        decide (wrapI IntKind.i64 (x + wrapI IntKind.i64 ((5 : Int) * (↑n : Int))) < (25 : Int)) &&
                      (decide
                          ((0 : Nat) +
                                (wrapI IntKind.i64 (x + wrapI IntKind.i64 ((5 : Int) * (↑n : Int)))).toNat * (1 : Nat) +
                              [V.u64
                                    (bs.getD
                                        ((0 : Nat) +
                                          (wrapI IntKind.i64 (x + wrapI IntKind.i64 ((5 : Int) * (↑n : Int)))).toNat *
                                            (1 : Nat))
                                        (OfNat.ofNat (0 : Nat)) ^^^
                                      ~~~bs.getD
                                            ((0 : Nat) +
                                              (wrapI IntKind.i64
                                                    ((wrapI IntKind.i64 (x + (1 : Int))).tmod (5 : Int) +
                                                      wrapI IntKind.i64 ((5 : Int) * (↑n : Int)))).toNat *
                                                (1 : Nat))
                                            (OfNat.ofNat (0 : Nat)) &&&
                                        bs.getD
                                          ((0 : Nat) +
                                            (wrapI IntKind.i64
                                                  ((wrapI IntKind.i64 (x + (2 : Int))).tmod (5 : Int) +
                                                    wrapI IntKind.i64 ((5 : Int) * (↑n : Int)))).toNat *
                                              (1 : Nat))
                                          (OfNat.ofNat (0 : Nat)))].length ≤
                            os.length) &&
                        true))))))) &&
        true),
    X.normal,
    [((0 : Nat), V.sl (0 : Nat) (0 : Nat) (1 : Nat) (25 : Nat) cp),
      ((3 : Nat), V.sl (1 : Nat) (0 : Nat) (1 : Nat) (25 : Nat) (some (25 : Nat))),
      ((4 : Nat), V.sl (2 : Nat) (0 : Nat) (1 : Nat) m none), ((5 : Nat), V.int IntKind.i64 i),
      ((8 : Nat), V.sl (3 : Nat) (0 : Nat) (1 : Nat) (25 : Nat) (some (25 : Nat))),
      ((12 : Nat), V.sl (4 : Nat) (0 : Nat) (1 : Nat) (25 : Nat) (some (25 : Nat))), ((13 : Nat), V.int IntKind.i64 x),
      ((14 : Nat), V.int IntKind.i64 (wrapI IntKind.i64 ((↑n : Int) + (1 : Int))))],
    [Blk.b64 xs, Blk.ints is, Blk.b64 rs, Blk.b64 bs,
      Blk.b64
        (os.set ((0 : Nat) + (wrapI IntKind.i64 (x + wrapI IntKind.i64 ((5 : Int) * (↑n : Int)))).toNat * (1 : Nat))
          (bs.getD ((0 : Nat) + (wrapI IntKind.i64 (x + wrapI IntKind.i64 ((5 : Int) * (↑n : Int)))).toNat * (1 : Nat))
              (OfNat.ofNat (0 : Nat)) ^^^
            ~~~bs.getD
                  ((0 : Nat) +
                    (wrapI IntKind.i64
                          ((wrapI IntKind.i64 (x + (1 : Int))).tmod (5 : Int) +
                            wrapI IntKind.i64 ((5 : Int) * (↑n : Int)))).toNat *
                      (1 : Nat))
                  (OfNat.ofNat (0 : Nat)) &&&
              bs.getD
                ((0 : Nat) +
                  (wrapI IntKind.i64
                        ((wrapI IntKind.i64 (x + (2 : Int))).tmod (5 : Int) +
                          wrapI IntKind.i64 ((5 : Int) * (↑n : Int)))).toNat *
                    (1 : Nat))
                (OfNat.ofNat (0 : Nat))))]) := by kernel_rfl
theorem qyA_off (os : List (BitVec 64)) (bs : List (BitVec 64)) (xs : List (BitVec 64)) (rs : List (BitVec 64)) (is : List Int) (i : Int) (cp : Option Nat) (m : Nat) (x : Int) (n : Nat) :
  execN Pr noOrc noLoops [((97 : Nat), false)] (100 : Nat) (1 : Nat)
  [(0 : Nat), (3 : Nat), (4 : Nat), (5 : Nat), (8 : Nat), (12 : Nat), (13 : Nat)] (loopBody Go.Proofs.Try.f12 (5 : Nat))
  [((0 : Nat), V.sl (0 : Nat) (0 : Nat) (1 : Nat) (25 : Nat) cp),
    ((3 : Nat), V.sl (1 : Nat) (0 : Nat) (1 : Nat) (25 : Nat) (some (25 : Nat))),
    ((4 : Nat), V.sl (2 : Nat) (0 : Nat) (1 : Nat) m none), ((5 : Nat), V.int IntKind.i64 i),
    ((8 : Nat), V.sl (3 : Nat) (0 : Nat) (1 : Nat) (25 : Nat) (some (25 : Nat))),
    ((12 : Nat), V.sl (4 : Nat) (0 : Nat) (1 : Nat) (25 : Nat) (some (25 : Nat))), ((13 : Nat), V.int IntKind.i64 x),
    ((14 : Nat), V.int IntKind.i64 (↑n : Int))]
  [Blk.b64 xs, Blk.ints is, Blk.b64 rs, Blk.b64 bs, Blk.b64 os] =
  some
  ((if false = true then decide ((↑n : Int) < (5 : Int)) else !decide ((↑n : Int) < (5 : Int))) && true,
    X.exit (10 : Nat),
    [((0 : Nat), V.sl (0 : Nat) (0 : Nat) (1 : Nat) (25 : Nat) cp),
      ((3 : Nat), V.sl (1 : Nat) (0 : Nat) (1 : Nat) (25 : Nat) (some (25 : Nat))),
      ((4 : Nat), V.sl (2 : Nat) (0 : Nat) (1 : Nat) m none), ((5 : Nat), V.int IntKind.i64 i),
      ((8 : Nat), V.sl (3 : Nat) (0 : Nat) (1 : Nat) (25 : Nat) (some (25 : Nat))),
      ((12 : Nat), V.sl (4 : Nat) (0 : Nat) (1 : Nat) (25 : Nat) (some (25 : Nat))), ((13 : Nat), V.int IntKind.i64 x)],
    [Blk.b64 xs, Blk.ints is, Blk.b64 rs, Blk.b64 bs, Blk.b64 os]) := by kernel_rfl
def qyA_S : (List (BitVec 64)) × (List (BitVec 64)) × (List (BitVec 64)) × (List (BitVec 64)) × (List Int) × Int × (Option Nat) × Nat × Int → Nat → Fr × Heap := fun ⟨os, bs, xs, rs, is, i, cp, m, x⟩ n => ([(0, .sl 0 0 1 25 cp), (3, .sl 1 0 1 25 (some 25)), (4, .sl 2 0 1 m none), (5, .int .i64 i), (8, .sl 3 0 1 25 (some 25)), (12, .sl 4 0 1 25 (some 25)), (13, .int .i64 x), (14, .int .i64 n)], [.b64 xs, .ints is, .b64 rs, .b64 bs, .b64 (oY bs x.toNat os n)])
def qyA_read : Fr → Heap → Option ((List (BitVec 64)) × (List (BitVec 64)) × (List (BitVec 64)) × (List (BitVec 64)) × (List Int) × Int × (Option Nat) × Nat × Int) := fun f h => match f, h with
  | [(0, .sl 0 0 1 25 cp), (3, .sl 1 0 1 25 (some 25)), (4, .sl 2 0 1 m none), (5, .int .i64 i), (8, .sl 3 0 1 25 (some 25)), (12, .sl 4 0 1 25 (some 25)), (13, .int .i64 x), (14, .int .i64 0)], [.b64 xs, .ints is, .b64 rs, .b64 bs, .b64 os] => some (os, bs, xs, rs, is, i, cp, m, x)
  | _, _ => none
def qyA_ok : (List (BitVec 64)) × (List (BitVec 64)) × (List (BitVec 64)) × (List (BitVec 64)) × (List Int) × Int × (Option Nat) × Nat × Int → Bool := fun ⟨os, bs, xs, rs, is, i, cp, m, x⟩ => decide (os.length = 25) && decide (bs.length = 25) && decide (0 ≤ x) && decide (x < 5)
def qyA_E : (List (BitVec 64)) × (List (BitVec 64)) × (List (BitVec 64)) × (List (BitVec 64)) × (List Int) × Int × (Option Nat) × Nat × Int → X × Fr × Heap := fun ⟨os, bs, xs, rs, is, i, cp, m, x⟩ => (.exit 10, [(0, .sl 0 0 1 25 cp), (3, .sl 1 0 1 25 (some 25)), (4, .sl 2 0 1 m none), (5, .int .i64 i), (8, .sl 3 0 1 25 (some 25)), (12, .sl 4 0 1 25 (some 25)), (13, .int .i64 x)], [.b64 xs, .ints is, .b64 rs, .b64 bs, .b64 (oY bs x.toNat os (5))])
def qyA_k : Nat := 5
def qyA_s : Sm := whS 25 [0,3,4,5,8,12,13,14] qyA_read qyA_ok qyA_E
theorem qyA_at : SmAt Pr Go.Proofs.Try.f12 1 qyA_s qyA_k := by
  refine cnt_at qyA_S (fun ⟨os, bs, xs, rs, is, i, cp, m, x⟩ => 5) (by kernel_rfl) (by kernel_rfl) ?_ ?_ ?_ ?_
  · intro f g a h
    unfold qyA_read at h
    split at h <;> cases h
    rfl
  · intro a h; cases h
  · rintro ⟨os, bs, xs, rs, is, i, cp, m, x⟩ hok n hn
    simp only at hn
    simp only [qyA_ok] at hok
    simp only [Bool.and_eq_true, decide_eq_true_eq] at hok
    obtain ⟨⟨⟨h1, h2⟩, h3⟩, h4⟩ := hok
    obtain ⟨u, rfl⟩ : ∃ u : Nat, x = u := ⟨x.toNat, by omega⟩
    have hb := oY_length bs u os n
    refine execN_sound (noOrc_sound _) mixed (LoopsOk.innerAt LoopsOk.none 5) (by kernel_rfl) (by intro v h; cases h) ((qyA_on ((oY bs ((u : Nat) : Int).toNat os n)) bs xs rs is i cp m ((u : Nat) : Int) (n)).trans ?_)
    refine stX ?_ ?_ ?_
    · (try simp (disch := omega) only [tmod_lit, tdiv_lit, mul_lit, add_lit, lit_mul, lit_add, add_nat, mul_nat, sub_lit, lit_sub, sub_nat, wrapI_nat, wrapI_in, Int.toNat_natCast, Nat.mul_one, Nat.zero_add, toNat_lit])
      (try simp only [Bool.and_eq_true, Bool.and_true, Bool.true_and, decide_eq_true_eq, Bool.not_eq_true', decide_eq_false_iff_not, if_true, Bool.false_eq_true, if_false, List.length_set, List.length_append, List.length_replicate, List.length_cons, List.length_nil, Blk.len])
      (repeat' apply And.intro) <;> first | rfl | omega | decide
    · first | rfl | (simp (disch := omega) only [tmod_lit, tdiv_lit, mul_lit, add_lit, lit_mul, lit_add, add_nat, mul_nat, sub_lit, lit_sub, sub_nat, wrapI_nat, wrapI_in, Int.toNat_natCast, Nat.mul_one, Nat.zero_add, toNat_lit] <;> rfl) | (simp (disch := omega) only [tmod_lit, tdiv_lit, mul_lit, add_lit, lit_mul, lit_add, add_nat, mul_nat, sub_lit, lit_sub, sub_nat, wrapI_nat, wrapI_in, Int.toNat_natCast, Nat.mul_one, Nat.zero_add, toNat_lit]; done)
    · first | rfl | (simp (disch := omega) only [tmod_lit, tdiv_lit, mul_lit, add_lit, lit_mul, lit_add, add_nat, mul_nat, sub_lit, lit_sub, sub_nat, wrapI_nat, wrapI_in, Int.toNat_natCast, Nat.mul_one, Nat.zero_add, toNat_lit] <;> rfl) | (simp (disch := omega) only [tmod_lit, tdiv_lit, mul_lit, add_lit, lit_mul, lit_add, add_nat, mul_nat, sub_lit, lit_sub, sub_nat, wrapI_nat, wrapI_in, Int.toNat_natCast, Nat.mul_one, Nat.zero_add, toNat_lit]; done)
  · rintro ⟨os, bs, xs, rs, is, i, cp, m, x⟩ hok
    simp only [qyA_ok] at hok
    simp only [Bool.and_eq_true, decide_eq_true_eq] at hok
    obtain ⟨⟨⟨h1, h2⟩, h3⟩, h4⟩ := hok
    have := oY_length bs x.toNat os 5
    refine execN_sound (noOrc_sound _) mixed (LoopsOk.innerAt LoopsOk.none 5) (by kernel_rfl) (by intro v h; cases h) ((qyA_off ((oY bs x.toNat os 5)) bs xs rs is i cp m x (5)).trans ?_)
    refine stX ?_ ?_ ?_
    · (try simp (disch := omega) only [tmod_lit, tdiv_lit, mul_lit, add_lit, lit_mul, lit_add, add_nat, mul_nat, sub_lit, lit_sub, sub_nat, wrapI_nat, wrapI_in, Int.toNat_natCast, Nat.mul_one, Nat.zero_add, toNat_lit])
      (try simp only [Bool.and_eq_true, Bool.and_true, Bool.true_and, decide_eq_true_eq, Bool.not_eq_true', decide_eq_false_iff_not, if_true, Bool.false_eq_true, if_false, List.length_set, List.length_append, List.length_replicate, List.length_cons, List.length_nil, Blk.len])
      (repeat' apply And.intro) <;> first | rfl | omega | decide
    · first | rfl | (simp (disch := omega) only [tmod_lit, tdiv_lit, mul_lit, add_lit, lit_mul, lit_add, add_nat, mul_nat, sub_lit, lit_sub, sub_nat, wrapI_nat, wrapI_in, Int.toNat_natCast, Nat.mul_one, Nat.zero_add, toNat_lit] <;> rfl) | (simp (disch := omega) only [tmod_lit, tdiv_lit, mul_lit, add_lit, lit_mul, lit_add, add_nat, mul_nat, sub_lit, lit_sub, sub_nat, wrapI_nat, wrapI_in, Int.toNat_natCast, Nat.mul_one, Nat.zero_add, toNat_lit]; done)
    · first | rfl | (simp (disch := omega) only [tmod_lit, tdiv_lit, mul_lit, add_lit, lit_mul, lit_add, add_nat, mul_nat, sub_lit, lit_sub, sub_nat, wrapI_nat, wrapI_in, Int.toNat_natCast, Nat.mul_one, Nat.zero_add, toNat_lit] <;> rfl) | (simp (disch := omega) only [tmod_lit, tdiv_lit, mul_lit, add_lit, lit_mul, lit_add, add_nat, mul_nat, sub_lit, lit_sub, sub_nat, wrapI_nat, wrapI_in, Int.toNat_natCast, Nat.mul_one, Nat.zero_add, toNat_lit]; done)
theorem qxA_on (os : List (BitVec 64)) (bs : List (BitVec 64)) (xs : List (BitVec 64)) (rs : List (BitVec 64)) (is : List Int) (i : Int) (cp : Option Nat) (m : Nat) (n : Nat) :
  execN Pr noOrc (smL (1 : Nat) [qyA_s]) [((93 : Nat), true)] (100 : Nat) (1 : Nat)
  [(0 : Nat), (3 : Nat), (4 : Nat), (5 : Nat), (8 : Nat), (12 : Nat), (13 : Nat)] (loopBody Go.Proofs.Try.f12 (4 : Nat))
  [((0 : Nat), V.sl (0 : Nat) (0 : Nat) (1 : Nat) (25 : Nat) cp),
    ((3 : Nat), V.sl (1 : Nat) (0 : Nat) (1 : Nat) (25 : Nat) (some (25 : Nat))),
    ((4 : Nat), V.sl (2 : Nat) (0 : Nat) (1 : Nat) m none), ((5 : Nat), V.int IntKind.i64 i),
    ((8 : Nat), V.sl (3 : Nat) (0 : Nat) (1 : Nat) (25 : Nat) (some (25 : Nat))),
    ((12 : Nat), V.sl (4 : Nat) (0 : Nat) (1 : Nat) (25 : Nat) (some (25 : Nat))),
    ((13 : Nat), V.int IntKind.i64 (↑n : Int))]
  [Blk.b64 xs, Blk.ints is, Blk.b64 rs, Blk.b64 bs, Blk.b64 os] =
  some
  ((if true = true then decide ((↑n : Int) < (5 : Int)) else !decide ((↑n : Int) < (5 : Int))) && true &&
      (qyA_ok (os, bs, xs, rs, is, i, cp, m, (↑n : Int)) && true),
    X.normal,
    [((0 : Nat), V.sl (0 : Nat) (0 : Nat) (1 : Nat) (25 : Nat) cp),
      ((3 : Nat), V.sl (1 : Nat) (0 : Nat) (1 : Nat) (25 : Nat) (some (25 : Nat))),
      ((4 : Nat), V.sl (2 : Nat) (0 : Nat) (1 : Nat) m none), ((5 : Nat), V.int IntKind.i64 i),
      ((8 : Nat), V.sl (3 : Nat) (0 : Nat) (1 : Nat) (25 : Nat) (some (25 : Nat))),
      ((12 : Nat), V.sl (4 : Nat) (0 : Nat) (1 : Nat) (25 : Nat) (some (25 : Nat))),
      ((13 : Nat), V.int IntKind.i64 (wrapI IntKind.i64 ((↑n : Int) + (1 : Int))))],
    [Blk.b64 xs, Blk.ints is, Blk.b64 rs, Blk.b64 bs, Blk.b64 (oY bs (↑n : Int).toNat os (5 : Nat))]) := by kernel_rfl
theorem qxA_off (os : List (BitVec 64)) (bs : List (BitVec 64)) (xs : List (BitVec 64)) (rs : List (BitVec 64)) (is : List Int) (i : Int) (cp : Option Nat) (m : Nat) (n : Nat) :
  execN Pr noOrc (smL (1 : Nat) [qyA_s]) [((93 : Nat), false)] (100 : Nat) (1 : Nat)
  [(0 : Nat), (3 : Nat), (4 : Nat), (5 : Nat), (12 : Nat)] (loopBody Go.Proofs.Try.f12 (4 : Nat))
  [((0 : Nat), V.sl (0 : Nat) (0 : Nat) (1 : Nat) (25 : Nat) cp),
    ((3 : Nat), V.sl (1 : Nat) (0 : Nat) (1 : Nat) (25 : Nat) (some (25 : Nat))),
    ((4 : Nat), V.sl (2 : Nat) (0 : Nat) (1 : Nat) m none), ((5 : Nat), V.int IntKind.i64 i),
    ((8 : Nat), V.sl (3 : Nat) (0 : Nat) (1 : Nat) (25 : Nat) (some (25 : Nat))),
    ((12 : Nat), V.sl (4 : Nat) (0 : Nat) (1 : Nat) (25 : Nat) (some (25 : Nat))),
    ((13 : Nat), V.int IntKind.i64 (↑n : Int))]
  [Blk.b64 xs, Blk.ints is, Blk.b64 rs, Blk.b64 bs, Blk.b64 os] =
  some
  ((if false = true then decide ((↑n : Int) < (5 : Int)) else !decide ((↑n : Int) < (5 : Int))) && true,
    X.exit (8 : Nat),
    [((0 : Nat), V.sl (0 : Nat) (0 : Nat) (1 : Nat) (25 : Nat) cp),
      ((3 : Nat), V.sl (1 : Nat) (0 : Nat) (1 : Nat) (25 : Nat) (some (25 : Nat))),
      ((4 : Nat), V.sl (2 : Nat) (0 : Nat) (1 : Nat) m none), ((5 : Nat), V.int IntKind.i64 i),
      ((12 : Nat), V.sl (3 : Nat) (0 : Nat) (1 : Nat) (25 : Nat) (some (25 : Nat)))],
    [Blk.b64 xs, Blk.ints is, Blk.b64 rs, Blk.b64 os]) := by kernel_rfl
def qxA_S : (List (BitVec 64)) × (List (BitVec 64)) × (List (BitVec 64)) × (List (BitVec 64)) × (List Int) × Int × (Option Nat) × Nat → Nat → Fr × Heap := fun ⟨os, bs, xs, rs, is, i, cp, m⟩ n => ([(0, .sl 0 0 1 25 cp), (3, .sl 1 0 1 25 (some 25)), (4, .sl 2 0 1 m none), (5, .int .i64 i), (8, .sl 3 0 1 25 (some 25)), (12, .sl 4 0 1 25 (some 25)), (13, .int .i64 n)], [.b64 xs, .ints is, .b64 rs, .b64 bs, .b64 (oX bs os n)])
def qxA_read : Fr → Heap → Option ((List (BitVec 64)) × (List (BitVec 64)) × (List (BitVec 64)) × (List (BitVec 64)) × (List Int) × Int × (Option Nat) × Nat) := fun f h => match f, h with
  | [(0, .sl 0 0 1 25 cp), (3, .sl 1 0 1 25 (some 25)), (4, .sl 2 0 1 m none), (5, .int .i64 i), (8, .sl 3 0 1 25 (some 25)), (12, .sl 4 0 1 25 (some 25)), (13, .int .i64 0)], [.b64 xs, .ints is, .b64 rs, .b64 bs, .b64 os] => some (os, bs, xs, rs, is, i, cp, m)
  | _, _ => none
def qxA_ok : (List (BitVec 64)) × (List (BitVec 64)) × (List (BitVec 64)) × (List (BitVec 64)) × (List Int) × Int × (Option Nat) × Nat → Bool := fun ⟨os, bs, xs, rs, is, i, cp, m⟩ => decide (os.length = 25) && decide (bs.length = 25)
def qxA_E : (List (BitVec 64)) × (List (BitVec 64)) × (List (BitVec 64)) × (List (BitVec 64)) × (List Int) × Int × (Option Nat) × Nat → X × Fr × Heap := fun ⟨os, bs, xs, rs, is, i, cp, m⟩ => (.exit 8, [(0, .sl 0 0 1 25 cp), (3, .sl 1 0 1 25 (some 25)), (4, .sl 2 0 1 m none), (5, .int .i64 i), (12, .sl 3 0 1 25 (some 25))], [.b64 xs, .ints is, .b64 rs, .b64 (oX bs os (5))])
def qxA_k : Nat := 4
def qxA_s : Sm := whS 22 [0,3,4,5,8,12,13] qxA_read qxA_ok qxA_E
theorem qxA_at : SmAt Pr Go.Proofs.Try.f12 1 qxA_s qxA_k := by
  refine cnt_at qxA_S (fun ⟨os, bs, xs, rs, is, i, cp, m⟩ => 5) (by kernel_rfl) (by kernel_rfl) ?_ ?_ ?_ ?_
  · intro f g a h
    unfold qxA_read at h
    split at h <;> cases h
    rfl
  · intro a h; cases h
  · rintro ⟨os, bs, xs, rs, is, i, cp, m⟩ hok n hn
    simp only at hn
    simp only [qxA_ok] at hok
    simp only [Bool.and_eq_true, decide_eq_true_eq] at hok
    obtain ⟨h1, h2⟩ := hok
    have hb := oX_length bs os n
    refine execN_sound (noOrc_sound _) mixed (LoopsOk.innerAt (LoopsOk.of [(qyA_s, qyA_k)] (by kernel_rfl) (by intro p hp; simp only [List.mem_cons, List.not_mem_nil, or_false] at hp; rcases hp with rfl; exact qyA_at)) 4) (by kernel_rfl) (by intro v h; cases h) ((qxA_on ((oX bs os n)) bs xs rs is i cp m (n)).trans ?_)
    refine stX ?_ ?_ ?_
    · (try simp (disch := omega) only [tmod_lit, tdiv_lit, mul_lit, add_lit, lit_mul, lit_add, add_nat, mul_nat, sub_lit, lit_sub, sub_nat, wrapI_nat, wrapI_in, Int.toNat_natCast, Nat.mul_one, Nat.zero_add, toNat_lit, qyA_ok])
      (try simp only [Bool.and_eq_true, Bool.and_true, Bool.true_and, decide_eq_true_eq, Bool.not_eq_true', decide_eq_false_iff_not, if_true, Bool.false_eq_true, if_false, List.length_set, List.length_append, List.length_replicate, List.length_cons, List.length_nil, Blk.len])
      (repeat' apply And.intro) <;> first | rfl | omega | decide
    · first | rfl | (simp (disch := omega) only [tmod_lit, tdiv_lit, mul_lit, add_lit, lit_mul, lit_add, add_nat, mul_nat, sub_lit, lit_sub, sub_nat, wrapI_nat, wrapI_in, Int.toNat_natCast, Nat.mul_one, Nat.zero_add, toNat_lit, qyA_ok] <;> rfl) | (simp (disch := omega) only [tmod_lit, tdiv_lit, mul_lit, add_lit, lit_mul, lit_add, add_nat, mul_nat, sub_lit, lit_sub, sub_nat, wrapI_nat, wrapI_in, Int.toNat_natCast, Nat.mul_one, Nat.zero_add, toNat_lit, qyA_ok]; done)
    · first | rfl | (simp (disch := omega) only [tmod_lit, tdiv_lit, mul_lit, add_lit, lit_mul, lit_add, add_nat, mul_nat, sub_lit, lit_sub, sub_nat, wrapI_nat, wrapI_in, Int.toNat_natCast, Nat.mul_one, Nat.zero_add, toNat_lit, qyA_ok] <;> rfl) | (simp (disch := omega) only [tmod_lit, tdiv_lit, mul_lit, add_lit, lit_mul, lit_add, add_nat, mul_nat, sub_lit, lit_sub, sub_nat, wrapI_nat, wrapI_in, Int.toNat_natCast, Nat.mul_one, Nat.zero_add, toNat_lit, qyA_ok]; done)
  · rintro ⟨os, bs, xs, rs, is, i, cp, m⟩ hok
    simp only [qxA_ok] at hok
    simp only [Bool.and_eq_true, decide_eq_true_eq] at hok
    obtain ⟨h1, h2⟩ := hok
    have := oX_length bs os 5
    refine execN_sound (noOrc_sound _) mixed (LoopsOk.innerAt (LoopsOk.of [(qyA_s, qyA_k)] (by kernel_rfl) (by intro p hp; simp only [List.mem_cons, List.not_mem_nil, or_false] at hp; rcases hp with rfl; exact qyA_at)) 4) (by kernel_rfl) (by intro v h; cases h) ((qxA_off ((oX bs os 5)) bs xs rs is i cp m (5)).trans ?_)
    refine stX ?_ ?_ ?_
    · (try simp (disch := omega) only [tmod_lit, tdiv_lit, mul_lit, add_lit, lit_mul, lit_add, add_nat, mul_nat, sub_lit, lit_sub, sub_nat, wrapI_nat, wrapI_in, Int.toNat_natCast, Nat.mul_one, Nat.zero_add, toNat_lit, qyA_ok])
      (try simp only [Bool.and_eq_true, Bool.and_true, Bool.true_and, decide_eq_true_eq, Bool.not_eq_true', decide_eq_false_iff_not, if_true, Bool.false_eq_true, if_false, List.length_set, List.length_append, List.length_replicate, List.length_cons, List.length_nil, Blk.len])
      (repeat' apply And.intro) <;> first | rfl | omega | decide
    · first | rfl | (simp (disch := omega) only [tmod_lit, tdiv_lit, mul_lit, add_lit, lit_mul, lit_add, add_nat, mul_nat, sub_lit, lit_sub, sub_nat, wrapI_nat, wrapI_in, Int.toNat_natCast, Nat.mul_one, Nat.zero_add, toNat_lit, qyA_ok] <;> rfl) | (simp (disch := omega) only [tmod_lit, tdiv_lit, mul_lit, add_lit, lit_mul, lit_add, add_nat, mul_nat, sub_lit, lit_sub, sub_nat, wrapI_nat, wrapI_in, Int.toNat_natCast, Nat.mul_one, Nat.zero_add, toNat_lit, qyA_ok]; done)
    · first | rfl | (simp (disch := omega) only [tmod_lit, tdiv_lit, mul_lit, add_lit, lit_mul, lit_add, add_nat, mul_nat, sub_lit, lit_sub, sub_nat, wrapI_nat, wrapI_in, Int.toNat_natCast, Nat.mul_one, Nat.zero_add, toNat_lit, qyA_ok] <;> rfl) | (simp (disch := omega) only [tmod_lit, tdiv_lit, mul_lit, add_lit, lit_mul, lit_add, add_nat, mul_nat, sub_lit, lit_sub, sub_nat, wrapI_nat, wrapI_in, Int.toNat_natCast, Nat.mul_one, Nat.zero_add, toNat_lit, qyA_ok]; done)

theorem pcB_on (cs : List (BitVec 64)) (xs : List (BitVec 64)) (rs : List (BitVec 64)) (is : List Int) (i : Int) (cp : Option Nat) (m : Nat) (x0 : List (BitVec 64)) (n : Nat) :
  execN Pr noOrc noLoops [((23 : Nat), true)] (100 : Nat) (1 : Nat)
  [(0 : Nat), (3 : Nat), (4 : Nat), (5 : Nat), (6 : Nat), (7 : Nat)] (loopBody Go.Proofs.Try.f12 (1 : Nat))
  [((0 : Nat), V.sl (1 : Nat) (0 : Nat) (1 : Nat) (25 : Nat) cp),
    ((3 : Nat), V.sl (2 : Nat) (0 : Nat) (1 : Nat) (25 : Nat) (some (25 : Nat))),
    ((4 : Nat), V.sl (3 : Nat) (0 : Nat) (1 : Nat) m none), ((5 : Nat), V.int IntKind.i64 i),
    ((6 : Nat), V.sl (4 : Nat) (0 : Nat) (1 : Nat) (5 : Nat) (some (5 : Nat))),
    ((7 : Nat), V.int IntKind.i64 (↑n : Int))]
  [Blk.b64 x0, Blk.b64 xs, Blk.ints is, Blk.b64 rs, Blk.b64 cs] =
  some
  ((if true = true then decide ((↑n : Int) < (25 : Int)) else !decide ((↑n : Int) < (25 : Int))) && true &&
      (decide ((0 : Int) ≤ (↑n : Int).tmod (5 : Int)) && decide ((↑n : Int).tmod (5 : Int) < (5 : Int)) &&
          (decide ((0 : Nat) + ((↑n : Int).tmod (5 : Int)).toNat * (1 : Nat) < cs.length) &&
            (decide ((0 : Int) ≤ (↑n : Int)) && decide ((↑n : Int) < (25 : Int)) &&
              (decide ((0 : Nat) + (↑n : Int).toNat * (1 : Nat) < xs.length) &&
                (decide ((0 : Int) ≤ (↑n : Int).tmod (5 : Int)) && decide ((↑n : Int).tmod (5 : Int) < (5 : Int)) &&
                  (decide
                      ((0 : Nat) + ((↑n : Int).tmod (5 : Int)).toNat * (1 : Nat) +
                          [V.u64
                                (cs.getD ((0 : Nat) + ((↑n : Int).tmod (5 : Int)).toNat * (1 : Nat))
                                    (OfNat.ofNat (0 : Nat)) ^^^
                                  xs.getD ((0 : Nat) + (↑n : Int).toNat * (1 : Nat)) (OfNat.ofNat (0 : Nat)))].length ≤
                        cs.length) &&
                    true))))) &&
        true),
    X.normal,
    [((0 : Nat), V.sl (1 : Nat) (0 : Nat) (1 : Nat) (25 : Nat) cp),
      ((3 : Nat), V.sl (2 : Nat) (0 : Nat) (1 : Nat) (25 : Nat) (some (25 : Nat))),
      ((4 : Nat), V.sl (3 : Nat) (0 : Nat) (1 : Nat) m none), ((5 : Nat), V.int IntKind.i64 i),
      ((6 : Nat), V.sl (4 : Nat) (0 : Nat) (1 : Nat) (5 : Nat) (some (5 : Nat))),
      ((7 : Nat), V.int IntKind.i64 (wrapI IntKind.i64 ((↑n : Int) + (1 : Int))))],
    [Blk.b64 x0, Blk.b64 xs, Blk.ints is, Blk.b64 rs,
      Blk.b64
        (cs.set ((0 : Nat) + ((↑n : Int).tmod (5 : Int)).toNat * (1 : Nat))
          (cs.getD ((0 : Nat) + ((↑n : Int).tmod (5 : Int)).toNat * (1 : Nat)) (OfNat.ofNat (0 : Nat)) ^^^
            xs.getD ((0 : Nat) + (↑n : Int).toNat * (1 : Nat)) (OfNat.ofNat (0 : Nat))))]) := by kernel_rfl
theorem pcB_off (cs : List (BitVec 64)) (xs : List (BitVec 64)) (rs : List (BitVec 64)) (is : List Int) (i : Int) (cp : Option Nat) (m : Nat) (x0 : List (BitVec 64)) (n : Nat) :
  execN Pr noOrc noLoops [((23 : Nat), false)] (100 : Nat) (1 : Nat)
  [(0 : Nat), (3 : Nat), (4 : Nat), (5 : Nat), (6 : Nat)] (loopBody Go.Proofs.Try.f12 (1 : Nat))
  [((0 : Nat), V.sl (1 : Nat) (0 : Nat) (1 : Nat) (25 : Nat) cp),
    ((3 : Nat), V.sl (2 : Nat) (0 : Nat) (1 : Nat) (25 : Nat) (some (25 : Nat))),
    ((4 : Nat), V.sl (3 : Nat) (0 : Nat) (1 : Nat) m none), ((5 : Nat), V.int IntKind.i64 i),
    ((6 : Nat), V.sl (4 : Nat) (0 : Nat) (1 : Nat) (5 : Nat) (some (5 : Nat))),
    ((7 : Nat), V.int IntKind.i64 (↑n : Int))]
  [Blk.b64 x0, Blk.b64 xs, Blk.ints is, Blk.b64 rs, Blk.b64 cs] =
  some
  ((if false = true then decide ((↑n : Int) < (25 : Int)) else !decide ((↑n : Int) < (25 : Int))) && true,
    X.exit (2 : Nat),
    [((0 : Nat), V.sl (1 : Nat) (0 : Nat) (1 : Nat) (25 : Nat) cp),
      ((3 : Nat), V.sl (2 : Nat) (0 : Nat) (1 : Nat) (25 : Nat) (some (25 : Nat))),
      ((4 : Nat), V.sl (3 : Nat) (0 : Nat) (1 : Nat) m none), ((5 : Nat), V.int IntKind.i64 i),
      ((6 : Nat), V.sl (4 : Nat) (0 : Nat) (1 : Nat) (5 : Nat) (some (5 : Nat)))],
    [Blk.b64 x0, Blk.b64 xs, Blk.ints is, Blk.b64 rs, Blk.b64 cs]) := by kernel_rfl
def pcB_S : (List (BitVec 64)) × (List (BitVec 64)) × (List (BitVec 64)) × (List Int) × Int × (Option Nat) × Nat × (List (BitVec 64)) → Nat → Fr × Heap := fun ⟨cs, xs, rs, is, i, cp, m, x0⟩ n => ([(0, .sl 1 0 1 25 cp), (3, .sl 2 0 1 25 (some 25)), (4, .sl 3 0 1 m none), (5, .int .i64 i), (6, .sl 4 0 1 5 (some 5)), (7, .int .i64 n)], [.b64 x0, .b64 xs, .ints is, .b64 rs, .b64 (cN xs cs n)])
def pcB_read : Fr → Heap → Option ((List (BitVec 64)) × (List (BitVec 64)) × (List (BitVec 64)) × (List Int) × Int × (Option Nat) × Nat × (List (BitVec 64))) := fun f h => match f, h with
  | [(0, .sl 1 0 1 25 cp), (3, .sl 2 0 1 25 (some 25)), (4, .sl 3 0 1 m none), (5, .int .i64 i), (6, .sl 4 0 1 5 (some 5)), (7, .int .i64 0)], [.b64 x0, .b64 xs, .ints is, .b64 rs, .b64 cs] => some (cs, xs, rs, is, i, cp, m, x0)
  | _, _ => none
def pcB_ok : (List (BitVec 64)) × (List (BitVec 64)) × (List (BitVec 64)) × (List Int) × Int × (Option Nat) × Nat × (List (BitVec 64)) → Bool := fun ⟨cs, xs, rs, is, i, cp, m, x0⟩ => decide (cs.length = 5) && decide (xs.length = 25)
def pcB_E : (List (BitVec 64)) × (List (BitVec 64)) × (List (BitVec 64)) × (List Int) × Int × (Option Nat) × Nat × (List (BitVec 64)) → X × Fr × Heap := fun ⟨cs, xs, rs, is, i, cp, m, x0⟩ => (.exit 2, [(0, .sl 1 0 1 25 cp), (3, .sl 2 0 1 25 (some 25)), (4, .sl 3 0 1 m none), (5, .int .i64 i), (6, .sl 4 0 1 5 (some 5))], [.b64 x0, .b64 xs, .ints is, .b64 rs, .b64 (cN xs cs (25))])
def pcB_k : Nat := 1
def pcB_s : Sm := whS 8 [0,3,4,5,6,7] pcB_read pcB_ok pcB_E
theorem pcB_at : SmAt Pr Go.Proofs.Try.f12 1 pcB_s pcB_k := by
  refine cnt_at pcB_S (fun ⟨cs, xs, rs, is, i, cp, m, x0⟩ => 25) (by kernel_rfl) (by kernel_rfl) ?_ ?_ ?_ ?_
  · intro f g a h
    unfold pcB_read at h
    split at h <;> cases h
    rfl
  · intro a h; cases h
  · rintro ⟨cs, xs, rs, is, i, cp, m, x0⟩ hok n hn
    simp only at hn
    simp only [pcB_ok] at hok
    simp only [Bool.and_eq_true, decide_eq_true_eq] at hok
    obtain ⟨h1, h2⟩ := hok
    have := cN_length xs cs n
    refine execN_sound (noOrc_sound _) mixed (LoopsOk.innerAt LoopsOk.none 1) (by kernel_rfl) (by intro v h; cases h) ((pcB_on ((cN xs cs n)) xs rs is i cp m x0 (n)).trans ?_)
    refine stX ?_ ?_ ?_
    · (try simp (disch := omega) only [tmod_lit, tdiv_lit, mul_lit, add_lit, lit_mul, lit_add, add_nat, mul_nat, sub_lit, lit_sub, sub_nat, wrapI_nat, wrapI_in, Int.toNat_natCast, Nat.mul_one, Nat.zero_add, toNat_lit])
      (try simp only [Bool.and_eq_true, Bool.and_true, Bool.true_and, decide_eq_true_eq, Bool.not_eq_true', decide_eq_false_iff_not, if_true, Bool.false_eq_true, if_false, List.length_set, List.length_append, List.length_replicate, List.length_cons, List.length_nil, Blk.len])
      (repeat' apply And.intro) <;> first | rfl | omega | decide
    · first | rfl | (simp (disch := omega) only [tmod_lit, tdiv_lit, mul_lit, add_lit, lit_mul, lit_add, add_nat, mul_nat, sub_lit, lit_sub, sub_nat, wrapI_nat, wrapI_in, Int.toNat_natCast, Nat.mul_one, Nat.zero_add, toNat_lit] <;> rfl) | (simp (disch := omega) only [tmod_lit, tdiv_lit, mul_lit, add_lit, lit_mul, lit_add, add_nat, mul_nat, sub_lit, lit_sub, sub_nat, wrapI_nat, wrapI_in, Int.toNat_natCast, Nat.mul_one, Nat.zero_add, toNat_lit]; done)
    · first | rfl | (simp (disch := omega) only [tmod_lit, tdiv_lit, mul_lit, add_lit, lit_mul, lit_add, add_nat, mul_nat, sub_lit, lit_sub, sub_nat, wrapI_nat, wrapI_in, Int.toNat_natCast, Nat.mul_one, Nat.zero_add, toNat_lit] <;> rfl) | (simp (disch := omega) only [tmod_lit, tdiv_lit, mul_lit, add_lit, lit_mul, lit_add, add_nat, mul_nat, sub_lit, lit_sub, sub_nat, wrapI_nat, wrapI_in, Int.toNat_natCast, Nat.mul_one, Nat.zero_add, toNat_lit]; done)
  · rintro ⟨cs, xs, rs, is, i, cp, m, x0⟩ hok
    simp only [pcB_ok] at hok
    simp only [Bool.and_eq_true, decide_eq_true_eq] at hok
    obtain ⟨h1, h2⟩ := hok
    have := cN_length xs cs 25
    refine execN_sound (noOrc_sound _) mixed (LoopsOk.innerAt LoopsOk.none 1) (by kernel_rfl) (by intro v h; cases h) ((pcB_off ((cN xs cs 25)) xs rs is i cp m x0 (25)).trans ?_)
    refine stX ?_ ?_ ?_
    · (try simp (disch := omega) only [tmod_lit, tdiv_lit, mul_lit, add_lit, lit_mul, lit_add, add_nat, mul_nat, sub_lit, lit_sub, sub_nat, wrapI_nat, wrapI_in, Int.toNat_natCast, Nat.mul_one, Nat.zero_add, toNat_lit])
      (try simp only [Bool.and_eq_true, Bool.and_true, Bool.true_and, decide_eq_true_eq, Bool.not_eq_true', decide_eq_false_iff_not, if_true, Bool.false_eq_true, if_false, List.length_set, List.length_append, List.length_replicate, List.length_cons, List.length_nil, Blk.len])
      (repeat' apply And.intro) <;> first | rfl | omega | decide
    · first | rfl | (simp (disch := omega) only [tmod_lit, tdiv_lit, mul_lit, add_lit, lit_mul, lit_add, add_nat, mul_nat, sub_lit, lit_sub, sub_nat, wrapI_nat, wrapI_in, Int.toNat_natCast, Nat.mul_one, Nat.zero_add, toNat_lit] <;> rfl) | (simp (disch := omega) only [tmod_lit, tdiv_lit, mul_lit, add_lit, lit_mul, lit_add, add_nat, mul_nat, sub_lit, lit_sub, sub_nat, wrapI_nat, wrapI_in, Int.toNat_natCast, Nat.mul_one, Nat.zero_add, toNat_lit]; done)
    · first | rfl | (simp (disch := omega) only [tmod_lit, tdiv_lit, mul_lit, add_lit, lit_mul, lit_add, add_nat, mul_nat, sub_lit, lit_sub, sub_nat, wrapI_nat, wrapI_in, Int.toNat_natCast, Nat.mul_one, Nat.zero_add, toNat_lit] <;> rfl) | (simp (disch := omega) only [tmod_lit, tdiv_lit, mul_lit, add_lit, lit_mul, lit_add, add_nat, mul_nat, sub_lit, lit_sub, sub_nat, wrapI_nat, wrapI_in, Int.toNat_natCast, Nat.mul_one, Nat.zero_add, toNat_lit]; done)
theorem pyB_on (bs : List (BitVec 64)) (cs : List (BitVec 64)) (xs : List (BitVec 64)) (rs : List (BitVec 64)) (is : List Int) (i : Int) (cp : Option Nat) (m : Nat) (x0 : List (BitVec 64)) (x : Int) (n : Nat) :
  execN Pr OT noLoops [((46 : Nat), true)] (100 : Nat) (1 : Nat)
  [(0 : Nat), (3 : Nat), (4 : Nat), (5 : Nat), (6 : Nat), (8 : Nat), (9 : Nat), (10 : Nat)]
  (loopBody Go.Proofs.Try.f12 (3 : Nat))
  [((0 : Nat), V.sl (1 : Nat) (0 : Nat) (1 : Nat) (25 : Nat) cp),
    ((3 : Nat), V.sl (2 : Nat) (0 : Nat) (1 : Nat) (25 : Nat) (some (25 : Nat))),
    ((4 : Nat), V.sl (3 : Nat) (0 : Nat) (1 : Nat) m none), ((5 : Nat), V.int IntKind.i64 i),
    ((6 : Nat), V.sl (4 : Nat) (0 : Nat) (1 : Nat) (5 : Nat) (some (5 : Nat))),
    ((8 : Nat), V.sl (5 : Nat) (0 : Nat) (1 : Nat) (25 : Nat) (some (25 : Nat))), ((9 : Nat), V.int IntKind.i64 x),
    ((10 : Nat), V.int IntKind.i64 (↑n : Int))]
  [Blk.b64 x0, Blk.b64 xs, Blk.ints is, Blk.b64 rs, Blk.b64 cs, Blk.b64 bs] =
  some
  ((if true = true then decide ((↑n : Int) < (5 : Int)) else !decide ((↑n : Int) < (5 : Int))) && true &&
      (decide ((0 : Int) ≤ wrapI IntKind.i64 (x + wrapI IntKind.i64 ((5 : Int) * (↑n : Int)))) &&
              decide (wrapI IntKind.i64 (x + wrapI IntKind.i64 ((5 : Int) * (↑n : Int))) < (25 : Int)) &&
            (decide
                ((0 : Nat) + (wrapI IntKind.i64 (x + wrapI IntKind.i64 ((5 : Int) * (↑n : Int)))).toNat * (1 : Nat) <
                  xs.length) &&
              (decide ((0 : Int) ≤ (wrapI IntKind.i64 (x + (4 : Int))).tmod (5 : Int)) &&
                  decide ((wrapI IntKind.i64 (x + (4 : Int))).tmod (5 : Int) < (5 : Int)) &&
                (decide
                    ((0 : Nat) + ((wrapI IntKind.i64 (x + (4 : Int))).tmod (5 : Int)).toNat * (1 : Nat) < cs.length) &&
                  (decide ((0 : Int) ≤ (wrapI IntKind.i64 (x + (1 : Int))).tmod (5 : Int)) &&
                      decide ((wrapI IntKind.i64 (x + (1 : Int))).tmod (5 : Int) < (5 : Int)) &&
                    (decide
                        ((0 : Nat) + ((wrapI IntKind.i64 (x + (1 : Int))).tmod (5 : Int)).toNat * (1 : Nat) <
                          cs.length) &&
                      ((fun x ↦
                            match x with
                            | (a, i) => decide ((0 : Int) ≤ i) && decide (i < (64 : Int)))
                          (cs.getD ((0 : Nat) + ((wrapI IntKind.i64 (x + (1 : Int))).tmod (5 : Int)).toNat * (1 : Nat))
                              (OfNat.ofNat (0 : Nat)),
                            (1 : Int)) &&
                        true)))))) &&
          (decide ((0 : Int) ≤ wrapI IntKind.i64 (x + wrapI IntKind.i64 ((5 : Int) * (↑n : Int)))) &&
              decide (wrapI IntKind.i64 (x + wrapI IntKind.i64 ((5 : Int) * (↑n : Int))) < (25 : Int)) &&
            (decide
                ((0 : Nat) + (wrapI IntKind.i64 (x + wrapI IntKind.i64 ((5 : Int) * (↑n : Int)))).toNat * (1 : Nat) <
                  is.length) &&
              ((fun x ↦
                    match x with
                    | (a, i) => decide ((0 : Int) ≤ i) && decide (i < (64 : Int)))
                  (xs.getD
                          ((0 : Nat) +
                            (wrapI IntKind.i64 (x + wrapI IntKind.i64 ((5 : Int) * (↑n : Int)))).toNat * (1 : Nat))
                          (OfNat.ofNat (0 : Nat)) ^^^
                        cs.getD ((0 : Nat) + ((wrapI IntKind.i64 (x + (4 : Int))).tmod (5 : Int)).toNat * (1 : Nat))
                          (OfNat.ofNat (0 : Nat)) ^^^
                      turn
                        (cs.getD ((0 : Nat) + ((wrapI IntKind.i64 (x + (1 : Int))).tmod (5 : Int)).toNat * (1 : Nat))
                          (OfNat.ofNat (0 : Nat)))
                        (1 : Nat),
                    is.getD
                      ((0 : Nat) +
                        (wrapI IntKind.i64 (x + wrapI IntKind.i64 ((5 : Int) * (↑n : Int)))).toNat * (1 : Nat))
                      (0 : Int)) &&
                (decide
                      ((0 : Int) ≤
                        wrapI IntKind.i64
                          ((↑n : Int) +
                            wrapI IntKind.i64
                              ((5 : Int) *
                                (wrapI IntKind.i64
                                      (wrapI IntKind.i64 ((2 : Int) * x) +
                                        wrapI IntKind.i64 ((3 : Int) * (↑n : Int)))).tmod
                                  (5 : Int)))) &&
                    decide
                      (wrapI IntKind.i64
                          ((↑n : Int) +
                            wrapI IntKind.i64
                              ((5 : Int) *
                                (wrapI IntKind.i64
                                      (wrapI IntKind.i64 ((2 : Int) * x) +
                                        wrapI IntKind.i64 ((3 : Int) * (↑n : Int)))).tmod
                                  (5 : Int))) <
                        (25 : Int)) &&
                  (decide
                      ((0 : Nat) +
                            (wrapI IntKind.i64
                                  ((↑n : Int) +
                                    wrapI IntKind.i64
                                      ((5 : Int) *
                                        (wrapI IntKind.i64
                                              (wrapI IntKind.i64 ((2 : Int) * x) +
                                                wrapI IntKind.i64 ((3 : Int) * (↑n : Int)))).tmod
                                          (5 : Int)))).toNat *
                              (1 : Nat) +
                          [V.u64
                                (turn
                                  (xs.getD
                                        ((0 : Nat) +
                                          (wrapI IntKind.i64 (x + wrapI IntKind.i64 ((5 : Int) * (↑n : Int)))).toNat *
                                            (1 : Nat))
                                        (OfNat.ofNat (0 : Nat)) ^^^
                                      cs.getD
                                        ((0 : Nat) +
                                          ((wrapI IntKind.i64 (x + (4 : Int))).tmod (5 : Int)).toNat * (1 : Nat))
                                        (OfNat.ofNat (0 : Nat)) ^^^
                                    turn
                                      (cs.getD
                                        ((0 : Nat) +
                                          ((wrapI IntKind.i64 (x + (1 : Int))).tmod (5 : Int)).toNat * (1 : Nat))
                                        (OfNat.ofNat (0 : Nat)))
                                      (1 : Nat))
                                  (is.getD
                                      ((0 : Nat) +
                                        (wrapI IntKind.i64 (x + wrapI IntKind.i64 ((5 : Int) * (↑n : Int)))).toNat *
                                          (1 : Nat))
                                      (0 : Int)).toNat)].length ≤
                        bs.length) &&
                    true))))) &&
        true),
    X.normal,
    [((0 : Nat), V.sl (1 : Nat) (0 : Nat) (1 : Nat) (25 : Nat) cp),
      ((3 : Nat), V.sl (2 : Nat) (0 : Nat) (1 : Nat) (25 : Nat) (some (25 : Nat))),
      ((4 : Nat), V.sl (3 : Nat) (0 : Nat) (1 : Nat) m none), ((5 : Nat), V.int IntKind.i64 i),
      ((6 : Nat), V.sl (4 : Nat) (0 : Nat) (1 : Nat) (5 : Nat) (some (5 : Nat))),
      ((8 : Nat), V.sl (5 : Nat) (0 : Nat) (1 : Nat) (25 : Nat) (some (25 : Nat))), ((9 : Nat), V.int IntKind.i64 x),
      ((10 : Nat), V.int IntKind.i64 (wrapI IntKind.i64 ((↑n : Int) + (1 : Int))))],
    [Blk.b64 x0, Blk.b64 xs, Blk.ints is, Blk.b64 rs, Blk.b64 cs,
      Blk.b64
        (bs.set
          ((0 : Nat) +
            (wrapI IntKind.i64
                  ((↑n : Int) +
                    wrapI IntKind.i64
                      ((5 : Int) *
                        (wrapI IntKind.i64
                              (wrapI IntKind.i64 ((2 : Int) * x) + wrapI IntKind.i64 ((3 : Int) * (↑n : Int)))).tmod
                          (5 : Int)))).toNat *
              (1 : Nat))
          (turn
            (xs.getD
                  ((0 : Nat) + (wrapI IntKind.i64 (x + wrapI IntKind.i64 ((5 : Int) * (↑n : Int)))).toNat * (1 : Nat))
                  (OfNat.ofNat (0 : Nat)) ^^^
                cs.getD ((0 : Nat) + ((wrapI IntKind.i64 (x + (4 : Int))).tmod (5 : Int)).toNat * (1 : Nat))
                  (OfNat.ofNat (0 : Nat)) ^^^
              turn
                (cs.getD ((0 : Nat) + ((wrapI IntKind.i64 (x + (1 : Int))).tmod (5 : Int)).toNat * (1 : Nat))
                  (OfNat.ofNat (0 : Nat)))
                (1 : Nat))
            (is.getD
                ((0 : Nat) + (wrapI IntKind.i64 (x + wrapI IntKind.i64 ((5 : Int) * (↑n : Int)))).toNat * (1 : Nat))
                (0 : Int)).toNat))]) := by kernel_rfl
theorem pyB_off (bs : List (BitVec 64)) (cs : List (BitVec 64)) (xs : List (BitVec 64)) (rs : List (BitVec 64)) (is : List Int) (i : Int) (cp : Option Nat) (m : Nat) (x0 : List (BitVec 64)) (x : Int) (n : Nat) :
  execN Pr OT noLoops [((46 : Nat), false)] (100 : Nat) (1 : Nat)
  [(0 : Nat), (3 : Nat), (4 : Nat), (5 : Nat), (6 : Nat), (8 : Nat), (9 : Nat)] (loopBody Go.Proofs.Try.f12 (3 : Nat))
  [((0 : Nat), V.sl (1 : Nat) (0 : Nat) (1 : Nat) (25 : Nat) cp),
    ((3 : Nat), V.sl (2 : Nat) (0 : Nat) (1 : Nat) (25 : Nat) (some (25 : Nat))),
    ((4 : Nat), V.sl (3 : Nat) (0 : Nat) (1 : Nat) m none), ((5 : Nat), V.int IntKind.i64 i),
    ((6 : Nat), V.sl (4 : Nat) (0 : Nat) (1 : Nat) (5 : Nat) (some (5 : Nat))),
    ((8 : Nat), V.sl (5 : Nat) (0 : Nat) (1 : Nat) (25 : Nat) (some (25 : Nat))), ((9 : Nat), V.int IntKind.i64 x),
    ((10 : Nat), V.int IntKind.i64 (↑n : Int))]
  [Blk.b64 x0, Blk.b64 xs, Blk.ints is, Blk.b64 rs, Blk.b64 cs, Blk.b64 bs] =
  some
  ((if false = true then decide ((↑n : Int) < (5 : Int)) else !decide ((↑n : Int) < (5 : Int))) && true,
    X.exit (6 : Nat),
    [((0 : Nat), V.sl (1 : Nat) (0 : Nat) (1 : Nat) (25 : Nat) cp),
      ((3 : Nat), V.sl (2 : Nat) (0 : Nat) (1 : Nat) (25 : Nat) (some (25 : Nat))),
      ((4 : Nat), V.sl (3 : Nat) (0 : Nat) (1 : Nat) m none), ((5 : Nat), V.int IntKind.i64 i),
      ((6 : Nat), V.sl (4 : Nat) (0 : Nat) (1 : Nat) (5 : Nat) (some (5 : Nat))),
      ((8 : Nat), V.sl (5 : Nat) (0 : Nat) (1 : Nat) (25 : Nat) (some (25 : Nat))), ((9 : Nat), V.int IntKind.i64 x)],
    [Blk.b64 x0, Blk.b64 xs, Blk.ints is, Blk.b64 rs, Blk.b64 cs, Blk.b64 bs]) := by kernel_rfl
def pyB_S : (List (BitVec 64)) × (List (BitVec 64)) × (List (BitVec 64)) × (List (BitVec 64)) × (List Int) × Int × (Option Nat) × Nat × (List (BitVec 64)) × Int → Nat → Fr × Heap := fun ⟨bs, cs, xs, rs, is, i, cp, m, x0, x⟩ n => ([(0, .sl 1 0 1 25 cp), (3, .sl 2 0 1 25 (some 25)), (4, .sl 3 0 1 m none), (5, .int .i64 i), (6, .sl 4 0 1 5 (some 5)), (8, .sl 5 0 1 25 (some 25)), (9, .int .i64 x), (10, .int .i64 n)], [.b64 x0, .b64 xs, .ints is, .b64 rs, .b64 cs, .b64 (bY xs cs is x.toNat bs n)])
def pyB_read : Fr → Heap → Option ((List (BitVec 64)) × (List (BitVec 64)) × (List (BitVec 64)) × (List (BitVec 64)) × (List Int) × Int × (Option Nat) × Nat × (List (BitVec 64)) × Int) := fun f h => match f, h with
  | [(0, .sl 1 0 1 25 cp), (3, .sl 2 0 1 25 (some 25)), (4, .sl 3 0 1 m none), (5, .int .i64 i), (6, .sl 4 0 1 5 (some 5)), (8, .sl 5 0 1 25 (some 25)), (9, .int .i64 x), (10, .int .i64 0)], [.b64 x0, .b64 xs, .ints is, .b64 rs, .b64 cs, .b64 bs] => some (bs, cs, xs, rs, is, i, cp, m, x0, x)
  | _, _ => none
def pyB_ok : (List (BitVec 64)) × (List (BitVec 64)) × (List (BitVec 64)) × (List (BitVec 64)) × (List Int) × Int × (Option Nat) × Nat × (List (BitVec 64)) × Int → Bool := fun ⟨bs, cs, xs, rs, is, i, cp, m, x0, x⟩ => decide (cs.length = 5) && decide (xs.length = 25) && decide (bs.length = 25) && decide (is = rotI) && decide (0 ≤ x) && decide (x < 5)
def pyB_E : (List (BitVec 64)) × (List (BitVec 64)) × (List (BitVec 64)) × (List (BitVec 64)) × (List Int) × Int × (Option Nat) × Nat × (List (BitVec 64)) × Int → X × Fr × Heap := fun ⟨bs, cs, xs, rs, is, i, cp, m, x0, x⟩ => (.exit 6, [(0, .sl 1 0 1 25 cp), (3, .sl 2 0 1 25 (some 25)), (4, .sl 3 0 1 m none), (5, .int .i64 i), (6, .sl 4 0 1 5 (some 5)), (8, .sl 5 0 1 25 (some 25)), (9, .int .i64 x)], [.b64 x0, .b64 xs, .ints is, .b64 rs, .b64 cs, .b64 (bY xs cs is x.toNat bs (5))])
def pyB_k : Nat := 3
def pyB_s : Sm := whS 16 [0,3,4,5,6,8,9,10] pyB_read pyB_ok pyB_E
theorem pyB_at : SmAt Pr Go.Proofs.Try.f12 1 pyB_s pyB_k := by
  refine cnt_at pyB_S (fun ⟨bs, cs, xs, rs, is, i, cp, m, x0, x⟩ => 5) (by kernel_rfl) (by kernel_rfl) ?_ ?_ ?_ ?_
  · intro f g a h
    unfold pyB_read at h
    split at h <;> cases h
    rfl
  · intro a h; cases h
  · rintro ⟨bs, cs, xs, rs, is, i, cp, m, x0, x⟩ hok n hn
    simp only at hn
    simp only [pyB_ok] at hok
    simp only [Bool.and_eq_true, decide_eq_true_eq] at hok
    obtain ⟨⟨⟨⟨⟨h1, h2⟩, h3⟩, h4⟩, h5⟩, h6⟩ := hok
    subst h4
    obtain ⟨u, rfl⟩ : ∃ u : Nat, x = u := ⟨x.toNat, by omega⟩
    have hb := bY_length xs cs rotI u bs n
    have hr := rotI_in (u + 5 * n) (by omega)
    have hl := rotI_length
    refine execN_sound OT_sound mixed (LoopsOk.innerAt LoopsOk.none 3) (by kernel_rfl) (by intro v h; cases h) ((pyB_on ((bY xs cs rotI ((u : Nat) : Int).toNat bs n)) cs xs rs rotI i cp m x0 ((u : Nat) : Int) (n)).trans ?_)
    refine stX ?_ ?_ ?_
    · (try simp (disch := omega) only [tmod_lit, tdiv_lit, mul_lit, add_lit, lit_mul, lit_add, add_nat, mul_nat, sub_lit, lit_sub, sub_nat, wrapI_nat, wrapI_in, Int.toNat_natCast, Nat.mul_one, Nat.zero_add, toNat_lit])
      (try simp only [Bool.and_eq_true, Bool.and_true, Bool.true_and, decide_eq_true_eq, Bool.not_eq_true', decide_eq_false_iff_not, if_true, Bool.false_eq_true, if_false, List.length_set, List.length_append, List.length_replicate, List.length_cons, List.length_nil, Blk.len])
      (repeat' apply And.intro) <;> first | rfl | omega | decide
    · first | rfl | (simp (disch := omega) only [tmod_lit, tdiv_lit, mul_lit, add_lit, lit_mul, lit_add, add_nat, mul_nat, sub_lit, lit_sub, sub_nat, wrapI_nat, wrapI_in, Int.toNat_natCast, Nat.mul_one, Nat.zero_add, toNat_lit] <;> rfl) | (simp (disch := omega) only [tmod_lit, tdiv_lit, mul_lit, add_lit, lit_mul, lit_add, add_nat, mul_nat, sub_lit, lit_sub, sub_nat, wrapI_nat, wrapI_in, Int.toNat_natCast, Nat.mul_one, Nat.zero_add, toNat_lit]; done)
    · first | rfl | (simp (disch := omega) only [tmod_lit, tdiv_lit, mul_lit, add_lit, lit_mul, lit_add, add_nat, mul_nat, sub_lit, lit_sub, sub_nat, wrapI_nat, wrapI_in, Int.toNat_natCast, Nat.mul_one, Nat.zero_add, toNat_lit] <;> rfl) | (simp (disch := omega) only [tmod_lit, tdiv_lit, mul_lit, add_lit, lit_mul, lit_add, add_nat, mul_nat, sub_lit, lit_sub, sub_nat, wrapI_nat, wrapI_in, Int.toNat_natCast, Nat.mul_one, Nat.zero_add, toNat_lit]; done)
  · rintro ⟨bs, cs, xs, rs, is, i, cp, m, x0, x⟩ hok
    simp only [pyB_ok] at hok
    simp only [Bool.and_eq_true, decide_eq_true_eq] at hok
    obtain ⟨⟨⟨⟨⟨h1, h2⟩, h3⟩, h4⟩, h5⟩, h6⟩ := hok
    have := bY_length xs cs is x.toNat bs 5
    refine execN_sound OT_sound mixed (LoopsOk.innerAt LoopsOk.none 3) (by kernel_rfl) (by intro v h; cases h) ((pyB_off ((bY xs cs is x.toNat bs 5)) cs xs rs is i cp m x0 x (5)).trans ?_)
    refine stX ?_ ?_ ?_
    · (try simp (disch := omega) only [tmod_lit, tdiv_lit, mul_lit, add_lit, lit_mul, lit_add, add_nat, mul_nat, sub_lit, lit_sub, sub_nat, wrapI_nat, wrapI_in, Int.toNat_natCast, Nat.mul_one, Nat.zero_add, toNat_lit])
      (try simp only [Bool.and_eq_true, Bool.and_true, Bool.true_and, decide_eq_true_eq, Bool.not_eq_true', decide_eq_false_iff_not, if_true, Bool.false_eq_true, if_false, List.length_set, List.length_append, List.length_replicate, List.length_cons, List.length_nil, Blk.len])
      (repeat' apply And.intro) <;> first | rfl | omega | decide
    · first | rfl | (simp (disch := omega) only [tmod_lit, tdiv_lit, mul_lit, add_lit, lit_mul, lit_add, add_nat, mul_nat, sub_lit, lit_sub, sub_nat, wrapI_nat, wrapI_in, Int.toNat_natCast, Nat.mul_one, Nat.zero_add, toNat_lit] <;> rfl) | (simp (disch := omega) only [tmod_lit, tdiv_lit, mul_lit, add_lit, lit_mul, lit_add, add_nat, mul_nat, sub_lit, lit_sub, sub_nat, wrapI_nat, wrapI_in, Int.toNat_natCast, Nat.mul_one, Nat.zero_add, toNat_lit]; done)
    · first | rfl | (simp (disch := omega) only [tmod_lit, tdiv_lit, mul_lit, add_lit, lit_mul, lit_add, add_nat, mul_nat, sub_lit, lit_sub, sub_nat, wrapI_nat, wrapI_in, Int.toNat_natCast, Nat.mul_one, Nat.zero_add, toNat_lit] <;> rfl) | (simp (disch := omega) only [tmod_lit, tdiv_lit, mul_lit, add_lit, lit_mul, lit_add, add_nat, mul_nat, sub_lit, lit_sub, sub_nat, wrapI_nat, wrapI_in, Int.toNat_natCast, Nat.mul_one, Nat.zero_add, toNat_lit]; done)
theorem pxB_on (bs : List (BitVec 64)) (cs : List (BitVec 64)) (xs : List (BitVec 64)) (rs : List (BitVec 64)) (is : List Int) (i : Int) (cp : Option Nat) (m : Nat) (x0 : List (BitVec 64)) (n : Nat) :
  execN Pr OT (smL (1 : Nat) [pyB_s]) [((42 : Nat), true)] (100 : Nat) (1 : Nat)
  [(0 : Nat), (3 : Nat), (4 : Nat), (5 : Nat), (6 : Nat), (8 : Nat), (9 : Nat)] (loopBody Go.Proofs.Try.f12 (2 : Nat))
  [((0 : Nat), V.sl (1 : Nat) (0 : Nat) (1 : Nat) (25 : Nat) cp),
    ((3 : Nat), V.sl (2 : Nat) (0 : Nat) (1 : Nat) (25 : Nat) (some (25 : Nat))),
    ((4 : Nat), V.sl (3 : Nat) (0 : Nat) (1 : Nat) m none), ((5 : Nat), V.int IntKind.i64 i),
    ((6 : Nat), V.sl (4 : Nat) (0 : Nat) (1 : Nat) (5 : Nat) (some (5 : Nat))),
    ((8 : Nat), V.sl (5 : Nat) (0 : Nat) (1 : Nat) (25 : Nat) (some (25 : Nat))),
    ((9 : Nat), V.int IntKind.i64 (↑n : Int))]
  [Blk.b64 x0, Blk.b64 xs, Blk.ints is, Blk.b64 rs, Blk.b64 cs, Blk.b64 bs] =
  some
  ((if true = true then decide ((↑n : Int) < (5 : Int)) else !decide ((↑n : Int) < (5 : Int))) && true &&
      (pyB_ok (bs, cs, xs, rs, is, i, cp, m, x0, (↑n : Int)) && true),
    X.normal,
    [((0 : Nat), V.sl (1 : Nat) (0 : Nat) (1 : Nat) (25 : Nat) cp),
      ((3 : Nat), V.sl (2 : Nat) (0 : Nat) (1 : Nat) (25 : Nat) (some (25 : Nat))),
      ((4 : Nat), V.sl (3 : Nat) (0 : Nat) (1 : Nat) m none), ((5 : Nat), V.int IntKind.i64 i),
      ((6 : Nat), V.sl (4 : Nat) (0 : Nat) (1 : Nat) (5 : Nat) (some (5 : Nat))),
      ((8 : Nat), V.sl (5 : Nat) (0 : Nat) (1 : Nat) (25 : Nat) (some (25 : Nat))),
      ((9 : Nat), V.int IntKind.i64 (wrapI IntKind.i64 ((↑n : Int) + (1 : Int))))],
    [Blk.b64 x0, Blk.b64 xs, Blk.ints is, Blk.b64 rs, Blk.b64 cs,
      Blk.b64 (bY xs cs is (↑n : Int).toNat bs (5 : Nat))]) := by kernel_rfl
theorem pxB_off (bs : List (BitVec 64)) (cs : List (BitVec 64)) (xs : List (BitVec 64)) (rs : List (BitVec 64)) (is : List Int) (i : Int) (cp : Option Nat) (m : Nat) (x0 : List (BitVec 64)) (n : Nat) :
  execN Pr OT (smL (1 : Nat) [pyB_s]) [((42 : Nat), false)] (100 : Nat) (1 : Nat)
  [(0 : Nat), (3 : Nat), (4 : Nat), (5 : Nat), (8 : Nat)] (loopBody Go.Proofs.Try.f12 (2 : Nat))
  [((0 : Nat), V.sl (1 : Nat) (0 : Nat) (1 : Nat) (25 : Nat) cp),
    ((3 : Nat), V.sl (2 : Nat) (0 : Nat) (1 : Nat) (25 : Nat) (some (25 : Nat))),
    ((4 : Nat), V.sl (3 : Nat) (0 : Nat) (1 : Nat) m none), ((5 : Nat), V.int IntKind.i64 i),
    ((6 : Nat), V.sl (4 : Nat) (0 : Nat) (1 : Nat) (5 : Nat) (some (5 : Nat))),
    ((8 : Nat), V.sl (5 : Nat) (0 : Nat) (1 : Nat) (25 : Nat) (some (25 : Nat))),
    ((9 : Nat), V.int IntKind.i64 (↑n : Int))]
  [Blk.b64 x0, Blk.b64 xs, Blk.ints is, Blk.b64 rs, Blk.b64 cs, Blk.b64 bs] =
  some
  ((if false = true then decide ((↑n : Int) < (5 : Int)) else !decide ((↑n : Int) < (5 : Int))) && true,
    X.exit (4 : Nat),
    [((0 : Nat), V.sl (1 : Nat) (0 : Nat) (1 : Nat) (25 : Nat) cp),
      ((3 : Nat), V.sl (2 : Nat) (0 : Nat) (1 : Nat) (25 : Nat) (some (25 : Nat))),
      ((4 : Nat), V.sl (3 : Nat) (0 : Nat) (1 : Nat) m none), ((5 : Nat), V.int IntKind.i64 i),
      ((8 : Nat), V.sl (4 : Nat) (0 : Nat) (1 : Nat) (25 : Nat) (some (25 : Nat)))],
    [Blk.b64 x0, Blk.b64 xs, Blk.ints is, Blk.b64 rs, Blk.b64 bs]) := by kernel_rfl
def pxB_S : (List (BitVec 64)) × (List (BitVec 64)) × (List (BitVec 64)) × (List (BitVec 64)) × (List Int) × Int × (Option Nat) × Nat × (List (BitVec 64)) → Nat → Fr × Heap := fun ⟨bs, cs, xs, rs, is, i, cp, m, x0⟩ n => ([(0, .sl 1 0 1 25 cp), (3, .sl 2 0 1 25 (some 25)), (4, .sl 3 0 1 m none), (5, .int .i64 i), (6, .sl 4 0 1 5 (some 5)), (8, .sl 5 0 1 25 (some 25)), (9, .int .i64 n)], [.b64 x0, .b64 xs, .ints is, .b64 rs, .b64 cs, .b64 (bX xs cs is bs n)])
def pxB_read : Fr → Heap → Option ((List (BitVec 64)) × (List (BitVec 64)) × (List (BitVec 64)) × (List (BitVec 64)) × (List Int) × Int × (Option Nat) × Nat × (List (BitVec 64))) := fun f h => match f, h with
  | [(0, .sl 1 0 1 25 cp), (3, .sl 2 0 1 25 (some 25)), (4, .sl 3 0 1 m none), (5, .int .i64 i), (6, .sl 4 0 1 5 (some 5)), (8, .sl 5 0 1 25 (some 25)), (9, .int .i64 0)], [.b64 x0, .b64 xs, .ints is, .b64 rs, .b64 cs, .b64 bs] => some (bs, cs, xs, rs, is, i, cp, m, x0)
  | _, _ => none
def pxB_ok : (List (BitVec 64)) × (List (BitVec 64)) × (List (BitVec 64)) × (List (BitVec 64)) × (List Int) × Int × (Option Nat) × Nat × (List (BitVec 64)) → Bool := fun ⟨bs, cs, xs, rs, is, i, cp, m, x0⟩ => decide (cs.length = 5) && decide (xs.length = 25) && decide (bs.length = 25) && decide (is = rotI)
def pxB_E : (List (BitVec 64)) × (List (BitVec 64)) × (List (BitVec 64)) × (List (BitVec 64)) × (List Int) × Int × (Option Nat) × Nat × (List (BitVec 64)) → X × Fr × Heap := fun ⟨bs, cs, xs, rs, is, i, cp, m, x0⟩ => (.exit 4, [(0, .sl 1 0 1 25 cp), (3, .sl 2 0 1 25 (some 25)), (4, .sl 3 0 1 m none), (5, .int .i64 i), (8, .sl 4 0 1 25 (some 25))], [.b64 x0, .b64 xs, .ints is, .b64 rs, .b64 (bX xs cs is bs (5))])
def pxB_k : Nat := 2
def pxB_s : Sm := whS 13 [0,3,4,5,6,8,9] pxB_read pxB_ok pxB_E
theorem pxB_at : SmAt Pr Go.Proofs.Try.f12 1 pxB_s pxB_k := by
  refine cnt_at pxB_S (fun ⟨bs, cs, xs, rs, is, i, cp, m, x0⟩ => 5) (by kernel_rfl) (by kernel_rfl) ?_ ?_ ?_ ?_
  · intro f g a h
    unfold pxB_read at h
    split at h <;> cases h
    rfl
  · intro a h; cases h
  · rintro ⟨bs, cs, xs, rs, is, i, cp, m, x0⟩ hok n hn
    simp only at hn
    simp only [pxB_ok] at hok
    simp only [Bool.and_eq_true, decide_eq_true_eq] at hok
    obtain ⟨⟨⟨h1, h2⟩, h3⟩, h4⟩ := hok
    have hb := bX_length xs cs is bs n
    refine execN_sound OT_sound mixed (LoopsOk.innerAt (LoopsOk.of [(pyB_s, pyB_k)] (by kernel_rfl) (by intro p hp; simp only [List.mem_cons, List.not_mem_nil, or_false] at hp; rcases hp with rfl; exact pyB_at)) 2) (by kernel_rfl) (by intro v h; cases h) ((pxB_on ((bX xs cs is bs n)) cs xs rs is i cp m x0 (n)).trans ?_)
    refine stX ?_ ?_ ?_
    · (try simp (disch := omega) only [tmod_lit, tdiv_lit, mul_lit, add_lit, lit_mul, lit_add, add_nat, mul_nat, sub_lit, lit_sub, sub_nat, wrapI_nat, wrapI_in, Int.toNat_natCast, Nat.mul_one, Nat.zero_add, toNat_lit, pyB_ok])
      (try simp only [Bool.and_eq_true, Bool.and_true, Bool.true_and, decide_eq_true_eq, Bool.not_eq_true', decide_eq_false_iff_not, if_true, Bool.false_eq_true, if_false, List.length_set, List.length_append, List.length_replicate, List.length_cons, List.length_nil, Blk.len])
      (repeat' apply And.intro) <;> first | rfl | omega | decide
    · first | rfl | (simp (disch := omega) only [tmod_lit, tdiv_lit, mul_lit, add_lit, lit_mul, lit_add, add_nat, mul_nat, sub_lit, lit_sub, sub_nat, wrapI_nat, wrapI_in, Int.toNat_natCast, Nat.mul_one, Nat.zero_add, toNat_lit, pyB_ok] <;> rfl) | (simp (disch := omega) only [tmod_lit, tdiv_lit, mul_lit, add_lit, lit_mul, lit_add, add_nat, mul_nat, sub_lit, lit_sub, sub_nat, wrapI_nat, wrapI_in, Int.toNat_natCast, Nat.mul_one, Nat.zero_add, toNat_lit, pyB_ok]; done)
    · first | rfl | (simp (disch := omega) only [tmod_lit, tdiv_lit, mul_lit, add_lit, lit_mul, lit_add, add_nat, mul_nat, sub_lit, lit_sub, sub_nat, wrapI_nat, wrapI_in, Int.toNat_natCast, Nat.mul_one, Nat.zero_add, toNat_lit, pyB_ok] <;> rfl) | (simp (disch := omega) only [tmod_lit, tdiv_lit, mul_lit, add_lit, lit_mul, lit_add, add_nat, mul_nat, sub_lit, lit_sub, sub_nat, wrapI_nat, wrapI_in, Int.toNat_natCast, Nat.mul_one, Nat.zero_add, toNat_lit, pyB_ok]; done)
  · rintro ⟨bs, cs, xs, rs, is, i, cp, m, x0⟩ hok
    simp only [pxB_ok] at hok
    simp only [Bool.and_eq_true, decide_eq_true_eq] at hok
    obtain ⟨⟨⟨h1, h2⟩, h3⟩, h4⟩ := hok
    have := bX_length xs cs is bs 5
    refine execN_sound OT_sound mixed (LoopsOk.innerAt (LoopsOk.of [(pyB_s, pyB_k)] (by kernel_rfl) (by intro p hp; simp only [List.mem_cons, List.not_mem_nil, or_false] at hp; rcases hp with rfl; exact pyB_at)) 2) (by kernel_rfl) (by intro v h; cases h) ((pxB_off ((bX xs cs is bs 5)) cs xs rs is i cp m x0 (5)).trans ?_)
    refine stX ?_ ?_ ?_
    · (try simp (disch := omega) only [tmod_lit, tdiv_lit, mul_lit, add_lit, lit_mul, lit_add, add_nat, mul_nat, sub_lit, lit_sub, sub_nat, wrapI_nat, wrapI_in, Int.toNat_natCast, Nat.mul_one, Nat.zero_add, toNat_lit, pyB_ok])
      (try simp only [Bool.and_eq_true, Bool.and_true, Bool.true_and, decide_eq_true_eq, Bool.not_eq_true', decide_eq_false_iff_not, if_true, Bool.false_eq_true, if_false, List.length_set, List.length_append, List.length_replicate, List.length_cons, List.length_nil, Blk.len])
      (repeat' apply And.intro) <;> first | rfl | omega | decide
    · first | rfl | (simp (disch := omega) only [tmod_lit, tdiv_lit, mul_lit, add_lit, lit_mul, lit_add, add_nat, mul_nat, sub_lit, lit_sub, sub_nat, wrapI_nat, wrapI_in, Int.toNat_natCast, Nat.mul_one, Nat.zero_add, toNat_lit, pyB_ok] <;> rfl) | (simp (disch := omega) only [tmod_lit, tdiv_lit, mul_lit, add_lit, lit_mul, lit_add, add_nat, mul_nat, sub_lit, lit_sub, sub_nat, wrapI_nat, wrapI_in, Int.toNat_natCast, Nat.mul_one, Nat.zero_add, toNat_lit, pyB_ok]; done)
    · first | rfl | (simp (disch := omega) only [tmod_lit, tdiv_lit, mul_lit, add_lit, lit_mul, lit_add, add_nat, mul_nat, sub_lit, lit_sub, sub_nat, wrapI_nat, wrapI_in, Int.toNat_natCast, Nat.mul_one, Nat.zero_add, toNat_lit, pyB_ok] <;> rfl) | (simp (disch := omega) only [tmod_lit, tdiv_lit, mul_lit, add_lit, lit_mul, lit_add, add_nat, mul_nat, sub_lit, lit_sub, sub_nat, wrapI_nat, wrapI_in, Int.toNat_natCast, Nat.mul_one, Nat.zero_add, toNat_lit, pyB_ok]; done)
theorem qyB_on (os : List (BitVec 64)) (bs : List (BitVec 64)) (xs : List (BitVec 64)) (rs : List (BitVec 64)) (is : List Int) (i : Int) (cp : Option Nat) (m : Nat) (x0 : List (BitVec 64)) (x : Int) (n : Nat) :
  execN Pr noOrc noLoops [((97 : Nat), true)] (100 : Nat) (1 : Nat)
  [(0 : Nat), (3 : Nat), (4 : Nat), (5 : Nat), (8 : Nat), (12 : Nat), (13 : Nat), (14 : Nat)]
  (loopBody Go.Proofs.Try.f12 (5 : Nat))
  [((0 : Nat), V.sl (1 : Nat) (0 : Nat) (1 : Nat) (25 : Nat) cp),
    ((3 : Nat), V.sl (2 : Nat) (0 : Nat) (1 : Nat) (25 : Nat) (some (25 : Nat))),
    ((4 : Nat), V.sl (3 : Nat) (0 : Nat) (1 : Nat) m none), ((5 : Nat), V.int IntKind.i64 i),
    ((8 : Nat), V.sl (4 : Nat) (0 : Nat) (1 : Nat) (25 : Nat) (some (25 : Nat))),
    ((12 : Nat), V.sl (5 : Nat) (0 : Nat) (1 : Nat) (25 : Nat) (some (25 : Nat))), ((13 : Nat), V.int IntKind.i64 x),
    ((14 : Nat), V.int IntKind.i64 (↑n : Int))]
  [Blk.b64 x0, Blk.b64 xs, Blk.ints is, Blk.b64 rs, Blk.b64 bs, Blk.b64 os] =
  some
  ((if true = true then decide ((↑n : Int) < (5 : Int)) else !decide ((↑n : Int) < (5 : Int))) && true &&
      (decide ((0 : Int) ≤ wrapI IntKind.i64 (x + wrapI IntKind.i64 ((5 : Int) * (↑n : Int)))) &&
            decide (wrapI IntKind.i64 (x + wrapI IntKind.i64 ((5 : Int) * (↑n : Int))) < (25 : Int)) &&
          (decide
              ((0 : Nat) + (wrapI IntKind.i64 (x + wrapI IntKind.i64 ((5 : Int) * (↑n : Int)))).toNat * (1 : Nat) <
                bs.length) &&
            (decide
                  ((0 : Int) ≤
                    wrapI IntKind.i64
                      ((wrapI IntKind.i64 (x + (1 : Int))).tmod (5 : Int) +
                        wrapI IntKind.i64 ((5 : Int) * (↑n : Int)))) &&
                decide
                  (wrapI IntKind.i64
                      ((wrapI IntKind.i64 (x + (1 : Int))).tmod (5 : Int) +
                        wrapI IntKind.i64 ((5 : Int) * (↑n : Int))) <
                    (25 : Int)) &&
              (decide
                  ((0 : Nat) +
                      (wrapI IntKind.i64
                            ((wrapI IntKind.i64 (x + (1 : Int))).tmod (5 : Int) +
                              wrapI IntKind.i64 ((5 : Int) * (↑n : Int)))).toNat *
                        (1 : Nat) <
                    bs.length) &&
                (decide
                      ((0 : Int) ≤
                        wrapI IntKind.i64
                          ((wrapI IntKind.i64 (x + (2 : Int))).tmod (5 : Int) +
                            wrapI IntKind.i64 ((5 : Int) * (↑n : Int)))) &&
                    decide
                      (wrapI IntKind.i64
                          ((wrapI IntKind.i64 (x + (2 : Int))).tmod (5 : Int) +
                            wrapI IntKind.i64 ((5 : Int) * (↑n : Int))) <
                        (25 : Int)) &&
                  (decide
                      ((0 : Nat) +
                          (wrapI IntKind.i64
                                ((wrapI IntKind.i64 (x + (2 : Int))).tmod (5 : Int) +
                                  wrapI IntKind.i64 ((5 : Int) * (↑n : Int)))).toNat *
                            (1 : Nat) <
                        bs.length) &&
                    (decide ((0 : Int) ≤ wrapI IntKind.i64 (x + wrapI IntKind.i64 ((5 : Int) * (↑n : Int)))) &&
                        decide (wrapI IntKind.i64 (x + wrapI IntKind.i64 ((5 : Int) * (↑n : Int))) < (25 : Int)) &&
                      (decide
                          ((0 : Nat) +
                                (wrapI IntKind.i64 (x + wrapI IntKind.i64 ((5 : Int) * (↑n : Int)))).toNat * (1 : Nat) +
                              [V.u64
                                    (bs.getD
                                        ((0 : Nat) +
                                          (wrapI IntKind.i64 (x + wrapI IntKind.i64 ((5 : Int) * (↑n : Int)))).toNat *
                                            (1 : Nat))
                                        (OfNat.ofNat (0 : Nat)) ^^^
                                      ~~~bs.getD
                                            ((0 : Nat) +
                                              (wrapI IntKind.i64
                                                    ((wrapI IntKind.i64 (x + (1 : Int))).tmod (5 : Int) +
                                                      wrapI IntKind.i64 ((5 : Int) * (↑n : Int)))).toNat *
                                                (1 : Nat))
                                            (OfNat.ofNat (0 : Nat)) &&&
                                        bs.getD
                                          ((0 : Nat) +
                                            (wrapI IntKind.i64
                                                  ((wrapI IntKind.i64 (x + (2 : Int))).tmod (5 : Int) +
                                                    wrapI IntKind.i64 ((5 : Int) * (↑n : Int)))).toNat *
                                              (1 : Nat))
                                          (OfNat.ofNat (0 : Nat)))].length ≤
                            os.length) &&
                        true))))))) &&
        true),
    X.normal,
    [((0 : Nat), V.sl (1 : Nat) (0 : Nat) (1 : Nat) (25 : Nat) cp),
      ((3 : Nat), V.sl (2 : Nat) (0 : Nat) (1 : Nat) (25 : Nat) (some (25 : Nat))),
      ((4 : Nat), V.sl (3 : Nat) (0 : Nat) (1 : Nat) m none), ((5 : Nat), V.int IntKind.i64 i),
      ((8 : Nat), V.sl (4 : Nat) (0 : Nat) (1 : Nat) (25 : Nat) (some (25 : Nat))),
      ((12 : Nat), V.sl (5 : Nat) (0 : Nat) (1 : Nat) (25 : Nat) (some (25 : Nat))), ((13 : Nat), V.int IntKind.i64 x),
      ((14 : Nat), V.int IntKind.i64 (wrapI IntKind.i64 ((↑n : Int) + (1 : Int))))],
    [Blk.b64 x0, Blk.b64 xs, Blk.ints is, Blk.b64 rs, Blk.b64 bs,
      Blk.b64
        (os.set ((0 : Nat) + (wrapI IntKind.i64 (x + wrapI IntKind.i64 ((5 : Int) * (↑n : Int)))).toNat * (1 : Nat))
          (bs.getD ((0 : Nat) + (wrapI IntKind.i64 (x + wrapI IntKind.i64 ((5 : Int) * (↑n : Int)))).toNat * (1 : Nat))
              (OfNat.ofNat (0 : Nat)) ^^^
            ~~~bs.getD
                  ((0 : Nat) +
                    (wrapI IntKind.i64
                          ((wrapI IntKind.i64 (x + (1 : Int))).tmod (5 : Int) +
                            wrapI IntKind.i64 ((5 : Int) * (↑n : Int)))).toNat *
                      (1 : Nat))
                  (OfNat.ofNat (0 : Nat)) &&&
              bs.getD
                ((0 : Nat) +
                  (wrapI IntKind.i64
                        ((wrapI IntKind.i64 (x + (2 : Int))).tmod (5 : Int) +
                          wrapI IntKind.i64 ((5 : Int) * (↑n : Int)))).toNat *
                    (1 : Nat))
                (OfNat.ofNat (0 : Nat))))]) := by kernel_rfl
theorem qyB_off (os : List (BitVec 64)) (bs : List (BitVec 64)) (xs : List (BitVec 64)) (rs : List (BitVec 64)) (is : List Int) (i : Int) (cp : Option Nat) (m : Nat) (x0 : List (BitVec 64)) (x : Int) (n : Nat) :
  execN Pr noOrc noLoops [((97 : Nat), false)] (100 : Nat) (1 : Nat)
  [(0 : Nat), (3 : Nat), (4 : Nat), (5 : Nat), (8 : Nat), (12 : Nat), (13 : Nat)] (loopBody Go.Proofs.Try.f12 (5 : Nat))
  [((0 : Nat), V.sl (1 : Nat) (0 : Nat) (1 : Nat) (25 : Nat) cp),
    ((3 : Nat), V.sl (2 : Nat) (0 : Nat) (1 : Nat) (25 : Nat) (some (25 : Nat))),
    ((4 : Nat), V.sl (3 : Nat) (0 : Nat) (1 : Nat) m none), ((5 : Nat), V.int IntKind.i64 i),
    ((8 : Nat), V.sl (4 : Nat) (0 : Nat) (1 : Nat) (25 : Nat) (some (25 : Nat))),
    ((12 : Nat), V.sl (5 : Nat) (0 : Nat) (1 : Nat) (25 : Nat) (some (25 : Nat))), ((13 : Nat), V.int IntKind.i64 x),
    ((14 : Nat), V.int IntKind.i64 (↑n : Int))]
  [Blk.b64 x0, Blk.b64 xs, Blk.ints is, Blk.b64 rs, Blk.b64 bs, Blk.b64 os] =
  some
  ((if false = true then decide ((↑n : Int) < (5 : Int)) else !decide ((↑n : Int) < (5 : Int))) && true,
    X.exit (10 : Nat),
    [((0 : Nat), V.sl (1 : Nat) (0 : Nat) (1 : Nat) (25 : Nat) cp),
      ((3 : Nat), V.sl (2 : Nat) (0 : Nat) (1 : Nat) (25 : Nat) (some (25 : Nat))),
      ((4 : Nat), V.sl (3 : Nat) (0 : Nat) (1 : Nat) m none), ((5 : Nat), V.int IntKind.i64 i),
      ((8 : Nat), V.sl (4 : Nat) (0 : Nat) (1 : Nat) (25 : Nat) (some (25 : Nat))),
      ((12 : Nat), V.sl (5 : Nat) (0 : Nat) (1 : Nat) (25 : Nat) (some (25 : Nat))), ((13 : Nat), V.int IntKind.i64 x)],
    [Blk.b64 x0, Blk.b64 xs, Blk.ints is, Blk.b64 rs, Blk.b64 bs, Blk.b64 os]) := by kernel_rfl
def qyB_S : (List (BitVec 64)) × (List (BitVec 64)) × (List (BitVec 64)) × (List (BitVec 64)) × (List Int) × Int × (Option Nat) × Nat × (List (BitVec 64)) × Int → Nat → Fr × Heap := fun ⟨os, bs, xs, rs, is, i, cp, m, x0, x⟩ n => ([(0, .sl 1 0 1 25 cp), (3, .sl 2 0 1 25 (some 25)), (4, .sl 3 0 1 m none), (5, .int .i64 i), (8, .sl 4 0 1 25 (some 25)), (12, .sl 5 0 1 25 (some 25)), (13, .int .i64 x), (14, .int .i64 n)], [.b64 x0, .b64 xs, .ints is, .b64 rs, .b64 bs, .b64 (oY bs x.toNat os n)])
def qyB_read : Fr → Heap → Option ((List (BitVec 64)) × (List (BitVec 64)) × (List (BitVec 64)) × (List (BitVec 64)) × (List Int) × Int × (Option Nat) × Nat × (List (BitVec 64)) × Int) := fun f h => match f, h with
  | [(0, .sl 1 0 1 25 cp), (3, .sl 2 0 1 25 (some 25)), (4, .sl 3 0 1 m none), (5, .int .i64 i), (8, .sl 4 0 1 25 (some 25)), (12, .sl 5 0 1 25 (some 25)), (13, .int .i64 x), (14, .int .i64 0)], [.b64 x0, .b64 xs, .ints is, .b64 rs, .b64 bs, .b64 os] => some (os, bs, xs, rs, is, i, cp, m, x0, x)
  | _, _ => none
def qyB_ok : (List (BitVec 64)) × (List (BitVec 64)) × (List (BitVec 64)) × (List (BitVec 64)) × (List Int) × Int × (Option Nat) × Nat × (List (BitVec 64)) × Int → Bool := fun ⟨os, bs, xs, rs, is, i, cp, m, x0, x⟩ => decide (os.length = 25) && decide (bs.length = 25) && decide (0 ≤ x) && decide (x < 5)
def qyB_E : (List (BitVec 64)) × (List (BitVec 64)) × (List (BitVec 64)) × (List (BitVec 64)) × (List Int) × Int × (Option Nat) × Nat × (List (BitVec 64)) × Int → X × Fr × Heap := fun ⟨os, bs, xs, rs, is, i, cp, m, x0, x⟩ => (.exit 10, [(0, .sl 1 0 1 25 cp), (3, .sl 2 0 1 25 (some 25)), (4, .sl 3 0 1 m none), (5, .int .i64 i), (8, .sl 4 0 1 25 (some 25)), (12, .sl 5 0 1 25 (some 25)), (13, .int .i64 x)], [.b64 x0, .b64 xs, .ints is, .b64 rs, .b64 bs, .b64 (oY bs x.toNat os (5))])
def qyB_k : Nat := 5
def qyB_s : Sm := whS 25 [0,3,4,5,8,12,13,14] qyB_read qyB_ok qyB_E
theorem qyB_at : SmAt Pr Go.Proofs.Try.f12 1 qyB_s qyB_k := by
  refine cnt_at qyB_S (fun ⟨os, bs, xs, rs, is, i, cp, m, x0, x⟩ => 5) (by kernel_rfl) (by kernel_rfl) ?_ ?_ ?_ ?_
  · intro f g a h
    unfold qyB_read at h
    split at h <;> cases h
    rfl
  · intro a h; cases h
  · rintro ⟨os, bs, xs, rs, is, i, cp, m, x0, x⟩ hok n hn
    simp only at hn
    simp only [qyB_ok] at hok
    simp only [Bool.and_eq_true, decide_eq_true_eq] at hok
    obtain ⟨⟨⟨h1, h2⟩, h3⟩, h4⟩ := hok
    obtain ⟨u, rfl⟩ : ∃ u : Nat, x = u := ⟨x.toNat, by omega⟩
    have hb := oY_length bs u os n
    refine execN_sound (noOrc_sound _) mixed (LoopsOk.innerAt LoopsOk.none 5) (by kernel_rfl) (by intro v h; cases h) ((qyB_on ((oY bs ((u : Nat) : Int).toNat os n)) bs xs rs is i cp m x0 ((u : Nat) : Int) (n)).trans ?_)
    refine stX ?_ ?_ ?_
    · (try simp (disch := omega) only [tmod_lit, tdiv_lit, mul_lit, add_lit, lit_mul, lit_add, add_nat, mul_nat, sub_lit, lit_sub, sub_nat, wrapI_nat, wrapI_in, Int.toNat_natCast, Nat.mul_one, Nat.zero_add, toNat_lit])
      (try simp only [Bool.and_eq_true, Bool.and_true, Bool.true_and, decide_eq_true_eq, Bool.not_eq_true', decide_eq_false_iff_not, if_true, Bool.false_eq_true, if_false, List.length_set, List.length_append, List.length_replicate, List.length_cons, List.length_nil, Blk.len])
      (repeat' apply And.intro) <;> first | rfl | omega | decide
    · first | rfl | (simp (disch := omega) only [tmod_lit, tdiv_lit, mul_lit, add_lit, lit_mul, lit_add, add_nat, mul_nat, sub_lit, lit_sub, sub_nat, wrapI_nat, wrapI_in, Int.toNat_natCast, Nat.mul_one, Nat.zero_add, toNat_lit] <;> rfl) | (simp (disch := omega) only [tmod_lit, tdiv_lit, mul_lit, add_lit, lit_mul, lit_add, add_nat, mul_nat, sub_lit, lit_sub, sub_nat, wrapI_nat, wrapI_in, Int.toNat_natCast, Nat.mul_one, Nat.zero_add, toNat_lit]; done)
    · first | rfl | (simp (disch := omega) only [tmod_lit, tdiv_lit, mul_lit, add_lit, lit_mul, lit_add, add_nat, mul_nat, sub_lit, lit_sub, sub_nat, wrapI_nat, wrapI_in, Int.toNat_natCast, Nat.mul_one, Nat.zero_add, toNat_lit] <;> rfl) | (simp (disch := omega) only [tmod_lit, tdiv_lit, mul_lit, add_lit, lit_mul, lit_add, add_nat, mul_nat, sub_lit, lit_sub, sub_nat, wrapI_nat, wrapI_in, Int.toNat_natCast, Nat.mul_one, Nat.zero_add, toNat_lit]; done)
  · rintro ⟨os, bs, xs, rs, is, i, cp, m, x0, x⟩ hok
    simp only [qyB_ok] at hok
    simp only [Bool.and_eq_true, decide_eq_true_eq] at hok
    obtain ⟨⟨⟨h1, h2⟩, h3⟩, h4⟩ := hok
    have := oY_length bs x.toNat os 5
    refine execN_sound (noOrc_sound _) mixed (LoopsOk.innerAt LoopsOk.none 5) (by kernel_rfl) (by intro v h; cases h) ((qyB_off ((oY bs x.toNat os 5)) bs xs rs is i cp m x0 x (5)).trans ?_)
    refine stX ?_ ?_ ?_
    · (try simp (disch := omega) only [tmod_lit, tdiv_lit, mul_lit, add_lit, lit_mul, lit_add, add_nat, mul_nat, sub_lit, lit_sub, sub_nat, wrapI_nat, wrapI_in, Int.toNat_natCast, Nat.mul_one, Nat.zero_add, toNat_lit])
      (try simp only [Bool.and_eq_true, Bool.and_true, Bool.true_and, decide_eq_true_eq, Bool.not_eq_true', decide_eq_false_iff_not, if_true, Bool.false_eq_true, if_false, List.length_set, List.length_append, List.length_replicate, List.length_cons, List.length_nil, Blk.len])
      (repeat' apply And.intro) <;> first | rfl | omega | decide
    · first | rfl | (simp (disch := omega) only [tmod_lit, tdiv_lit, mul_lit, add_lit, lit_mul, lit_add, add_nat, mul_nat, sub_lit, lit_sub, sub_nat, wrapI_nat, wrapI_in, Int.toNat_natCast, Nat.mul_one, Nat.zero_add, toNat_lit] <;> rfl) | (simp (disch := omega) only [tmod_lit, tdiv_lit, mul_lit, add_lit, lit_mul, lit_add, add_nat, mul_nat, sub_lit, lit_sub, sub_nat, wrapI_nat, wrapI_in, Int.toNat_natCast, Nat.mul_one, Nat.zero_add, toNat_lit]; done)
    · first | rfl | (simp (disch := omega) only [tmod_lit, tdiv_lit, mul_lit, add_lit, lit_mul, lit_add, add_nat, mul_nat, sub_lit, lit_sub, sub_nat, wrapI_nat, wrapI_in, Int.toNat_natCast, Nat.mul_one, Nat.zero_add, toNat_lit] <;> rfl) | (simp (disch := omega) only [tmod_lit, tdiv_lit, mul_lit, add_lit, lit_mul, lit_add, add_nat, mul_nat, sub_lit, lit_sub, sub_nat, wrapI_nat, wrapI_in, Int.toNat_natCast, Nat.mul_one, Nat.zero_add, toNat_lit]; done)
theorem qxB_on (os : List (BitVec 64)) (bs : List (BitVec 64)) (xs : List (BitVec 64)) (rs : List (BitVec 64)) (is : List Int) (i : Int) (cp : Option Nat) (m : Nat) (x0 : List (BitVec 64)) (n : Nat) :
  execN Pr noOrc (smL (1 : Nat) [qyB_s]) [((93 : Nat), true)] (100 : Nat) (1 : Nat)
  [(0 : Nat), (3 : Nat), (4 : Nat), (5 : Nat), (8 : Nat), (12 : Nat), (13 : Nat)] (loopBody Go.Proofs.Try.f12 (4 : Nat))
  [((0 : Nat), V.sl (1 : Nat) (0 : Nat) (1 : Nat) (25 : Nat) cp),
    ((3 : Nat), V.sl (2 : Nat) (0 : Nat) (1 : Nat) (25 : Nat) (some (25 : Nat))),
    ((4 : Nat), V.sl (3 : Nat) (0 : Nat) (1 : Nat) m none), ((5 : Nat), V.int IntKind.i64 i),
    ((8 : Nat), V.sl (4 : Nat) (0 : Nat) (1 : Nat) (25 : Nat) (some (25 : Nat))),
    ((12 : Nat), V.sl (5 : Nat) (0 : Nat) (1 : Nat) (25 : Nat) (some (25 : Nat))),
    ((13 : Nat), V.int IntKind.i64 (↑n : Int))]
  [Blk.b64 x0, Blk.b64 xs, Blk.ints is, Blk.b64 rs, Blk.b64 bs, Blk.b64 os] =
  some
  ((if true = true then decide ((↑n : Int) < (5 : Int)) else !decide ((↑n : Int) < (5 : Int))) && true &&
      (qyB_ok (os, bs, xs, rs, is, i, cp, m, x0, (↑n : Int)) && true),
    X.normal,
    [((0 : Nat), V.sl (1 : Nat) (0 : Nat) (1 : Nat) (25 : Nat) cp),
      ((3 : Nat), V.sl (2 : Nat) (0 : Nat) (1 : Nat) (25 : Nat) (some (25 : Nat))),
      ((4 : Nat), V.sl (3 : Nat) (0 : Nat) (1 : Nat) m none), ((5 : Nat), V.int IntKind.i64 i),
      ((8 : Nat), V.sl (4 : Nat) (0 : Nat) (1 : Nat) (25 : Nat) (some (25 : Nat))),
      ((12 : Nat), V.sl (5 : Nat) (0 : Nat) (1 : Nat) (25 : Nat) (some (25 : Nat))),
      ((13 : Nat), V.int IntKind.i64 (wrapI IntKind.i64 ((↑n : Int) + (1 : Int))))],
    [Blk.b64 x0, Blk.b64 xs, Blk.ints is, Blk.b64 rs, Blk.b64 bs,
      Blk.b64 (oY bs (↑n : Int).toNat os (5 : Nat))]) := by kernel_rfl
theorem qxB_off (os : List (BitVec 64)) (bs : List (BitVec 64)) (xs : List (BitVec 64)) (rs : List (BitVec 64)) (is : List Int) (i : Int) (cp : Option Nat) (m : Nat) (x0 : List (BitVec 64)) (n : Nat) :
  execN Pr noOrc (smL (1 : Nat) [qyB_s]) [((93 : Nat), false)] (100 : Nat) (1 : Nat)
  [(0 : Nat), (3 : Nat), (4 : Nat), (5 : Nat), (12 : Nat)] (loopBody Go.Proofs.Try.f12 (4 : Nat))
  [((0 : Nat), V.sl (1 : Nat) (0 : Nat) (1 : Nat) (25 : Nat) cp),
    ((3 : Nat), V.sl (2 : Nat) (0 : Nat) (1 : Nat) (25 : Nat) (some (25 : Nat))),
    ((4 : Nat), V.sl (3 : Nat) (0 : Nat) (1 : Nat) m none), ((5 : Nat), V.int IntKind.i64 i),
    ((8 : Nat), V.sl (4 : Nat) (0 : Nat) (1 : Nat) (25 : Nat) (some (25 : Nat))),
    ((12 : Nat), V.sl (5 : Nat) (0 : Nat) (1 : Nat) (25 : Nat) (some (25 : Nat))),
    ((13 : Nat), V.int IntKind.i64 (↑n : Int))]
  [Blk.b64 x0, Blk.b64 xs, Blk.ints is, Blk.b64 rs, Blk.b64 bs, Blk.b64 os] =
  some
  ((if false = true then decide ((↑n : Int) < (5 : Int)) else !decide ((↑n : Int) < (5 : Int))) && true,
    X.exit (8 : Nat),
    [((0 : Nat), V.sl (1 : Nat) (0 : Nat) (1 : Nat) (25 : Nat) cp),
      ((3 : Nat), V.sl (2 : Nat) (0 : Nat) (1 : Nat) (25 : Nat) (some (25 : Nat))),
      ((4 : Nat), V.sl (3 : Nat) (0 : Nat) (1 : Nat) m none), ((5 : Nat), V.int IntKind.i64 i),
      ((12 : Nat), V.sl (4 : Nat) (0 : Nat) (1 : Nat) (25 : Nat) (some (25 : Nat)))],
    [Blk.b64 x0, Blk.b64 xs, Blk.ints is, Blk.b64 rs, Blk.b64 os]) := by kernel_rfl
def qxB_S : (List (BitVec 64)) × (List (BitVec 64)) × (List (BitVec 64)) × (List (BitVec 64)) × (List Int) × Int × (Option Nat) × Nat × (List (BitVec 64)) → Nat → Fr × Heap := fun ⟨os, bs, xs, rs, is, i, cp, m, x0⟩ n => ([(0, .sl 1 0 1 25 cp), (3, .sl 2 0 1 25 (some 25)), (4, .sl 3 0 1 m none), (5, .int .i64 i), (8, .sl 4 0 1 25 (some 25)), (12, .sl 5 0 1 25 (some 25)), (13, .int .i64 n)], [.b64 x0, .b64 xs, .ints is, .b64 rs, .b64 bs, .b64 (oX bs os n)])
def qxB_read : Fr → Heap → Option ((List (BitVec 64)) × (List (BitVec 64)) × (List (BitVec 64)) × (List (BitVec 64)) × (List Int) × Int × (Option Nat) × Nat × (List (BitVec 64))) := fun f h => match f, h with
  | [(0, .sl 1 0 1 25 cp), (3, .sl 2 0 1 25 (some 25)), (4, .sl 3 0 1 m none), (5, .int .i64 i), (8, .sl 4 0 1 25 (some 25)), (12, .sl 5 0 1 25 (some 25)), (13, .int .i64 0)], [.b64 x0, .b64 xs, .ints is, .b64 rs, .b64 bs, .b64 os] => some (os, bs, xs, rs, is, i, cp, m, x0)
  | _, _ => none
def qxB_ok : (List (BitVec 64)) × (List (BitVec 64)) × (List (BitVec 64)) × (List (BitVec 64)) × (List Int) × Int × (Option Nat) × Nat × (List (BitVec 64)) → Bool := fun ⟨os, bs, xs, rs, is, i, cp, m, x0⟩ => decide (os.length = 25) && decide (bs.length = 25)
def qxB_E : (List (BitVec 64)) × (List (BitVec 64)) × (List (BitVec 64)) × (List (BitVec 64)) × (List Int) × Int × (Option Nat) × Nat × (List (BitVec 64)) → X × Fr × Heap := fun ⟨os, bs, xs, rs, is, i, cp, m, x0⟩ => (.exit 8, [(0, .sl 1 0 1 25 cp), (3, .sl 2 0 1 25 (some 25)), (4, .sl 3 0 1 m none), (5, .int .i64 i), (12, .sl 4 0 1 25 (some 25))], [.b64 x0, .b64 xs, .ints is, .b64 rs, .b64 (oX bs os (5))])
def qxB_k : Nat := 4
def qxB_s : Sm := whS 22 [0,3,4,5,8,12,13] qxB_read qxB_ok qxB_E
theorem qxB_at : SmAt Pr Go.Proofs.Try.f12 1 qxB_s qxB_k := by
  refine cnt_at qxB_S (fun ⟨os, bs, xs, rs, is, i, cp, m, x0⟩ => 5) (by kernel_rfl) (by kernel_rfl) ?_ ?_ ?_ ?_
  · intro f g a h
    unfold qxB_read at h
    split at h <;> cases h
    rfl
  · intro a h; cases h
  · rintro ⟨os, bs, xs, rs, is, i, cp, m, x0⟩ hok n hn
    simp only at hn
    simp only [qxB_ok] at hok
    simp only [Bool.and_eq_true, decide_eq_true_eq] at hok
    obtain ⟨h1, h2⟩ := hok
    have hb := oX_length bs os n
    refine execN_sound (noOrc_sound _) mixed (LoopsOk.innerAt (LoopsOk.of [(qyB_s, qyB_k)] (by kernel_rfl) (by intro p hp; simp only [List.mem_cons, List.not_mem_nil, or_false] at hp; rcases hp with rfl; exact qyB_at)) 4) (by kernel_rfl) (by intro v h; cases h) ((qxB_on ((oX bs os n)) bs xs rs is i cp m x0 (n)).trans ?_)
    refine stX ?_ ?_ ?_
    · (try simp (disch := omega) only [tmod_lit, tdiv_lit, mul_lit, add_lit, lit_mul, lit_add, add_nat, mul_nat, sub_lit, lit_sub, sub_nat, wrapI_nat, wrapI_in, Int.toNat_natCast, Nat.mul_one, Nat.zero_add, toNat_lit, qyB_ok])
      (try simp only [Bool.and_eq_true, Bool.and_true, Bool.true_and, decide_eq_true_eq, Bool.not_eq_true', decide_eq_false_iff_not, if_true, Bool.false_eq_true, if_false, List.length_set, List.length_append, List.length_replicate, List.length_cons, List.length_nil, Blk.len])
      (repeat' apply And.intro) <;> first | rfl | omega | decide
    · first | rfl | (simp (disch := omega) only [tmod_lit, tdiv_lit, mul_lit, add_lit, lit_mul, lit_add, add_nat, mul_nat, sub_lit, lit_sub, sub_nat, wrapI_nat, wrapI_in, Int.toNat_natCast, Nat.mul_one, Nat.zero_add, toNat_lit, qyB_ok] <;> rfl) | (simp (disch := omega) only [tmod_lit, tdiv_lit, mul_lit, add_lit, lit_mul, lit_add, add_nat, mul_nat, sub_lit, lit_sub, sub_nat, wrapI_nat, wrapI_in, Int.toNat_natCast, Nat.mul_one, Nat.zero_add, toNat_lit, qyB_ok]; done)
    · first | rfl | (simp (disch := omega) only [tmod_lit, tdiv_lit, mul_lit, add_lit, lit_mul, lit_add, add_nat, mul_nat, sub_lit, lit_sub, sub_nat, wrapI_nat, wrapI_in, Int.toNat_natCast, Nat.mul_one, Nat.zero_add, toNat_lit, qyB_ok] <;> rfl) | (simp (disch := omega) only [tmod_lit, tdiv_lit, mul_lit, add_lit, lit_mul, lit_add, add_nat, mul_nat, sub_lit, lit_sub, sub_nat, wrapI_nat, wrapI_in, Int.toNat_natCast, Nat.mul_one, Nat.zero_add, toNat_lit, qyB_ok]; done)
  · rintro ⟨os, bs, xs, rs, is, i, cp, m, x0⟩ hok
    simp only [qxB_ok] at hok
    simp only [Bool.and_eq_true, decide_eq_true_eq] at hok
    obtain ⟨h1, h2⟩ := hok
    have := oX_length bs os 5
    refine execN_sound (noOrc_sound _) mixed (LoopsOk.innerAt (LoopsOk.of [(qyB_s, qyB_k)] (by kernel_rfl) (by intro p hp; simp only [List.mem_cons, List.not_mem_nil, or_false] at hp; rcases hp with rfl; exact qyB_at)) 4) (by kernel_rfl) (by intro v h; cases h) ((qxB_off ((oX bs os 5)) bs xs rs is i cp m x0 (5)).trans ?_)
    refine stX ?_ ?_ ?_
    · (try simp (disch := omega) only [tmod_lit, tdiv_lit, mul_lit, add_lit, lit_mul, lit_add, add_nat, mul_nat, sub_lit, lit_sub, sub_nat, wrapI_nat, wrapI_in, Int.toNat_natCast, Nat.mul_one, Nat.zero_add, toNat_lit, qyB_ok])
      (try simp only [Bool.and_eq_true, Bool.and_true, Bool.true_and, decide_eq_true_eq, Bool.not_eq_true', decide_eq_false_iff_not, if_true, Bool.false_eq_true, if_false, List.length_set, List.length_append, List.length_replicate, List.length_cons, List.length_nil, Blk.len])
      (repeat' apply And.intro) <;> first | rfl | omega | decide
    · first | rfl | (simp (disch := omega) only [tmod_lit, tdiv_lit, mul_lit, add_lit, lit_mul, lit_add, add_nat, mul_nat, sub_lit, lit_sub, sub_nat, wrapI_nat, wrapI_in, Int.toNat_natCast, Nat.mul_one, Nat.zero_add, toNat_lit, qyB_ok] <;> rfl) | (simp (disch := omega) only [tmod_lit, tdiv_lit, mul_lit, add_lit, lit_mul, lit_add, add_nat, mul_nat, sub_lit, lit_sub, sub_nat, wrapI_nat, wrapI_in, Int.toNat_natCast, Nat.mul_one, Nat.zero_add, toNat_lit, qyB_ok]; done)
    · first | rfl | (simp (disch := omega) only [tmod_lit, tdiv_lit, mul_lit, add_lit, lit_mul, lit_add, add_nat, mul_nat, sub_lit, lit_sub, sub_nat, wrapI_nat, wrapI_in, Int.toNat_natCast, Nat.mul_one, Nat.zero_add, toNat_lit, qyB_ok] <;> rfl) | (simp (disch := omega) only [tmod_lit, tdiv_lit, mul_lit, add_lit, lit_mul, lit_add, add_nat, mul_nat, sub_lit, lit_sub, sub_nat, wrapI_nat, wrapI_in, Int.toNat_natCast, Nat.mul_one, Nat.zero_add, toNat_lit, qyB_ok]; done)

end
end Go.Proofs.Ytggblpmijekemaa.K
