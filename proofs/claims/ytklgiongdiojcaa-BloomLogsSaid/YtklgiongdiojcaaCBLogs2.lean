/- The functions that this law reaches: what each comes to. -/
import Derived.Test.YtklgiongdiojcaaCBLogs1
set_option linter.unusedSimpArgs false
set_option linter.unusedVariables false
section
open Go Go.Lh
namespace Go.Proofs.Ytklgiongdiojcaa.K
noncomputable section
set_option maxRecDepth 100000
def turn (x : BitVec 64) (k : Nat) : BitVec 64 := x <<< (k % 64) ||| (x >>> ((64 - k % 64) % 64)) * BitVec.ofInt 64 (if (1 : Int) < ((k % 64 : Nat) : Int) then (1 : Int) else ((k % 64 : Nat) : Int))
theorem turned_x (a : BitVec 64) (i : Int) :
  execFD Pr noOrc noLoops [] (100 : Nat) Go.Proofs.Try.f36 [V.u64 a, V.int IntKind.i64 i] [] =
  some
  (decide ((0 : Int) ≤ i.tmod (64 : Int)) &&
          (decide ((0 : Int) ≤ (wrapI IntKind.i64 ((64 : Int) - i.tmod (64 : Int))).tmod (64 : Int)) && true) &&
        true &&
      true,
    Fin.ret
      (V.u64
        (a <<< (i.tmod (64 : Int)).toNat |||
          a >>> ((wrapI IntKind.i64 ((64 : Int) - i.tmod (64 : Int))).tmod (64 : Int)).toNat *
            BitVec.ofInt (64 : Nat) (if (1 : Int) < i.tmod (64 : Int) then (1 : Int) else i.tmod (64 : Int)))),
    []) := by kernel_rfl
theorem turned_fn (a : BitVec 64) (i : Int) (h1 : 0 ≤ i) (h2 : i < 64) : LFn Pr 36 [.u64 a, .int .i64 i] [] (.ret (.u64 (turn a i.toNat))) [] := by
  obtain ⟨n, rfl⟩ : ∃ n : Nat, i = n := ⟨i.toNat, by omega⟩
  have e0 : (n : Int).tmod 64 = ((n % 64 : Nat) : Int) := tmod_lit n 64
  have e1 : wrapI IntKind.i64 ((64 : Int) - (n : Int).tmod 64) = ((64 - n % 64 : Nat) : Int) := by rw [e0, lit_sub _ _ (by omega), wrapI_nat (by omega)]
  have e2 : (wrapI IntKind.i64 ((64 : Int) - (n : Int).tmod 64)).tmod 64 = (((64 - n % 64) % 64 : Nat) : Int) := by rw [e1]; exact tmod_lit _ 64
  refine execFD_sound (noOrc_sound _) mixed (f := 36) (fn := Go.Proofs.Try.f36) (by kernel_rfl) LoopsOk.none ((turned_x a (n : Int)).trans ?_)
  refine stF ?_ ?_ ?_
  · rw [e2, e0]; simp only [Bool.and_true, Bool.and_eq_true, decide_eq_true_eq]; omega
  · unfold turn; rw [e2, e0]; simp only [Int.toNat_natCast]
  · first | rfl | (simp (disch := omega) only [tmod_lit, tdiv_lit, mul_lit, add_lit, lit_mul, lit_add, add_nat, mul_nat, sub_lit, lit_sub, sub_nat, wrapI_nat, wrapI_in, Int.toNat_natCast, Nat.mul_one, Nat.zero_add, toNat_lit] <;> rfl) | (simp (disch := omega) only [tmod_lit, tdiv_lit, mul_lit, add_lit, lit_mul, lit_add, add_nat, mul_nat, sub_lit, lit_sub, sub_nat, wrapI_nat, wrapI_in, Int.toNat_natCast, Nat.mul_one, Nat.zero_add, toNat_lit]; done)
def turned_read : List V → Heap → Option ((BitVec 64) × Int) := fun f h => match f, h with
  | [.u64 a, .int .i64 i], [] => some (a, i)
  | _, _ => none
def turned_g := ct turned_read (fun ⟨a, i⟩ => decide (0 ≤ i) && decide (i < 64)) (fun ⟨a, i⟩ => .ret (.u64 (turn a i.toNat))) (fun ⟨a, i⟩ => [])
theorem turned_ok : ∀ args h fin h', turned_g args h = some (true, fin, h') → LFn Pr 36 args h fin h' := by
  refine ct_ok (fun ⟨a, i⟩ => [.u64 a, .int .i64 i]) (fun ⟨a, i⟩ => []) ?_ ?_
  · intro args h a e
    unfold turned_read at e
    split at e <;> cases e
    exact ⟨rfl, rfl⟩
  · rintro ⟨a, i⟩ hok
    simp only [Bool.and_eq_true, decide_eq_true_eq] at hok
    obtain ⟨h1, h2⟩ := hok
    exact turned_fn a i h1 h2
theorem turned_en : Enters Pr 36 := Enters.of (fn := Go.Proofs.Try.f36) (by kernel_rfl) (by kernel_rfl)
def OT : Orc := auto Pr noExt [(36, turned_g)] [34, 35] 3
theorem OT_sound : OrcSound Pr OT := auto_sound mixed noExt_ok (KOk.cons turned_en turned_ok KOk.nil) (by kernel_rfl) 3
/-- the columns -/
def cN (xs cs : List (BitVec 64)) : Nat → List (BitVec 64)
  | 0 => cs
  | n + 1 => (cN xs cs n).set (n % 5) ((cN xs cs n).getD (n % 5) 0 ^^^ xs.getD n 0)
theorem cN_length (xs cs : List (BitVec 64)) : ∀ n, (cN xs cs n).length = cs.length
  | 0 => rfl
  | n + 1 => by simp [cN, cN_length xs cs n]

/-- the lanes, turned, of a column -/
def bY (xs cs : List (BitVec 64)) (is : List Int) (x : Nat) (bs : List (BitVec 64)) : Nat → List (BitVec 64)
  | 0 => bs
  | y + 1 => (bY xs cs is x bs y).set (y + 5 * ((2 * x + 3 * y) % 5)) (turn (xs.getD (x + 5 * y) 0 ^^^ cs.getD ((x + 4) % 5) 0 ^^^ turn (cs.getD ((x + 1) % 5) 0) 1) (is.getD (x + 5 * y) 0).toNat)
theorem bY_length (xs cs : List (BitVec 64)) (is : List Int) (x : Nat) (bs : List (BitVec 64)) : ∀ n, (bY xs cs is x bs n).length = bs.length
  | 0 => rfl
  | n + 1 => by simp [bY, bY_length xs cs is x bs n]
def bX (xs cs : List (BitVec 64)) (is : List Int) (bs : List (BitVec 64)) : Nat → List (BitVec 64)
  | 0 => bs
  | x + 1 => bY xs cs is x (bX xs cs is bs x) 5
theorem bX_length (xs cs : List (BitVec 64)) (is : List Int) (bs : List (BitVec 64)) : ∀ n, (bX xs cs is bs n).length = bs.length
  | 0 => rfl
  | n + 1 => by simp [bX, bY_length, bX_length xs cs is bs n]
def oY (bs : List (BitVec 64)) (x : Nat) (os : List (BitVec 64)) : Nat → List (BitVec 64)
  | 0 => os
  | y + 1 => (oY bs x os y).set (x + 5 * y) (bs.getD (x + 5 * y) 0 ^^^ (~~~(bs.getD ((x + 1) % 5 + 5 * y) 0) &&& bs.getD ((x + 2) % 5 + 5 * y) 0))
theorem oY_length (bs : List (BitVec 64)) (x : Nat) (os : List (BitVec 64)) : ∀ n, (oY bs x os n).length = os.length
  | 0 => rfl
  | n + 1 => by simp [oY, oY_length bs x os n]
def oX (bs os : List (BitVec 64)) : Nat → List (BitVec 64)
  | 0 => os
  | x + 1 => oY bs x (oX bs os x) 5
theorem oX_length (bs os : List (BitVec 64)) : ∀ n, (oX bs os n).length = os.length
  | 0 => rfl
  | n + 1 => by simp [oX, oY_length, oX_length bs os n]
def rotI : List Int := [0, 1, 62, 28, 27, 36, 44, 6, 55, 20, 3, 10, 43, 25, 39, 41, 45, 15, 21, 8, 18, 2, 61, 56, 14]
theorem rotI_in : ∀ k, k < 25 → 0 ≤ rotI.getD k 0 ∧ rotI.getD k 0 < 64 := by decide
theorem rotI_length : rotI.length = 25 := rfl

theorem pcA_on (cs : List (BitVec 64)) (xs : List (BitVec 64)) (rs : List (BitVec 64)) (is : List Int) (i : Int) (cp : Option Nat) (m : Nat) (n : Nat) :
  execN Pr noOrc noLoops [((23 : Nat), true)] (100 : Nat) (1 : Nat)
  [(0 : Nat), (3 : Nat), (4 : Nat), (5 : Nat), (6 : Nat), (7 : Nat)] (loopBody Go.Proofs.Try.f29 (1 : Nat))
  [((0 : Nat), V.sl (0 : Nat) (0 : Nat) (1 : Nat) (25 : Nat) cp),
    ((3 : Nat), V.sl (1 : Nat) (0 : Nat) (1 : Nat) (25 : Nat) (some (25 : Nat))),
    ((4 : Nat), V.sl (2 : Nat) (0 : Nat) (1 : Nat) m none), ((5 : Nat), V.int IntKind.i64 i),
    ((6 : Nat), V.sl (3 : Nat) (0 : Nat) (1 : Nat) (5 : Nat) (some (5 : Nat))),
    ((7 : Nat), V.int IntKind.i64 (↑n : Int))]
  [Blk.b64 xs, Blk.ints is, Blk.b64 rs, Blk.b64 cs] =
  some
  ((if true = true then decide ((↑n : Int) < (25 : Int)) else !decide ((↑n : Int) < (25 : Int))) && true &&
      (decide ((0 : Int) ≤ (↑n : Int).tmod (5 : Int)) && decide ((↑n : Int).tmod (5 : Int) < (5 : Int)) &&
          (decide ((0 : Nat) + ((↑n : Int).tmod (5 : Int)).toNat * (1 : Nat) < cs.length) &&
            (decide ((0 : Int) ≤ (↑n : Int)) && decide ((↑n : Int) < (25 : Int)) &&
              (decide ((0 : Nat) + (↑n : Int).toNat * (1 : Nat) < xs.length) &&
                (decide ((0 : Int) ≤ (↑n : Int).tmod (5 : Int)) && decide ((↑n : Int).tmod (5 : Int) < (5 : Int)) &&
                  (decide
                      ((0 : Nat) + ((↑n : Int).tmod (5 : Int)).toNat * (1 : Nat) +
                          [V.u64
                                (cs.getD ((0 : Nat) + ((↑n : Int).tmod (5 : Int)).toNat * (1 : Nat))
                                    (OfNat.ofNat (0 : Nat)) ^^^
                                  xs.getD ((0 : Nat) + (↑n : Int).toNat * (1 : Nat)) (OfNat.ofNat (0 : Nat)))].length ≤
                        cs.length) &&
                    true))))) &&
        true),
    X.normal,
    [((0 : Nat), V.sl (0 : Nat) (0 : Nat) (1 : Nat) (25 : Nat) cp),
      ((3 : Nat), V.sl (1 : Nat) (0 : Nat) (1 : Nat) (25 : Nat) (some (25 : Nat))),
      ((4 : Nat), V.sl (2 : Nat) (0 : Nat) (1 : Nat) m none), ((5 : Nat), V.int IntKind.i64 i),
      ((6 : Nat), V.sl (3 : Nat) (0 : Nat) (1 : Nat) (5 : Nat) (some (5 : Nat))),
      ((7 : Nat), V.int IntKind.i64 (wrapI IntKind.i64 ((↑n : Int) + (1 : Int))))],
    [Blk.b64 xs, Blk.ints is, Blk.b64 rs,
      Blk.b64
        (cs.set ((0 : Nat) + ((↑n : Int).tmod (5 : Int)).toNat * (1 : Nat))
          (cs.getD ((0 : Nat) + ((↑n : Int).tmod (5 : Int)).toNat * (1 : Nat)) (OfNat.ofNat (0 : Nat)) ^^^
            xs.getD ((0 : Nat) + (↑n : Int).toNat * (1 : Nat)) (OfNat.ofNat (0 : Nat))))]) := by kernel_rfl
theorem pcA_off (cs : List (BitVec 64)) (xs : List (BitVec 64)) (rs : List (BitVec 64)) (is : List Int) (i : Int) (cp : Option Nat) (m : Nat) (n : Nat) :
  execN Pr noOrc noLoops [((23 : Nat), false)] (100 : Nat) (1 : Nat)
  [(0 : Nat), (3 : Nat), (4 : Nat), (5 : Nat), (6 : Nat)] (loopBody Go.Proofs.Try.f29 (1 : Nat))
  [((0 : Nat), V.sl (0 : Nat) (0 : Nat) (1 : Nat) (25 : Nat) cp),
    ((3 : Nat), V.sl (1 : Nat) (0 : Nat) (1 : Nat) (25 : Nat) (some (25 : Nat))),
    ((4 : Nat), V.sl (2 : Nat) (0 : Nat) (1 : Nat) m none), ((5 : Nat), V.int IntKind.i64 i),
    ((6 : Nat), V.sl (3 : Nat) (0 : Nat) (1 : Nat) (5 : Nat) (some (5 : Nat))),
    ((7 : Nat), V.int IntKind.i64 (↑n : Int))]
  [Blk.b64 xs, Blk.ints is, Blk.b64 rs, Blk.b64 cs] =
  some
  ((if false = true then decide ((↑n : Int) < (25 : Int)) else !decide ((↑n : Int) < (25 : Int))) && true,
    X.exit (2 : Nat),
    [((0 : Nat), V.sl (0 : Nat) (0 : Nat) (1 : Nat) (25 : Nat) cp),
      ((3 : Nat), V.sl (1 : Nat) (0 : Nat) (1 : Nat) (25 : Nat) (some (25 : Nat))),
      ((4 : Nat), V.sl (2 : Nat) (0 : Nat) (1 : Nat) m none), ((5 : Nat), V.int IntKind.i64 i),
      ((6 : Nat), V.sl (3 : Nat) (0 : Nat) (1 : Nat) (5 : Nat) (some (5 : Nat)))],
    [Blk.b64 xs, Blk.ints is, Blk.b64 rs, Blk.b64 cs]) := by kernel_rfl
def pcA_S : (List (BitVec 64)) × (List (BitVec 64)) × (List (BitVec 64)) × (List Int) × Int × (Option Nat) × Nat → Nat → Fr × Heap := fun ⟨cs, xs, rs, is, i, cp, m⟩ n => ([(0, .sl 0 0 1 25 cp), (3, .sl 1 0 1 25 (some 25)), (4, .sl 2 0 1 m none), (5, .int .i64 i), (6, .sl 3 0 1 5 (some 5)), (7, .int .i64 n)], [.b64 xs, .ints is, .b64 rs, .b64 (cN xs cs n)])
def pcA_read : Fr → Heap → Option ((List (BitVec 64)) × (List (BitVec 64)) × (List (BitVec 64)) × (List Int) × Int × (Option Nat) × Nat) := fun f h => match f, h with
  | [(0, .sl 0 0 1 25 cp), (3, .sl 1 0 1 25 (some 25)), (4, .sl 2 0 1 m none), (5, .int .i64 i), (6, .sl 3 0 1 5 (some 5)), (7, .int .i64 0)], [.b64 xs, .ints is, .b64 rs, .b64 cs] => some (cs, xs, rs, is, i, cp, m)
  | _, _ => none
def pcA_ok : (List (BitVec 64)) × (List (BitVec 64)) × (List (BitVec 64)) × (List Int) × Int × (Option Nat) × Nat → Bool := fun ⟨cs, xs, rs, is, i, cp, m⟩ => decide (cs.length = 5) && decide (xs.length = 25)
def pcA_E : (List (BitVec 64)) × (List (BitVec 64)) × (List (BitVec 64)) × (List Int) × Int × (Option Nat) × Nat → X × Fr × Heap := fun ⟨cs, xs, rs, is, i, cp, m⟩ => (.exit 2, [(0, .sl 0 0 1 25 cp), (3, .sl 1 0 1 25 (some 25)), (4, .sl 2 0 1 m none), (5, .int .i64 i), (6, .sl 3 0 1 5 (some 5))], [.b64 xs, .ints is, .b64 rs, .b64 (cN xs cs (25))])
def pcA_k : Nat := 1
def pcA_s : Sm := whS 8 [0,3,4,5,6,7] pcA_read pcA_ok pcA_E
theorem pcA_at : SmAt Pr Go.Proofs.Try.f29 1 pcA_s pcA_k := by
  refine cnt_at pcA_S (fun ⟨cs, xs, rs, is, i, cp, m⟩ => 25) (by kernel_rfl) (by kernel_rfl) ?_ ?_ ?_ ?_
  · intro f g a h
    unfold pcA_read at h
    split at h <;> cases h
    rfl
  · intro a h; cases h
  · rintro ⟨cs, xs, rs, is, i, cp, m⟩ hok n hn
    simp only at hn
    simp only [pcA_ok] at hok
    simp only [Bool.and_eq_true, decide_eq_true_eq] at hok
    obtain ⟨h1, h2⟩ := hok
    have := cN_length xs cs n
    refine execN_sound (noOrc_sound _) mixed (LoopsOk.innerAt LoopsOk.none 1) (by kernel_rfl) (by intro v h; cases h) ((pcA_on ((cN xs cs n)) xs rs is i cp m (n)).trans ?_)
    refine stX ?_ ?_ ?_
    · (try simp (disch := omega) only [tmod_lit, tdiv_lit, mul_lit, add_lit, lit_mul, lit_add, add_nat, mul_nat, sub_lit, lit_sub, sub_nat, wrapI_nat, wrapI_in, Int.toNat_natCast, Nat.mul_one, Nat.zero_add, toNat_lit])
      (try simp only [Bool.and_eq_true, Bool.and_true, Bool.true_and, decide_eq_true_eq, Bool.not_eq_true', decide_eq_false_iff_not, if_true, Bool.false_eq_true, if_false, List.length_set, List.length_append, List.length_replicate, List.length_cons, List.length_nil, Blk.len])
      (repeat' apply And.intro) <;> first | rfl | omega | decide
    · first | rfl | (simp (disch := omega) only [tmod_lit, tdiv_lit, mul_lit, add_lit, lit_mul, lit_add, add_nat, mul_nat, sub_lit, lit_sub, sub_nat, wrapI_nat, wrapI_in, Int.toNat_natCast, Nat.mul_one, Nat.zero_add, toNat_lit] <;> rfl) | (simp (disch := omega) only [tmod_lit, tdiv_lit, mul_lit, add_lit, lit_mul, lit_add, add_nat, mul_nat, sub_lit, lit_sub, sub_nat, wrapI_nat, wrapI_in, Int.toNat_natCast, Nat.mul_one, Nat.zero_add, toNat_lit]; done)
    · first | rfl | (simp (disch := omega) only [tmod_lit, tdiv_lit, mul_lit, add_lit, lit_mul, lit_add, add_nat, mul_nat, sub_lit, lit_sub, sub_nat, wrapI_nat, wrapI_in, Int.toNat_natCast, Nat.mul_one, Nat.zero_add, toNat_lit] <;> rfl) | (simp (disch := omega) only [tmod_lit, tdiv_lit, mul_lit, add_lit, lit_mul, lit_add, add_nat, mul_nat, sub_lit, lit_sub, sub_nat, wrapI_nat, wrapI_in, Int.toNat_natCast, Nat.mul_one, Nat.zero_add, toNat_lit]; done)
  · rintro ⟨cs, xs, rs, is, i, cp, m⟩ hok
    simp only [pcA_ok] at hok
    simp only [Bool.and_eq_true, decide_eq_true_eq] at hok
    obtain ⟨h1, h2⟩ := hok
    have := cN_length xs cs 25
    refine execN_sound (noOrc_sound _) mixed (LoopsOk.innerAt LoopsOk.none 1) (by kernel_rfl) (by intro v h; cases h) ((pcA_off ((cN xs cs 25)) xs rs is i cp m (25)).trans ?_)
    refine stX ?_ ?_ ?_
    · (try simp (disch := omega) only [tmod_lit, tdiv_lit, mul_lit, add_lit, lit_mul, lit_add, add_nat, mul_nat, sub_lit, lit_sub, sub_nat, wrapI_nat, wrapI_in, Int.toNat_natCast, Nat.mul_one, Nat.zero_add, toNat_lit])
      (try simp only [Bool.and_eq_true, Bool.and_true, Bool.true_and, decide_eq_true_eq, Bool.not_eq_true', decide_eq_false_iff_not, if_true, Bool.false_eq_true, if_false, List.length_set, List.length_append, List.length_replicate, List.length_cons, List.length_nil, Blk.len])
      (repeat' apply And.intro) <;> first | rfl | omega | decide
    · first | rfl | (simp (disch := omega) only [tmod_lit, tdiv_lit, mul_lit, add_lit, lit_mul, lit_add, add_nat, mul_nat, sub_lit, lit_sub, sub_nat, wrapI_nat, wrapI_in, Int.toNat_natCast, Nat.mul_one, Nat.zero_add, toNat_lit] <;> rfl) | (simp (disch := omega) only [tmod_lit, tdiv_lit, mul_lit, add_lit, lit_mul, lit_add, add_nat, mul_nat, sub_lit, lit_sub, sub_nat, wrapI_nat, wrapI_in, Int.toNat_natCast, Nat.mul_one, Nat.zero_add, toNat_lit]; done)
    · first | rfl | (simp (disch := omega) only [tmod_lit, tdiv_lit, mul_lit, add_lit, lit_mul, lit_add, add_nat, mul_nat, sub_lit, lit_sub, sub_nat, wrapI_nat, wrapI_in, Int.toNat_natCast, Nat.mul_one, Nat.zero_add, toNat_lit] <;> rfl) | (simp (disch := omega) only [tmod_lit, tdiv_lit, mul_lit, add_lit, lit_mul, lit_add, add_nat, mul_nat, sub_lit, lit_sub, sub_nat, wrapI_nat, wrapI_in, Int.toNat_natCast, Nat.mul_one, Nat.zero_add, toNat_lit]; done)
theorem pyA_on (bs : List (BitVec 64)) (cs : List (BitVec 64)) (xs : List (BitVec 64)) (rs : List (BitVec 64)) (is : List Int) (i : Int) (cp : Option Nat) (m : Nat) (x : Int) (n : Nat) :
  execN Pr OT noLoops [((46 : Nat), true)] (100 : Nat) (1 : Nat)
  [(0 : Nat), (3 : Nat), (4 : Nat), (5 : Nat), (6 : Nat), (8 : Nat), (9 : Nat), (10 : Nat)]
  (loopBody Go.Proofs.Try.f29 (3 : Nat))
  [((0 : Nat), V.sl (0 : Nat) (0 : Nat) (1 : Nat) (25 : Nat) cp),
    ((3 : Nat), V.sl (1 : Nat) (0 : Nat) (1 : Nat) (25 : Nat) (some (25 : Nat))),
    ((4 : Nat), V.sl (2 : Nat) (0 : Nat) (1 : Nat) m none), ((5 : Nat), V.int IntKind.i64 i),
    ((6 : Nat), V.sl (3 : Nat) (0 : Nat) (1 : Nat) (5 : Nat) (some (5 : Nat))),
    ((8 : Nat), V.sl (4 : Nat) (0 : Nat) (1 : Nat) (25 : Nat) (some (25 : Nat))), ((9 : Nat), V.int IntKind.i64 x),
    ((10 : Nat), V.int IntKind.i64 (↑n : Int))]
  [Blk.b64 xs, Blk.ints is, Blk.b64 rs, Blk.b64 cs, Blk.b64 bs] =
  some
  ((if true = true then decide ((↑n : Int) < (5 : Int)) else !decide ((↑n : Int) < (5 : Int))) && true &&
      (decide ((0 : Int) ≤ wrapI IntKind.i64 (x + wrapI IntKind.i64 ((5 : Int) * (↑n : Int)))) &&
              decide (wrapI IntKind.i64 (x + wrapI IntKind.i64 ((5 : Int) * (↑n : Int))) < (25 : Int)) &&
            (decide
                ((0 : Nat) + (wrapI IntKind.i64 (x + wrapI IntKind.i64 ((5 : Int) * (↑n : Int)))).toNat * (1 : Nat) <
                  xs.length) &&
              (decide ((0 : Int) ≤ (wrapI IntKind.i64 (x + (4 : Int))).tmod (5 : Int)) &&
                  decide ((wrapI IntKind.i64 (x + (4 : Int))).tmod (5 : Int) < (5 : Int)) &&
                (decide
                    ((0 : Nat) + ((wrapI IntKind.i64 (x + (4 : Int))).tmod (5 : Int)).toNat * (1 : Nat) < cs.length) &&
                  (decide ((0 : Int) ≤ (wrapI IntKind.i64 (x + (1 : Int))).tmod (5 : Int)) &&
                      decide ((wrapI IntKind.i64 (x + (1 : Int))).tmod (5 : Int) < (5 : Int)) &&
                    (decide
                        ((0 : Nat) + ((wrapI IntKind.i64 (x + (1 : Int))).tmod (5 : Int)).toNat * (1 : Nat) <
                          cs.length) &&
                      ((fun x ↦
                            match x with
                            | (a, i) => decide ((0 : Int) ≤ i) && decide (i < (64 : Int)))
                          (cs.getD ((0 : Nat) + ((wrapI IntKind.i64 (x + (1 : Int))).tmod (5 : Int)).toNat * (1 : Nat))
                              (OfNat.ofNat (0 : Nat)),
                            (1 : Int)) &&
                        true)))))) &&
          (decide ((0 : Int) ≤ wrapI IntKind.i64 (x + wrapI IntKind.i64 ((5 : Int) * (↑n : Int)))) &&
              decide (wrapI IntKind.i64 (x + wrapI IntKind.i64 ((5 : Int) * (↑n : Int))) < (25 : Int)) &&
            (decide
                ((0 : Nat) + (wrapI IntKind.i64 (x + wrapI IntKind.i64 ((5 : Int) * (↑n : Int)))).toNat * (1 : Nat) <
                  is.length) &&
              ((fun x ↦
                    match x with
                    | (a, i) => decide ((0 : Int) ≤ i) && decide (i < (64 : Int)))
                  (xs.getD
                          ((0 : Nat) +
                            (wrapI IntKind.i64 (x + wrapI IntKind.i64 ((5 : Int) * (↑n : Int)))).toNat * (1 : Nat))
                          (OfNat.ofNat (0 : Nat)) ^^^
                        cs.getD ((0 : Nat) + ((wrapI IntKind.i64 (x + (4 : Int))).tmod (5 : Int)).toNat * (1 : Nat))
                          (OfNat.ofNat (0 : Nat)) ^^^
                      turn
                        (cs.getD ((0 : Nat) + ((wrapI IntKind.i64 (x + (1 : Int))).tmod (5 : Int)).toNat * (1 : Nat))
                          (OfNat.ofNat (0 : Nat)))
                        (1 : Nat),
                    is.getD
                      ((0 : Nat) +
                        (wrapI IntKind.i64 (x + wrapI IntKind.i64 ((5 : Int) * (↑n : Int)))).toNat * (1 : Nat))
                      (0 : Int)) &&
                (decide
                      ((0 : Int) ≤
                        wrapI IntKind.i64
                          ((↑n : Int) +
                            wrapI IntKind.i64
                              ((5 : Int) *
                                (wrapI IntKind.i64
                                      (wrapI IntKind.i64 ((2 : Int) * x) +
                                        wrapI IntKind.i64 ((3 : Int) * (↑n : Int)))).tmod
                                  (5 : Int)))) &&
                    decide
                      (wrapI IntKind.i64
                          ((↑n : Int) +
                            wrapI IntKind.i64
                              ((5 : Int) *
                                (wrapI IntKind.i64
                                      (wrapI IntKind.i64 ((2 : Int) * x) +
                                        wrapI IntKind.i64 ((3 : Int) * (↑n : Int)))).tmod
                                  (5 : Int))) <
                        (25 : Int)) &&
                  (decide
                      ((0 : Nat) +
                            (wrapI IntKind.i64
                                  ((↑n : Int) +
                                    wrapI IntKind.i64
                                      ((5 : Int) *
                                        (wrapI IntKind.i64
                                              (wrapI IntKind.i64 ((2 : Int) * x) +
                                                wrapI IntKind.i64 ((3 : Int) * (↑n : Int)))).tmod
                                          (5 : Int)))).toNat *
                              (1 : Nat) +
                          [V.u64
                                (turn
                                  (xs.getD
                                        ((0 : Nat) +
                                          (wrapI IntKind.i64 (x + wrapI IntKind.i64 ((5 : Int) * (↑n : Int)))).toNat *
                                            (1 : Nat))
                                        (OfNat.ofNat (0 : Nat)) ^^^
                                      cs.getD
                                        ((0 : Nat) +
                                          ((wrapI IntKind.i64 (x + (4 : Int))).tmod (5 : Int)).toNat * (1 : Nat))
                                        (OfNat.ofNat (0 : Nat)) ^^^
                                    turn
                                      (cs.getD
                                        ((0 : Nat) +
                                          ((wrapI IntKind.i64 (x + (1 : Int))).tmod (5 : Int)).toNat * (1 : Nat))
                                        (OfNat.ofNat (0 : Nat)))
                                      (1 : Nat))
                                  (is.getD
                                      ((0 : Nat) +
                                        (wrapI IntKind.i64 (x + wrapI IntKind.i64 ((5 : Int) * (↑n : Int)))).toNat *
                                          (1 : Nat))
                                      (0 : Int)).toNat)].length ≤
                        bs.length) &&
                    true))))) &&
        true),
    X.normal,
    [((0 : Nat), V.sl (0 : Nat) (0 : Nat) (1 : Nat) (25 : Nat) cp),
      ((3 : Nat), V.sl (1 : Nat) (0 : Nat) (1 : Nat) (25 : Nat) (some (25 : Nat))),
      ((4 : Nat), V.sl (2 : Nat) (0 : Nat) (1 : Nat) m none), ((5 : Nat), V.int IntKind.i64 i),
      ((6 : Nat), V.sl (3 : Nat) (0 : Nat) (1 : Nat) (5 : Nat) (some (5 : Nat))),
      ((8 : Nat), V.sl (4 : Nat) (0 : Nat) (1 : Nat) (25 : Nat) (some (25 : Nat))), ((9 : Nat), V.int IntKind.i64 x),
      ((10 : Nat), V.int IntKind.i64 (wrapI IntKind.i64 ((↑n : Int) + (1 : Int))))],
    [Blk.b64 xs, Blk.ints is, Blk.b64 rs, Blk.b64 cs,
      Blk.b64
        (bs.set
          ((0 : Nat) +
            (wrapI IntKind.i64
                  ((↑n : Int) +
                    wrapI IntKind.i64
                      ((5 : Int) *
                        (wrapI IntKind.i64
                              (wrapI IntKind.i64 ((2 : Int) * x) + wrapI IntKind.i64 ((3 : Int) * (↑n : Int)))).tmod
                          (5 : Int)))).toNat *
              (1 : Nat))
          (turn
            (xs.getD
                  ((0 : Nat) + (wrapI IntKind.i64 (x + wrapI IntKind.i64 ((5 : Int) * (↑n : Int)))).toNat * (1 : Nat))
                  (OfNat.ofNat (0 : Nat)) ^^^
                cs.getD ((0 : Nat) + ((wrapI IntKind.i64 (x + (4 : Int))).tmod (5 : Int)).toNat * (1 : Nat))
                  (OfNat.ofNat (0 : Nat)) ^^^
              turn
                (cs.getD ((0 : Nat) + ((wrapI IntKind.i64 (x + (1 : Int))).tmod (5 : Int)).toNat * (1 : Nat))
                  (OfNat.ofNat (0 : Nat)))
                (1 : Nat))
            (is.getD
                ((0 : Nat) + (wrapI IntKind.i64 (x + wrapI IntKind.i64 ((5 : Int) * (↑n : Int)))).toNat * (1 : Nat))
                (0 : Int)).toNat))]) := by kernel_rfl
theorem pyA_off (bs : List (BitVec 64)) (cs : List (BitVec 64)) (xs : List (BitVec 64)) (rs : List (BitVec 64)) (is : List Int) (i : Int) (cp : Option Nat) (m : Nat) (x : Int) (n : Nat) :
  execN Pr OT noLoops [((46 : Nat), false)] (100 : Nat) (1 : Nat)
  [(0 : Nat), (3 : Nat), (4 : Nat), (5 : Nat), (6 : Nat), (8 : Nat), (9 : Nat)] (loopBody Go.Proofs.Try.f29 (3 : Nat))
  [((0 : Nat), V.sl (0 : Nat) (0 : Nat) (1 : Nat) (25 : Nat) cp),
    ((3 : Nat), V.sl (1 : Nat) (0 : Nat) (1 : Nat) (25 : Nat) (some (25 : Nat))),
    ((4 : Nat), V.sl (2 : Nat) (0 : Nat) (1 : Nat) m none), ((5 : Nat), V.int IntKind.i64 i),
    ((6 : Nat), V.sl (3 : Nat) (0 : Nat) (1 : Nat) (5 : Nat) (some (5 : Nat))),
    ((8 : Nat), V.sl (4 : Nat) (0 : Nat) (1 : Nat) (25 : Nat) (some (25 : Nat))), ((9 : Nat), V.int IntKind.i64 x),
    ((10 : Nat), V.int IntKind.i64 (↑n : Int))]
  [Blk.b64 xs, Blk.ints is, Blk.b64 rs, Blk.b64 cs, Blk.b64 bs] =
  some
  ((if false = true then decide ((↑n : Int) < (5 : Int)) else !decide ((↑n : Int) < (5 : Int))) && true,
    X.exit (6 : Nat),
    [((0 : Nat), V.sl (0 : Nat) (0 : Nat) (1 : Nat) (25 : Nat) cp),
      ((3 : Nat), V.sl (1 : Nat) (0 : Nat) (1 : Nat) (25 : Nat) (some (25 : Nat))),
      ((4 : Nat), V.sl (2 : Nat) (0 : Nat) (1 : Nat) m none), ((5 : Nat), V.int IntKind.i64 i),
      ((6 : Nat), V.sl (3 : Nat) (0 : Nat) (1 : Nat) (5 : Nat) (some (5 : Nat))),
      ((8 : Nat), V.sl (4 : Nat) (0 : Nat) (1 : Nat) (25 : Nat) (some (25 : Nat))), ((9 : Nat), V.int IntKind.i64 x)],
    [Blk.b64 xs, Blk.ints is, Blk.b64 rs, Blk.b64 cs, Blk.b64 bs]) := by kernel_rfl
def pyA_S : (List (BitVec 64)) × (List (BitVec 64)) × (List (BitVec 64)) × (List (BitVec 64)) × (List Int) × Int × (Option Nat) × Nat × Int → Nat → Fr × Heap := fun ⟨bs, cs, xs, rs, is, i, cp, m, x⟩ n => ([(0, .sl 0 0 1 25 cp), (3, .sl 1 0 1 25 (some 25)), (4, .sl 2 0 1 m none), (5, .int .i64 i), (6, .sl 3 0 1 5 (some 5)), (8, .sl 4 0 1 25 (some 25)), (9, .int .i64 x), (10, .int .i64 n)], [.b64 xs, .ints is, .b64 rs, .b64 cs, .b64 (bY xs cs is x.toNat bs n)])
def pyA_read : Fr → Heap → Option ((List (BitVec 64)) × (List (BitVec 64)) × (List (BitVec 64)) × (List (BitVec 64)) × (List Int) × Int × (Option Nat) × Nat × Int) := fun f h => match f, h with
  | [(0, .sl 0 0 1 25 cp), (3, .sl 1 0 1 25 (some 25)), (4, .sl 2 0 1 m none), (5, .int .i64 i), (6, .sl 3 0 1 5 (some 5)), (8, .sl 4 0 1 25 (some 25)), (9, .int .i64 x), (10, .int .i64 0)], [.b64 xs, .ints is, .b64 rs, .b64 cs, .b64 bs] => some (bs, cs, xs, rs, is, i, cp, m, x)
  | _, _ => none
def pyA_ok : (List (BitVec 64)) × (List (BitVec 64)) × (List (BitVec 64)) × (List (BitVec 64)) × (List Int) × Int × (Option Nat) × Nat × Int → Bool := fun ⟨bs, cs, xs, rs, is, i, cp, m, x⟩ => decide (cs.length = 5) && decide (xs.length = 25) && decide (bs.length = 25) && decide (is = rotI) && decide (0 ≤ x) && decide (x < 5)
def pyA_E : (List (BitVec 64)) × (List (BitVec 64)) × (List (BitVec 64)) × (List (BitVec 64)) × (List Int) × Int × (Option Nat) × Nat × Int → X × Fr × Heap := fun ⟨bs, cs, xs, rs, is, i, cp, m, x⟩ => (.exit 6, [(0, .sl 0 0 1 25 cp), (3, .sl 1 0 1 25 (some 25)), (4, .sl 2 0 1 m none), (5, .int .i64 i), (6, .sl 3 0 1 5 (some 5)), (8, .sl 4 0 1 25 (some 25)), (9, .int .i64 x)], [.b64 xs, .ints is, .b64 rs, .b64 cs, .b64 (bY xs cs is x.toNat bs (5))])
def pyA_k : Nat := 3
def pyA_s : Sm := whS 16 [0,3,4,5,6,8,9,10] pyA_read pyA_ok pyA_E
theorem pyA_at : SmAt Pr Go.Proofs.Try.f29 1 pyA_s pyA_k := by
  refine cnt_at pyA_S (fun ⟨bs, cs, xs, rs, is, i, cp, m, x⟩ => 5) (by kernel_rfl) (by kernel_rfl) ?_ ?_ ?_ ?_
  · intro f g a h
    unfold pyA_read at h
    split at h <;> cases h
    rfl
  · intro a h; cases h
  · rintro ⟨bs, cs, xs, rs, is, i, cp, m, x⟩ hok n hn
    simp only at hn
    simp only [pyA_ok] at hok
    simp only [Bool.and_eq_true, decide_eq_true_eq] at hok
    obtain ⟨⟨⟨⟨⟨h1, h2⟩, h3⟩, h4⟩, h5⟩, h6⟩ := hok
    subst h4
    obtain ⟨u, rfl⟩ : ∃ u : Nat, x = u := ⟨x.toNat, by omega⟩
    have hb := bY_length xs cs rotI u bs n
    have hr := rotI_in (u + 5 * n) (by omega)
    have hl := rotI_length
    refine execN_sound OT_sound mixed (LoopsOk.innerAt LoopsOk.none 3) (by kernel_rfl) (by intro v h; cases h) ((pyA_on ((bY xs cs rotI ((u : Nat) : Int).toNat bs n)) cs xs rs rotI i cp m ((u : Nat) : Int) (n)).trans ?_)
    refine stX ?_ ?_ ?_
    · (try simp (disch := omega) only [tmod_lit, tdiv_lit, mul_lit, add_lit, lit_mul, lit_add, add_nat, mul_nat, sub_lit, lit_sub, sub_nat, wrapI_nat, wrapI_in, Int.toNat_natCast, Nat.mul_one, Nat.zero_add, toNat_lit])
      (try simp only [Bool.and_eq_true, Bool.and_true, Bool.true_and, decide_eq_true_eq, Bool.not_eq_true', decide_eq_false_iff_not, if_true, Bool.false_eq_true, if_false, List.length_set, List.length_append, List.length_replicate, List.length_cons, List.length_nil, Blk.len])
      (repeat' apply And.intro) <;> first | rfl | omega | decide
    · first | rfl | (simp (disch := omega) only [tmod_lit, tdiv_lit, mul_lit, add_lit, lit_mul, lit_add, add_nat, mul_nat, sub_lit, lit_sub, sub_nat, wrapI_nat, wrapI_in, Int.toNat_natCast, Nat.mul_one, Nat.zero_add, toNat_lit] <;> rfl) | (simp (disch := omega) only [tmod_lit, tdiv_lit, mul_lit, add_lit, lit_mul, lit_add, add_nat, mul_nat, sub_lit, lit_sub, sub_nat, wrapI_nat, wrapI_in, Int.toNat_natCast, Nat.mul_one, Nat.zero_add, toNat_lit]; done)
    · first | rfl | (simp (disch := omega) only [tmod_lit, tdiv_lit, mul_lit, add_lit, lit_mul, lit_add, add_nat, mul_nat, sub_lit, lit_sub, sub_nat, wrapI_nat, wrapI_in, Int.toNat_natCast, Nat.mul_one, Nat.zero_add, toNat_lit] <;> rfl) | (simp (disch := omega) only [tmod_lit, tdiv_lit, mul_lit, add_lit, lit_mul, lit_add, add_nat, mul_nat, sub_lit, lit_sub, sub_nat, wrapI_nat, wrapI_in, Int.toNat_natCast, Nat.mul_one, Nat.zero_add, toNat_lit]; done)
  · rintro ⟨bs, cs, xs, rs, is, i, cp, m, x⟩ hok
    simp only [pyA_ok] at hok
    simp only [Bool.and_eq_true, decide_eq_true_eq] at hok
    obtain ⟨⟨⟨⟨⟨h1, h2⟩, h3⟩, h4⟩, h5⟩, h6⟩ := hok
    have := bY_length xs cs is x.toNat bs 5
    refine execN_sound OT_sound mixed (LoopsOk.innerAt LoopsOk.none 3) (by kernel_rfl) (by intro v h; cases h) ((pyA_off ((bY xs cs is x.toNat bs 5)) cs xs rs is i cp m x (5)).trans ?_)
    refine stX ?_ ?_ ?_
    · (try simp (disch := omega) only [tmod_lit, tdiv_lit, mul_lit, add_lit, lit_mul, lit_add, add_nat, mul_nat, sub_lit, lit_sub, sub_nat, wrapI_nat, wrapI_in, Int.toNat_natCast, Nat.mul_one, Nat.zero_add, toNat_lit])
      (try simp only [Bool.and_eq_true, Bool.and_true, Bool.true_and, decide_eq_true_eq, Bool.not_eq_true', decide_eq_false_iff_not, if_true, Bool.false_eq_true, if_false, List.length_set, List.length_append, List.length_replicate, List.length_cons, List.length_nil, Blk.len])
      (repeat' apply And.intro) <;> first | rfl | omega | decide
    · first | rfl | (simp (disch := omega) only [tmod_lit, tdiv_lit, mul_lit, add_lit, lit_mul, lit_add, add_nat, mul_nat, sub_lit, lit_sub, sub_nat, wrapI_nat, wrapI_in, Int.toNat_natCast, Nat.mul_one, Nat.zero_add, toNat_lit] <;> rfl) | (simp (disch := omega) only [tmod_lit, tdiv_lit, mul_lit, add_lit, lit_mul, lit_add, add_nat, mul_nat, sub_lit, lit_sub, sub_nat, wrapI_nat, wrapI_in, Int.toNat_natCast, Nat.mul_one, Nat.zero_add, toNat_lit]; done)
    · first | rfl | (simp (disch := omega) only [tmod_lit, tdiv_lit, mul_lit, add_lit, lit_mul, lit_add, add_nat, mul_nat, sub_lit, lit_sub, sub_nat, wrapI_nat, wrapI_in, Int.toNat_natCast, Nat.mul_one, Nat.zero_add, toNat_lit] <;> rfl) | (simp (disch := omega) only [tmod_lit, tdiv_lit, mul_lit, add_lit, lit_mul, lit_add, add_nat, mul_nat, sub_lit, lit_sub, sub_nat, wrapI_nat, wrapI_in, Int.toNat_natCast, Nat.mul_one, Nat.zero_add, toNat_lit]; done)
theorem pxA_on (bs : List (BitVec 64)) (cs : List (BitVec 64)) (xs : List (BitVec 64)) (rs : List (BitVec 64)) (is : List Int) (i : Int) (cp : Option Nat) (m : Nat) (n : Nat) :
  execN Pr OT (smL (1 : Nat) [pyA_s]) [((42 : Nat), true)] (100 : Nat) (1 : Nat)
  [(0 : Nat), (3 : Nat), (4 : Nat), (5 : Nat), (6 : Nat), (8 : Nat), (9 : Nat)] (loopBody Go.Proofs.Try.f29 (2 : Nat))
  [((0 : Nat), V.sl (0 : Nat) (0 : Nat) (1 : Nat) (25 : Nat) cp),
    ((3 : Nat), V.sl (1 : Nat) (0 : Nat) (1 : Nat) (25 : Nat) (some (25 : Nat))),
    ((4 : Nat), V.sl (2 : Nat) (0 : Nat) (1 : Nat) m none), ((5 : Nat), V.int IntKind.i64 i),
    ((6 : Nat), V.sl (3 : Nat) (0 : Nat) (1 : Nat) (5 : Nat) (some (5 : Nat))),
    ((8 : Nat), V.sl (4 : Nat) (0 : Nat) (1 : Nat) (25 : Nat) (some (25 : Nat))),
    ((9 : Nat), V.int IntKind.i64 (↑n : Int))]
  [Blk.b64 xs, Blk.ints is, Blk.b64 rs, Blk.b64 cs, Blk.b64 bs] =
  some
  ((if true = true then decide ((↑n : Int) < (5 : Int)) else !decide ((↑n : Int) < (5 : Int))) && true &&
      (pyA_ok (bs, cs, xs, rs, is, i, cp, m, (↑n : Int)) && true),
    X.normal,
    [((0 : Nat), V.sl (0 : Nat) (0 : Nat) (1 : Nat) (25 : Nat) cp),
      ((3 : Nat), V.sl (1 : Nat) (0 : Nat) (1 : Nat) (25 : Nat) (some (25 : Nat))),
      ((4 : Nat), V.sl (2 : Nat) (0 : Nat) (1 : Nat) m none), ((5 : Nat), V.int IntKind.i64 i),
      ((6 : Nat), V.sl (3 : Nat) (0 : Nat) (1 : Nat) (5 : Nat) (some (5 : Nat))),
      ((8 : Nat), V.sl (4 : Nat) (0 : Nat) (1 : Nat) (25 : Nat) (some (25 : Nat))),
      ((9 : Nat), V.int IntKind.i64 (wrapI IntKind.i64 ((↑n : Int) + (1 : Int))))],
    [Blk.b64 xs, Blk.ints is, Blk.b64 rs, Blk.b64 cs,
      Blk.b64 (bY xs cs is (↑n : Int).toNat bs (5 : Nat))]) := by kernel_rfl
theorem pxA_off (bs : List (BitVec 64)) (cs : List (BitVec 64)) (xs : List (BitVec 64)) (rs : List (BitVec 64)) (is : List Int) (i : Int) (cp : Option Nat) (m : Nat) (n : Nat) :
  execN Pr OT (smL (1 : Nat) [pyA_s]) [((42 : Nat), false)] (100 : Nat) (1 : Nat)
  [(0 : Nat), (3 : Nat), (4 : Nat), (5 : Nat), (8 : Nat)] (loopBody Go.Proofs.Try.f29 (2 : Nat))
  [((0 : Nat), V.sl (0 : Nat) (0 : Nat) (1 : Nat) (25 : Nat) cp),
    ((3 : Nat), V.sl (1 : Nat) (0 : Nat) (1 : Nat) (25 : Nat) (some (25 : Nat))),
    ((4 : Nat), V.sl (2 : Nat) (0 : Nat) (1 : Nat) m none), ((5 : Nat), V.int IntKind.i64 i),
    ((6 : Nat), V.sl (3 : Nat) (0 : Nat) (1 : Nat) (5 : Nat) (some (5 : Nat))),
    ((8 : Nat), V.sl (4 : Nat) (0 : Nat) (1 : Nat) (25 : Nat) (some (25 : Nat))),
    ((9 : Nat), V.int IntKind.i64 (↑n : Int))]
  [Blk.b64 xs, Blk.ints is, Blk.b64 rs, Blk.b64 cs, Blk.b64 bs] =
  some
  ((if false = true then decide ((↑n : Int) < (5 : Int)) else !decide ((↑n : Int) < (5 : Int))) && true,
    X.exit (4 : Nat),
    [((0 : Nat), V.sl (0 : Nat) (0 : Nat) (1 : Nat) (25 : Nat) cp),
      ((3 : Nat), V.sl (1 : Nat) (0 : Nat) (1 : Nat) (25 : Nat) (some (25 : Nat))),
      ((4 : Nat), V.sl (2 : Nat) (0 : Nat) (1 : Nat) m none), ((5 : Nat), V.int IntKind.i64 i),
      ((8 : Nat), V.sl (3 : Nat) (0 : Nat) (1 : Nat) (25 : Nat) (some (25 : Nat)))],
    [Blk.b64 xs, Blk.ints is, Blk.b64 rs, Blk.b64 bs]) := by kernel_rfl
def pxA_S : (List (BitVec 64)) × (List (BitVec 64)) × (List (BitVec 64)) × (List (BitVec 64)) × (List Int) × Int × (Option Nat) × Nat → Nat → Fr × Heap := fun ⟨bs, cs, xs, rs, is, i, cp, m⟩ n => ([(0, .sl 0 0 1 25 cp), (3, .sl 1 0 1 25 (some 25)), (4, .sl 2 0 1 m none), (5, .int .i64 i), (6, .sl 3 0 1 5 (some 5)), (8, .sl 4 0 1 25 (some 25)), (9, .int .i64 n)], [.b64 xs, .ints is, .b64 rs, .b64 cs, .b64 (bX xs cs is bs n)])
def pxA_read : Fr → Heap → Option ((List (BitVec 64)) × (List (BitVec 64)) × (List (BitVec 64)) × (List (BitVec 64)) × (List Int) × Int × (Option Nat) × Nat) := fun f h => match f, h with
  | [(0, .sl 0 0 1 25 cp), (3, .sl 1 0 1 25 (some 25)), (4, .sl 2 0 1 m none), (5, .int .i64 i), (6, .sl 3 0 1 5 (some 5)), (8, .sl 4 0 1 25 (some 25)), (9, .int .i64 0)], [.b64 xs, .ints is, .b64 rs, .b64 cs, .b64 bs] => some (bs, cs, xs, rs, is, i, cp, m)
  | _, _ => none
def pxA_ok : (List (BitVec 64)) × (List (BitVec 64)) × (List (BitVec 64)) × (List (BitVec 64)) × (List Int) × Int × (Option Nat) × Nat → Bool := fun ⟨bs, cs, xs, rs, is, i, cp, m⟩ => decide (cs.length = 5) && decide (xs.length = 25) && decide (bs.length = 25) && decide (is = rotI)
def pxA_E : (List (BitVec 64)) × (List (BitVec 64)) × (List (BitVec 64)) × (List (BitVec 64)) × (List Int) × Int × (Option Nat) × Nat → X × Fr × Heap := fun ⟨bs, cs, xs, rs, is, i, cp, m⟩ => (.exit 4, [(0, .sl 0 0 1 25 cp), (3, .sl 1 0 1 25 (some 25)), (4, .sl 2 0 1 m none), (5, .int .i64 i), (8, .sl 3 0 1 25 (some 25))], [.b64 xs, .ints is, .b64 rs, .b64 (bX xs cs is bs (5))])
def pxA_k : Nat := 2
def pxA_s : Sm := whS 13 [0,3,4,5,6,8,9] pxA_read pxA_ok pxA_E
theorem pxA_at : SmAt Pr Go.Proofs.Try.f29 1 pxA_s pxA_k := by
  refine cnt_at pxA_S (fun ⟨bs, cs, xs, rs, is, i, cp, m⟩ => 5) (by kernel_rfl) (by kernel_rfl) ?_ ?_ ?_ ?_
  · intro f g a h
    unfold pxA_read at h
    split at h <;> cases h
    rfl
  · intro a h; cases h
  · rintro ⟨bs, cs, xs, rs, is, i, cp, m⟩ hok n hn
    simp only at hn
    simp only [pxA_ok] at hok
    simp only [Bool.and_eq_true, decide_eq_true_eq] at hok
    obtain ⟨⟨⟨h1, h2⟩, h3⟩, h4⟩ := hok
    have hb := bX_length xs cs is bs n
    refine execN_sound OT_sound mixed (LoopsOk.innerAt (LoopsOk.of [(pyA_s, pyA_k)] (by kernel_rfl) (by intro p hp; simp only [List.mem_cons, List.not_mem_nil, or_false] at hp; rcases hp with rfl; exact pyA_at)) 2) (by kernel_rfl) (by intro v h; cases h) ((pxA_on ((bX xs cs is bs n)) cs xs rs is i cp m (n)).trans ?_)
    refine stX ?_ ?_ ?_
    · (try simp (disch := omega) only [tmod_lit, tdiv_lit, mul_lit, add_lit, lit_mul, lit_add, add_nat, mul_nat, sub_lit, lit_sub, sub_nat, wrapI_nat, wrapI_in, Int.toNat_natCast, Nat.mul_one, Nat.zero_add, toNat_lit, pyA_ok])
      (try simp only [Bool.and_eq_true, Bool.and_true, Bool.true_and, decide_eq_true_eq, Bool.not_eq_true', decide_eq_false_iff_not, if_true, Bool.false_eq_true, if_false, List.length_set, List.length_append, List.length_replicate, List.length_cons, List.length_nil, Blk.len])
      (repeat' apply And.intro) <;> first | rfl | omega | decide
    · first | rfl | (simp (disch := omega) only [tmod_lit, tdiv_lit, mul_lit, add_lit, lit_mul, lit_add, add_nat, mul_nat, sub_lit, lit_sub, sub_nat, wrapI_nat, wrapI_in, Int.toNat_natCast, Nat.mul_one, Nat.zero_add, toNat_lit, pyA_ok] <;> rfl) | (simp (disch := omega) only [tmod_lit, tdiv_lit, mul_lit, add_lit, lit_mul, lit_add, add_nat, mul_nat, sub_lit, lit_sub, sub_nat, wrapI_nat, wrapI_in, Int.toNat_natCast, Nat.mul_one, Nat.zero_add, toNat_lit, pyA_ok]; done)
    · first | rfl | (simp (disch := omega) only [tmod_lit, tdiv_lit, mul_lit, add_lit, lit_mul, lit_add, add_nat, mul_nat, sub_lit, lit_sub, sub_nat, wrapI_nat, wrapI_in, Int.toNat_natCast, Nat.mul_one, Nat.zero_add, toNat_lit, pyA_ok] <;> rfl) | (simp (disch := omega) only [tmod_lit, tdiv_lit, mul_lit, add_lit, lit_mul, lit_add, add_nat, mul_nat, sub_lit, lit_sub, sub_nat, wrapI_nat, wrapI_in, Int.toNat_natCast, Nat.mul_one, Nat.zero_add, toNat_lit, pyA_ok]; done)
  · rintro ⟨bs, cs, xs, rs, is, i, cp, m⟩ hok
    simp only [pxA_ok] at hok
    simp only [Bool.and_eq_true, decide_eq_true_eq] at hok
    obtain ⟨⟨⟨h1, h2⟩, h3⟩, h4⟩ := hok
    have := bX_length xs cs is bs 5
    refine execN_sound OT_sound mixed (LoopsOk.innerAt (LoopsOk.of [(pyA_s, pyA_k)] (by kernel_rfl) (by intro p hp; simp only [List.mem_cons, List.not_mem_nil, or_false] at hp; rcases hp with rfl; exact pyA_at)) 2) (by kernel_rfl) (by intro v h; cases h) ((pxA_off ((bX xs cs is bs 5)) cs xs rs is i cp m (5)).trans ?_)
    refine stX ?_ ?_ ?_
    · (try simp (disch := omega) only [tmod_lit, tdiv_lit, mul_lit, add_lit, lit_mul, lit_add, add_nat, mul_nat, sub_lit, lit_sub, sub_nat, wrapI_nat, wrapI_in, Int.toNat_natCast, Nat.mul_one, Nat.zero_add, toNat_lit, pyA_ok])
      (try simp only [Bool.and_eq_true, Bool.and_true, Bool.true_and, decide_eq_true_eq, Bool.not_eq_true', decide_eq_false_iff_not, if_true, Bool.false_eq_true, if_false, List.length_set, List.length_append, List.length_replicate, List.length_cons, List.length_nil, Blk.len])
      (repeat' apply And.intro) <;> first | rfl | omega | decide
    · first | rfl | (simp (disch := omega) only [tmod_lit, tdiv_lit, mul_lit, add_lit, lit_mul, lit_add, add_nat, mul_nat, sub_lit, lit_sub, sub_nat, wrapI_nat, wrapI_in, Int.toNat_natCast, Nat.mul_one, Nat.zero_add, toNat_lit, pyA_ok] <;> rfl) | (simp (disch := omega) only [tmod_lit, tdiv_lit, mul_lit, add_lit, lit_mul, lit_add, add_nat, mul_nat, sub_lit, lit_sub, sub_nat, wrapI_nat, wrapI_in, Int.toNat_natCast, Nat.mul_one, Nat.zero_add, toNat_lit, pyA_ok]; done)
    · first | rfl | (simp (disch := omega) only [tmod_lit, tdiv_lit, mul_lit, add_lit, lit_mul, lit_add, add_nat, mul_nat, sub_lit, lit_sub, sub_nat, wrapI_nat, wrapI_in, Int.toNat_natCast, Nat.mul_one, Nat.zero_add, toNat_lit, pyA_ok] <;> rfl) | (simp (disch := omega) only [tmod_lit, tdiv_lit, mul_lit, add_lit, lit_mul, lit_add, add_nat, mul_nat, sub_lit, lit_sub, sub_nat, wrapI_nat, wrapI_in, Int.toNat_natCast, Nat.mul_one, Nat.zero_add, toNat_lit, pyA_ok]; done)
theorem qyA_on (os : List (BitVec 64)) (bs : List (BitVec 64)) (xs : List (BitVec 64)) (rs : List (BitVec 64)) (is : List Int) (i : Int) (cp : Option Nat) (m : Nat) (x : Int) (n : Nat) :
  execN Pr noOrc noLoops [((97 : Nat), true)] (100 : Nat) (1 : Nat)
  [(0 : Nat), (3 : Nat), (4 : Nat), (5 : Nat), (8 : Nat), (12 : Nat), (13 : Nat), (14 : Nat)]
  (loopBody Go.Proofs.Try.f29 (5 : Nat))
  [((0 : Nat), V.sl (0 : Nat) (0 : Nat) (1 : Nat) (25 : Nat) cp),
    ((3 : Nat), V.sl (1 : Nat) (0 : Nat) (1 : Nat) (25 : Nat) (some (25 : Nat))),
    ((4 : Nat), V.sl (2 : Nat) (0 : Nat) (1 : Nat) m none), ((5 : Nat), V.int IntKind.i64 i),
    ((8 : Nat), V.sl (3 : Nat) (0 : Nat) (1 : Nat) (25 : Nat) (some (25 : Nat))),
    ((12 : Nat), V.sl (4 : Nat) (0 : Nat) (1 : Nat) (25 : Nat) (some (25 : Nat))), ((13 : Nat), V.int IntKind.i64 x),
    ((14 : Nat), V.int IntKind.i64 (↑n : Int))]
  [Blk.b64 xs, Blk.ints is, Blk.b64 rs, Blk.b64 bs, Blk.b64 os] =
  some
  ((if true = true then decide ((↑n : Int) < (5 : Int)) else !decide ((↑n : Int) < (5 : Int))) && true &&
      (decide ((0 : Int) ≤ wrapI IntKind.i64 (x + wrapI IntKind.i64 ((5 : Int) * (↑n : Int)))) &&
            decide (wrapI IntKind.i64 (x + wrapI IntKind.i64 ((5 : Int) * (↑n : Int))) < (25 : Int)) &&
          (decide
              ((0 : Nat) + (wrapI IntKind.i64 (x + wrapI IntKind.i64 ((5 : Int) * (↑n : Int)))).toNat * (1 : Nat) <
                bs.length) &&
            (decide
                  ((0 : Int) ≤
                    wrapI IntKind.i64
                      ((wrapI IntKind.i64 (x + (1 : Int))).tmod (5 : Int) +
                        wrapI IntKind.i64 ((5 : Int) * (↑n : Int)))) &&
                decide
                  (wrapI IntKind.i64
                      ((wrapI IntKind.i64 (x + (1 : Int))).tmod (5 : Int) +
                        wrapI IntKind.i64 ((5 : Int) * (↑n : Int))) <
                    (25 : Int)) &&
              (decide
                  ((0 : Nat) +
                      (wrapI IntKind.i64
                            ((wrapI IntKind.i64 (x + (1 : Int))).tmod (5 : Int) +
                              wrapI IntKind.i64 ((5 : Int) * (↑n : Int)))).toNat *
                        (1 : Nat) <
                    bs.length) &&
                (decide
                      ((0 : Int) ≤
                        wrapI IntKind.i64
                          ((wrapI IntKind.i64 (x + (2 : Int))).tmod (5 : Int) +
                            wrapI IntKind.i64 ((5 : Int) * (↑n : Int)))) &&
                    decide
                      (wrapI IntKind.i64
                          ((wrapI IntKind.i64 (x + (2 : Int))).tmod (5 : Int) +
                            wrapI IntKind.i64 ((5 : Int) * (↑n : Int))) <
                        (25 : Int)) &&
                  (decide
                      ((0 : Nat) +
                          (wrapI IntKind.i64
                                ((wrapI IntKind.i64 (x + (2 : Int))).tmod (5 : Int) +
                                  wrapI IntKind.i64 ((5 : Int) * (↑n : Int)))).toNat *
                            (1 : Nat) <
                        bs.length) &&
                    (decide ((0 : Int) ≤ wrapI IntKind.i64 (x + wrapI IntKind.i64 ((5 : Int) * (↑n : Int)))) &&
                        decide (wrapI IntKind.i64 (x + wrapI IntKind.i64 ((5 : Int) * (↑n : Int))) < (25 : Int)) &&
                      (decide
                          ((0 : Nat) +
                                (wrapI IntKind.i64 (x + wrapI IntKind.i64 ((5 : Int) * (↑n : Int)))).toNat * (1 : Nat) +
                              [V.u64
                                    (bs.getD
                                        ((0 : Nat) +
                                          (wrapI IntKind.i64 (x + wrapI IntKind.i64 ((5 : Int) * (↑n : Int)))).toNat *
                                            (1 : Nat))
                                        (OfNat.ofNat (0 : Nat)) ^^^
                                      ~~~bs.getD
                                            ((0 : Nat) +
                                              (wrapI IntKind.i64
                                                    ((wrapI IntKind.i64 (x + (1 : Int))).tmod (5 : Int) +
                                                      wrapI IntKind.i64 ((5 : Int) * (↑n : Int)))).toNat *
                                                (1 : Nat))
                                            (OfNat.ofNat (0 : Nat)) &&&
                                        bs.getD
                                          ((0 : Nat) +
                                            (wrapI IntKind.i64
                                                  ((wrapI IntKind.i64 (x + (2 : Int))).tmod (5 : Int) +
                                                    wrapI IntKind.i64 ((5 : Int) * (↑n : Int)))).toNat *
                                              (1 : Nat))
                                          (OfNat.ofNat (0 : Nat)))].length ≤
                            os.length) &&
                        true))))))) &&
        true),
    X.normal,
    [((0 : Nat), V.sl (0 : Nat) (0 : Nat) (1 : Nat) (25 : Nat) cp),
      ((3 : Nat), V.sl (1 : Nat) (0 : Nat) (1 : Nat) (25 : Nat) (some (25 : Nat))),
      ((4 : Nat), V.sl (2 : Nat) (0 : Nat) (1 : Nat) m none), ((5 : Nat), V.int IntKind.i64 i),
      ((8 : Nat), V.sl (3 : Nat) (0 : Nat) (1 : Nat) (25 : Nat) (some (25 : Nat))),
      ((12 : Nat), V.sl (4 : Nat) (0 : Nat) (1 : Nat) (25 : Nat) (some (25 : Nat))), ((13 : Nat), V.int IntKind.i64 x),
      ((14 : Nat), V.int IntKind.i64 (wrapI IntKind.i64 ((↑n : Int) + (1 : Int))))],
    [Blk.b64 xs, Blk.ints is, Blk.b64 rs, Blk.b64 bs,
      Blk.b64
        (os.set ((0 : Nat) + (wrapI IntKind.i64 (x + wrapI IntKind.i64 ((5 : Int) * (↑n : Int)))).toNat * (1 : Nat))
          (bs.getD ((0 : Nat) + (wrapI IntKind.i64 (x + wrapI IntKind.i64 ((5 : Int) * (↑n : Int)))).toNat * (1 : Nat))
              (OfNat.ofNat (0 : Nat)) ^^^
            ~~~bs.getD
                  ((0 : Nat) +
                    (wrapI IntKind.i64
                          ((wrapI IntKind.i64 (x + (1 : Int))).tmod (5 : Int) +
                            wrapI IntKind.i64 ((5 : Int) * (↑n : Int)))).toNat *
                      (1 : Nat))
                  (OfNat.ofNat (0 : Nat)) &&&
              bs.getD
                ((0 : Nat) +
                  (wrapI IntKind.i64
                        ((wrapI IntKind.i64 (x + (2 : Int))).tmod (5 : Int) +
                          wrapI IntKind.i64 ((5 : Int) * (↑n : Int)))).toNat *
                    (1 : Nat))
                (OfNat.ofNat (0 : Nat))))]) := by kernel_rfl
theorem qyA_off (os : List (BitVec 64)) (bs : List (BitVec 64)) (xs : List (BitVec 64)) (rs : List (BitVec 64)) (is : List Int) (i : Int) (cp : Option Nat) (m : Nat) (x : Int) (n : Nat) :
  execN Pr noOrc noLoops [((97 : Nat), false)] (100 : Nat) (1 : Nat)
  [(0 : Nat), (3 : Nat), (4 : Nat), (5 : Nat), (8 : Nat), (12 : Nat), (13 : Nat)] (loopBody Go.Proofs.Try.f29 (5 : Nat))
  [((0 : Nat), V.sl (0 : Nat) (0 : Nat) (1 : Nat) (25 : Nat) cp),
    ((3 : Nat), V.sl (1 : Nat) (0 : Nat) (1 : Nat) (25 : Nat) (some (25 : Nat))),
    ((4 : Nat), V.sl (2 : Nat) (0 : Nat) (1 : Nat) m none), ((5 : Nat), V.int IntKind.i64 i),
    ((8 : Nat), V.sl (3 : Nat) (0 : Nat) (1 : Nat) (25 : Nat) (some (25 : Nat))),
    ((12 : Nat), V.sl (4 : Nat) (0 : Nat) (1 : Nat) (25 : Nat) (some (25 : Nat))), ((13 : Nat), V.int IntKind.i64 x),
    ((14 : Nat), V.int IntKind.i64 (↑n : Int))]
  [Blk.b64 xs, Blk.ints is, Blk.b64 rs, Blk.b64 bs, Blk.b64 os] =
  some
  ((if false = true then decide ((↑n : Int) < (5 : Int)) else !decide ((↑n : Int) < (5 : Int))) && true,
    X.exit (10 : Nat),
    [((0 : Nat), V.sl (0 : Nat) (0 : Nat) (1 : Nat) (25 : Nat) cp),
      ((3 : Nat), V.sl (1 : Nat) (0 : Nat) (1 : Nat) (25 : Nat) (some (25 : Nat))),
      ((4 : Nat), V.sl (2 : Nat) (0 : Nat) (1 : Nat) m none), ((5 : Nat), V.int IntKind.i64 i),
      ((8 : Nat), V.sl (3 : Nat) (0 : Nat) (1 : Nat) (25 : Nat) (some (25 : Nat))),
      ((12 : Nat), V.sl (4 : Nat) (0 : Nat) (1 : Nat) (25 : Nat) (some (25 : Nat))), ((13 : Nat), V.int IntKind.i64 x)],
    [Blk.b64 xs, Blk.ints is, Blk.b64 rs, Blk.b64 bs, Blk.b64 os]) := by kernel_rfl
def qyA_S : (List (BitVec 64)) × (List (BitVec 64)) × (List (BitVec 64)) × (List (BitVec 64)) × (List Int) × Int × (Option Nat) × Nat × Int → Nat → Fr × Heap := fun ⟨os, bs, xs, rs, is, i, cp, m, x⟩ n => ([(0, .sl 0 0 1 25 cp), (3, .sl 1 0 1 25 (some 25)), (4, .sl 2 0 1 m none), (5, .int .i64 i), (8, .sl 3 0 1 25 (some 25)), (12, .sl 4 0 1 25 (some 25)), (13, .int .i64 x), (14, .int .i64 n)], [.b64 xs, .ints is, .b64 rs, .b64 bs, .b64 (oY bs x.toNat os n)])
def qyA_read : Fr → Heap → Option ((List (BitVec 64)) × (List (BitVec 64)) × (List (BitVec 64)) × (List (BitVec 64)) × (List Int) × Int × (Option Nat) × Nat × Int) := fun f h => match f, h with
  | [(0, .sl 0 0 1 25 cp), (3, .sl 1 0 1 25 (some 25)), (4, .sl 2 0 1 m none), (5, .int .i64 i), (8, .sl 3 0 1 25 (some 25)), (12, .sl 4 0 1 25 (some 25)), (13, .int .i64 x), (14, .int .i64 0)], [.b64 xs, .ints is, .b64 rs, .b64 bs, .b64 os] => some (os, bs, xs, rs, is, i, cp, m, x)
  | _, _ => none
def qyA_ok : (List (BitVec 64)) × (List (BitVec 64)) × (List (BitVec 64)) × (List (BitVec 64)) × (List Int) × Int × (Option Nat) × Nat × Int → Bool := fun ⟨os, bs, xs, rs, is, i, cp, m, x⟩ => decide (os.length = 25) && decide (bs.length = 25) && decide (0 ≤ x) && decide (x < 5)
def qyA_E : (List (BitVec 64)) × (List (BitVec 64)) × (List (BitVec 64)) × (List (BitVec 64)) × (List Int) × Int × (Option Nat) × Nat × Int → X × Fr × Heap := fun ⟨os, bs, xs, rs, is, i, cp, m, x⟩ => (.exit 10, [(0, .sl 0 0 1 25 cp), (3, .sl 1 0 1 25 (some 25)), (4, .sl 2 0 1 m none), (5, .int .i64 i), (8, .sl 3 0 1 25 (some 25)), (12, .sl 4 0 1 25 (some 25)), (13, .int .i64 x)], [.b64 xs, .ints is, .b64 rs, .b64 bs, .b64 (oY bs x.toNat os (5))])
def qyA_k : Nat := 5
def qyA_s : Sm := whS 25 [0,3,4,5,8,12,13,14] qyA_read qyA_ok qyA_E
theorem qyA_at : SmAt Pr Go.Proofs.Try.f29 1 qyA_s qyA_k := by
  refine cnt_at qyA_S (fun ⟨os, bs, xs, rs, is, i, cp, m, x⟩ => 5) (by kernel_rfl) (by kernel_rfl) ?_ ?_ ?_ ?_
  · intro f g a h
    unfold qyA_read at h
    split at h <;> cases h
    rfl
  · intro a h; cases h
  · rintro ⟨os, bs, xs, rs, is, i, cp, m, x⟩ hok n hn
    simp only at hn
    simp only [qyA_ok] at hok
    simp only [Bool.and_eq_true, decide_eq_true_eq] at hok
    obtain ⟨⟨⟨h1, h2⟩, h3⟩, h4⟩ := hok
    obtain ⟨u, rfl⟩ : ∃ u : Nat, x = u := ⟨x.toNat, by omega⟩
    have hb := oY_length bs u os n
    refine execN_sound (noOrc_sound _) mixed (LoopsOk.innerAt LoopsOk.none 5) (by kernel_rfl) (by intro v h; cases h) ((qyA_on ((oY bs ((u : Nat) : Int).toNat os n)) bs xs rs is i cp m ((u : Nat) : Int) (n)).trans ?_)
    refine stX ?_ ?_ ?_
    · (try simp (disch := omega) only [tmod_lit, tdiv_lit, mul_lit, add_lit, lit_mul, lit_add, add_nat, mul_nat, sub_lit, lit_sub, sub_nat, wrapI_nat, wrapI_in, Int.toNat_natCast, Nat.mul_one, Nat.zero_add, toNat_lit])
      (try simp only [Bool.and_eq_true, Bool.and_true, Bool.true_and, decide_eq_true_eq, Bool.not_eq_true', decide_eq_false_iff_not, if_true, Bool.false_eq_true, if_false, List.length_set, List.length_append, List.length_replicate, List.length_cons, List.length_nil, Blk.len])
      (repeat' apply And.intro) <;> first | rfl | omega | decide
    · first | rfl | (simp (disch := omega) only [tmod_lit, tdiv_lit, mul_lit, add_lit, lit_mul, lit_add, add_nat, mul_nat, sub_lit, lit_sub, sub_nat, wrapI_nat, wrapI_in, Int.toNat_natCast, Nat.mul_one, Nat.zero_add, toNat_lit] <;> rfl) | (simp (disch := omega) only [tmod_lit, tdiv_lit, mul_lit, add_lit, lit_mul, lit_add, add_nat, mul_nat, sub_lit, lit_sub, sub_nat, wrapI_nat, wrapI_in, Int.toNat_natCast, Nat.mul_one, Nat.zero_add, toNat_lit]; done)
    · first | rfl | (simp (disch := omega) only [tmod_lit, tdiv_lit, mul_lit, add_lit, lit_mul, lit_add, add_nat, mul_nat, sub_lit, lit_sub, sub_nat, wrapI_nat, wrapI_in, Int.toNat_natCast, Nat.mul_one, Nat.zero_add, toNat_lit] <;> rfl) | (simp (disch := omega) only [tmod_lit, tdiv_lit, mul_lit, add_lit, lit_mul, lit_add, add_nat, mul_nat, sub_lit, lit_sub, sub_nat, wrapI_nat, wrapI_in, Int.toNat_natCast, Nat.mul_one, Nat.zero_add, toNat_lit]; done)
  · rintro ⟨os, bs, xs, rs, is, i, cp, m, x⟩ hok
    simp only [qyA_ok] at hok
    simp only [Bool.and_eq_true, decide_eq_true_eq] at hok
    obtain ⟨⟨⟨h1, h2⟩, h3⟩, h4⟩ := hok
    have := oY_length bs x.toNat os 5
    refine execN_sound (noOrc_sound _) mixed (LoopsOk.innerAt LoopsOk.none 5) (by kernel_rfl) (by intro v h; cases h) ((qyA_off ((oY bs x.toNat os 5)) bs xs rs is i cp m x (5)).trans ?_)
    refine stX ?_ ?_ ?_
    · (try simp (disch := omega) only [tmod_lit, tdiv_lit, mul_lit, add_lit, lit_mul, lit_add, add_nat, mul_nat, sub_lit, lit_sub, sub_nat, wrapI_nat, wrapI_in, Int.toNat_natCast, Nat.mul_one, Nat.zero_add, toNat_lit])
      (try simp only [Bool.and_eq_true, Bool.and_true, Bool.true_and, decide_eq_true_eq, Bool.not_eq_true', decide_eq_false_iff_not, if_true, Bool.false_eq_true, if_false, List.length_set, List.length_append, List.length_replicate, List.length_cons, List.length_nil, Blk.len])
      (repeat' apply And.intro) <;> first | rfl | omega | decide
    · first | rfl | (simp (disch := omega) only [tmod_lit, tdiv_lit, mul_lit, add_lit, lit_mul, lit_add, add_nat, mul_nat, sub_lit, lit_sub, sub_nat, wrapI_nat, wrapI_in, Int.toNat_natCast, Nat.mul_one, Nat.zero_add, toNat_lit] <;> rfl) | (simp (disch := omega) only [tmod_lit, tdiv_lit, mul_lit, add_lit, lit_mul, lit_add, add_nat, mul_nat, sub_lit, lit_sub, sub_nat, wrapI_nat, wrapI_in, Int.toNat_natCast, Nat.mul_one, Nat.zero_add, toNat_lit]; done)
    · first | rfl | (simp (disch := omega) only [tmod_lit, tdiv_lit, mul_lit, add_lit, lit_mul, lit_add, add_nat, mul_nat, sub_lit, lit_sub, sub_nat, wrapI_nat, wrapI_in, Int.toNat_natCast, Nat.mul_one, Nat.zero_add, toNat_lit] <;> rfl) | (simp (disch := omega) only [tmod_lit, tdiv_lit, mul_lit, add_lit, lit_mul, lit_add, add_nat, mul_nat, sub_lit, lit_sub, sub_nat, wrapI_nat, wrapI_in, Int.toNat_natCast, Nat.mul_one, Nat.zero_add, toNat_lit]; done)
theorem qxA_on (os : List (BitVec 64)) (bs : List (BitVec 64)) (xs : List (BitVec 64)) (rs : List (BitVec 64)) (is : List Int) (i : Int) (cp : Option Nat) (m : Nat) (n : Nat) :
  execN Pr noOrc (smL (1 : Nat) [qyA_s]) [((93 : Nat), true)] (100 : Nat) (1 : Nat)
  [(0 : Nat), (3 : Nat), (4 : Nat), (5 : Nat), (8 : Nat), (12 : Nat), (13 : Nat)] (loopBody Go.Proofs.Try.f29 (4 : Nat))
  [((0 : Nat), V.sl (0 : Nat) (0 : Nat) (1 : Nat) (25 : Nat) cp),
    ((3 : Nat), V.sl (1 : Nat) (0 : Nat) (1 : Nat) (25 : Nat) (some (25 : Nat))),
    ((4 : Nat), V.sl (2 : Nat) (0 : Nat) (1 : Nat) m none), ((5 : Nat), V.int IntKind.i64 i),
    ((8 : Nat), V.sl (3 : Nat) (0 : Nat) (1 : Nat) (25 : Nat) (some (25 : Nat))),
    ((12 : Nat), V.sl (4 : Nat) (0 : Nat) (1 : Nat) (25 : Nat) (some (25 : Nat))),
    ((13 : Nat), V.int IntKind.i64 (↑n : Int))]
  [Blk.b64 xs, Blk.ints is, Blk.b64 rs, Blk.b64 bs, Blk.b64 os] =
  some
  ((if true = true then decide ((↑n : Int) < (5 : Int)) else !decide ((↑n : Int) < (5 : Int))) && true &&
      (qyA_ok (os, bs, xs, rs, is, i, cp, m, (↑n : Int)) && true),
    X.normal,
    [((0 : Nat), V.sl (0 : Nat) (0 : Nat) (1 : Nat) (25 : Nat) cp),
      ((3 : Nat), V.sl (1 : Nat) (0 : Nat) (1 : Nat) (25 : Nat) (some (25 : Nat))),
      ((4 : Nat), V.sl (2 : Nat) (0 : Nat) (1 : Nat) m none), ((5 : Nat), V.int IntKind.i64 i),
      ((8 : Nat), V.sl (3 : Nat) (0 : Nat) (1 : Nat) (25 : Nat) (some (25 : Nat))),
      ((12 : Nat), V.sl (4 : Nat) (0 : Nat) (1 : Nat) (25 : Nat) (some (25 : Nat))),
      ((13 : Nat), V.int IntKind.i64 (wrapI IntKind.i64 ((↑n : Int) + (1 : Int))))],
    [Blk.b64 xs, Blk.ints is, Blk.b64 rs, Blk.b64 bs, Blk.b64 (oY bs (↑n : Int).toNat os (5 : Nat))]) := by kernel_rfl
theorem qxA_off (os : List (BitVec 64)) (bs : List (BitVec 64)) (xs : List (BitVec 64)) (rs : List (BitVec 64)) (is : List Int) (i : Int) (cp : Option Nat) (m : Nat) (n : Nat) :
  execN Pr noOrc (smL (1 : Nat) [qyA_s]) [((93 : Nat), false)] (100 : Nat) (1 : Nat)
  [(0 : Nat), (3 : Nat), (4 : Nat), (5 : Nat), (12 : Nat)] (loopBody Go.Proofs.Try.f29 (4 : Nat))
  [((0 : Nat), V.sl (0 : Nat) (0 : Nat) (1 : Nat) (25 : Nat) cp),
    ((3 : Nat), V.sl (1 : Nat) (0 : Nat) (1 : Nat) (25 : Nat) (some (25 : Nat))),
    ((4 : Nat), V.sl (2 : Nat) (0 : Nat) (1 : Nat) m none), ((5 : Nat), V.int IntKind.i64 i),
    ((8 : Nat), V.sl (3 : Nat) (0 : Nat) (1 : Nat) (25 : Nat) (some (25 : Nat))),
    ((12 : Nat), V.sl (4 : Nat) (0 : Nat) (1 : Nat) (25 : Nat) (some (25 : Nat))),
    ((13 : Nat), V.int IntKind.i64 (↑n : Int))]
  [Blk.b64 xs, Blk.ints is, Blk.b64 rs, Blk.b64 bs, Blk.b64 os] =
  some
  ((if false = true then decide ((↑n : Int) < (5 : Int)) else !decide ((↑n : Int) < (5 : Int))) && true,
    X.exit (8 : Nat),
    [((0 : Nat), V.sl (0 : Nat) (0 : Nat) (1 : Nat) (25 : Nat) cp),
      ((3 : Nat), V.sl (1 : Nat) (0 : Nat) (1 : Nat) (25 : Nat) (some (25 : Nat))),
      ((4 : Nat), V.sl (2 : Nat) (0 : Nat) (1 : Nat) m none), ((5 : Nat), V.int IntKind.i64 i),
      ((12 : Nat), V.sl (3 : Nat) (0 : Nat) (1 : Nat) (25 : Nat) (some (25 : Nat)))],
    [Blk.b64 xs, Blk.ints is, Blk.b64 rs, Blk.b64 os]) := by kernel_rfl
def qxA_S : (List (BitVec 64)) × (List (BitVec 64)) × (List (BitVec 64)) × (List (BitVec 64)) × (List Int) × Int × (Option Nat) × Nat → Nat → Fr × Heap := fun ⟨os, bs, xs, rs, is, i, cp, m⟩ n => ([(0, .sl 0 0 1 25 cp), (3, .sl 1 0 1 25 (some 25)), (4, .sl 2 0 1 m none), (5, .int .i64 i), (8, .sl 3 0 1 25 (some 25)), (12, .sl 4 0 1 25 (some 25)), (13, .int .i64 n)], [.b64 xs, .ints is, .b64 rs, .b64 bs, .b64 (oX bs os n)])
def qxA_read : Fr → Heap → Option ((List (BitVec 64)) × (List (BitVec 64)) × (List (BitVec 64)) × (List (BitVec 64)) × (List Int) × Int × (Option Nat) × Nat) := fun f h => match f, h with
  | [(0, .sl 0 0 1 25 cp), (3, .sl 1 0 1 25 (some 25)), (4, .sl 2 0 1 m none), (5, .int .i64 i), (8, .sl 3 0 1 25 (some 25)), (12, .sl 4 0 1 25 (some 25)), (13, .int .i64 0)], [.b64 xs, .ints is, .b64 rs, .b64 bs, .b64 os] => some (os, bs, xs, rs, is, i, cp, m)
  | _, _ => none
def qxA_ok : (List (BitVec 64)) × (List (BitVec 64)) × (List (BitVec 64)) × (List (BitVec 64)) × (List Int) × Int × (Option Nat) × Nat → Bool := fun ⟨os, bs, xs, rs, is, i, cp, m⟩ => decide (os.length = 25) && decide (bs.length = 25)
def qxA_E : (List (BitVec 64)) × (List (BitVec 64)) × (List (BitVec 64)) × (List (BitVec 64)) × (List Int) × Int × (Option Nat) × Nat → X × Fr × Heap := fun ⟨os, bs, xs, rs, is, i, cp, m⟩ => (.exit 8, [(0, .sl 0 0 1 25 cp), (3, .sl 1 0 1 25 (some 25)), (4, .sl 2 0 1 m none), (5, .int .i64 i), (12, .sl 3 0 1 25 (some 25))], [.b64 xs, .ints is, .b64 rs, .b64 (oX bs os (5))])
def qxA_k : Nat := 4
def qxA_s : Sm := whS 22 [0,3,4,5,8,12,13] qxA_read qxA_ok qxA_E
theorem qxA_at : SmAt Pr Go.Proofs.Try.f29 1 qxA_s qxA_k := by
  refine cnt_at qxA_S (fun ⟨os, bs, xs, rs, is, i, cp, m⟩ => 5) (by kernel_rfl) (by kernel_rfl) ?_ ?_ ?_ ?_
  · intro f g a h
    unfold qxA_read at h
    split at h <;> cases h
    rfl
  · intro a h; cases h
  · rintro ⟨os, bs, xs, rs, is, i, cp, m⟩ hok n hn
    simp only at hn
    simp only [qxA_ok] at hok
    simp only [Bool.and_eq_true, decide_eq_true_eq] at hok
    obtain ⟨h1, h2⟩ := hok
    have hb := oX_length bs os n
    refine execN_sound (noOrc_sound _) mixed (LoopsOk.innerAt (LoopsOk.of [(qyA_s, qyA_k)] (by kernel_rfl) (by intro p hp; simp only [List.mem_cons, List.not_mem_nil, or_false] at hp; rcases hp with rfl; exact qyA_at)) 4) (by kernel_rfl) (by intro v h; cases h) ((qxA_on ((oX bs os n)) bs xs rs is i cp m (n)).trans ?_)
    refine stX ?_ ?_ ?_
    · (try simp (disch := omega) only [tmod_lit, tdiv_lit, mul_lit, add_lit, lit_mul, lit_add, add_nat, mul_nat, sub_lit, lit_sub, sub_nat, wrapI_nat, wrapI_in, Int.toNat_natCast, Nat.mul_one, Nat.zero_add, toNat_lit, qyA_ok])
      (try simp only [Bool.and_eq_true, Bool.and_true, Bool.true_and, decide_eq_true_eq, Bool.not_eq_true', decide_eq_false_iff_not, if_true, Bool.false_eq_true, if_false, List.length_set, List.length_append, List.length_replicate, List.length_cons, List.length_nil, Blk.len])
      (repeat' apply And.intro) <;> first | rfl | omega | decide
    · first | rfl | (simp (disch := omega) only [tmod_lit, tdiv_lit, mul_lit, add_lit, lit_mul, lit_add, add_nat, mul_nat, sub_lit, lit_sub, sub_nat, wrapI_nat, wrapI_in, Int.toNat_natCast, Nat.mul_one, Nat.zero_add, toNat_lit, qyA_ok] <;> rfl) | (simp (disch := omega) only [tmod_lit, tdiv_lit, mul_lit, add_lit, lit_mul, lit_add, add_nat, mul_nat, sub_lit, lit_sub, sub_nat, wrapI_nat, wrapI_in, Int.toNat_natCast, Nat.mul_one, Nat.zero_add, toNat_lit, qyA_ok]; done)
    · first | rfl | (simp (disch := omega) only [tmod_lit, tdiv_lit, mul_lit, add_lit, lit_mul, lit_add, add_nat, mul_nat, sub_lit, lit_sub, sub_nat, wrapI_nat, wrapI_in, Int.toNat_natCast, Nat.mul_one, Nat.zero_add, toNat_lit, qyA_ok] <;> rfl) | (simp (disch := omega) only [tmod_lit, tdiv_lit, mul_lit, add_lit, lit_mul, lit_add, add_nat, mul_nat, sub_lit, lit_sub, sub_nat, wrapI_nat, wrapI_in, Int.toNat_natCast, Nat.mul_one, Nat.zero_add, toNat_lit, qyA_ok]; done)
  · rintro ⟨os, bs, xs, rs, is, i, cp, m⟩ hok
    simp only [qxA_ok] at hok
    simp only [Bool.and_eq_true, decide_eq_true_eq] at hok
    obtain ⟨h1, h2⟩ := hok
    have := oX_length bs os 5
    refine execN_sound (noOrc_sound _) mixed (LoopsOk.innerAt (LoopsOk.of [(qyA_s, qyA_k)] (by kernel_rfl) (by intro p hp; simp only [List.mem_cons, List.not_mem_nil, or_false] at hp; rcases hp with rfl; exact qyA_at)) 4) (by kernel_rfl) (by intro v h; cases h) ((qxA_off ((oX bs os 5)) bs xs rs is i cp m (5)).trans ?_)
    refine stX ?_ ?_ ?_
    · (try simp (disch := omega) only [tmod_lit, tdiv_lit, mul_lit, add_lit, lit_mul, lit_add, add_nat, mul_nat, sub_lit, lit_sub, sub_nat, wrapI_nat, wrapI_in, Int.toNat_natCast, Nat.mul_one, Nat.zero_add, toNat_lit, qyA_ok])
      (try simp only [Bool.and_eq_true, Bool.and_true, Bool.true_and, decide_eq_true_eq, Bool.not_eq_true', decide_eq_false_iff_not, if_true, Bool.false_eq_true, if_false, List.length_set, List.length_append, List.length_replicate, List.length_cons, List.length_nil, Blk.len])
      (repeat' apply And.intro) <;> first | rfl | omega | decide
    · first | rfl | (simp (disch := omega) only [tmod_lit, tdiv_lit, mul_lit, add_lit, lit_mul, lit_add, add_nat, mul_nat, sub_lit, lit_sub, sub_nat, wrapI_nat, wrapI_in, Int.toNat_natCast, Nat.mul_one, Nat.zero_add, toNat_lit, qyA_ok] <;> rfl) | (simp (disch := omega) only [tmod_lit, tdiv_lit, mul_lit, add_lit, lit_mul, lit_add, add_nat, mul_nat, sub_lit, lit_sub, sub_nat, wrapI_nat, wrapI_in, Int.toNat_natCast, Nat.mul_one, Nat.zero_add, toNat_lit, qyA_ok]; done)
    · first | rfl | (simp (disch := omega) only [tmod_lit, tdiv_lit, mul_lit, add_lit, lit_mul, lit_add, add_nat, mul_nat, sub_lit, lit_sub, sub_nat, wrapI_nat, wrapI_in, Int.toNat_natCast, Nat.mul_one, Nat.zero_add, toNat_lit, qyA_ok] <;> rfl) | (simp (disch := omega) only [tmod_lit, tdiv_lit, mul_lit, add_lit, lit_mul, lit_add, add_nat, mul_nat, sub_lit, lit_sub, sub_nat, wrapI_nat, wrapI_in, Int.toNat_natCast, Nat.mul_one, Nat.zero_add, toNat_lit, qyA_ok]; done)

theorem pcB_on (cs : List (BitVec 64)) (xs : List (BitVec 64)) (rs : List (BitVec 64)) (is : List Int) (i : Int) (cp : Option Nat) (m : Nat) (x0 : List (BitVec 64)) (n : Nat) :
  execN Pr noOrc noLoops [((23 : Nat), true)] (100 : Nat) (1 : Nat)
  [(0 : Nat), (3 : Nat), (4 : Nat), (5 : Nat), (6 : Nat), (7 : Nat)] (loopBody Go.Proofs.Try.f29 (1 : Nat))
  [((0 : Nat), V.sl (1 : Nat) (0 : Nat) (1 : Nat) (25 : Nat) cp),
    ((3 : Nat), V.sl (2 : Nat) (0 : Nat) (1 : Nat) (25 : Nat) (some (25 : Nat))),
    ((4 : Nat), V.sl (3 : Nat) (0 : Nat) (1 : Nat) m none), ((5 : Nat), V.int IntKind.i64 i),
    ((6 : Nat), V.sl (4 : Nat) (0 : Nat) (1 : Nat) (5 : Nat) (some (5 : Nat))),
    ((7 : Nat), V.int IntKind.i64 (↑n : Int))]
  [Blk.b64 x0, Blk.b64 xs, Blk.ints is, Blk.b64 rs, Blk.b64 cs] =
  some
  ((if true = true then decide ((↑n : Int) < (25 : Int)) else !decide ((↑n : Int) < (25 : Int))) && true &&
      (decide ((0 : Int) ≤ (↑n : Int).tmod (5 : Int)) && decide ((↑n : Int).tmod (5 : Int) < (5 : Int)) &&
          (decide ((0 : Nat) + ((↑n : Int).tmod (5 : Int)).toNat * (1 : Nat) < cs.length) &&
            (decide ((0 : Int) ≤ (↑n : Int)) && decide ((↑n : Int) < (25 : Int)) &&
              (decide ((0 : Nat) + (↑n : Int).toNat * (1 : Nat) < xs.length) &&
                (decide ((0 : Int) ≤ (↑n : Int).tmod (5 : Int)) && decide ((↑n : Int).tmod (5 : Int) < (5 : Int)) &&
                  (decide
                      ((0 : Nat) + ((↑n : Int).tmod (5 : Int)).toNat * (1 : Nat) +
                          [V.u64
                                (cs.getD ((0 : Nat) + ((↑n : Int).tmod (5 : Int)).toNat * (1 : Nat))
                                    (OfNat.ofNat (0 : Nat)) ^^^
                                  xs.getD ((0 : Nat) + (↑n : Int).toNat * (1 : Nat)) (OfNat.ofNat (0 : Nat)))].length ≤
                        cs.length) &&
                    true))))) &&
        true),
    X.normal,
    [((0 : Nat), V.sl (1 : Nat) (0 : Nat) (1 : Nat) (25 : Nat) cp),
      ((3 : Nat), V.sl (2 : Nat) (0 : Nat) (1 : Nat) (25 : Nat) (some (25 : Nat))),
      ((4 : Nat), V.sl (3 : Nat) (0 : Nat) (1 : Nat) m none), ((5 : Nat), V.int IntKind.i64 i),
      ((6 : Nat), V.sl (4 : Nat) (0 : Nat) (1 : Nat) (5 : Nat) (some (5 : Nat))),
      ((7 : Nat), V.int IntKind.i64 (wrapI IntKind.i64 ((↑n : Int) + (1 : Int))))],
    [Blk.b64 x0, Blk.b64 xs, Blk.ints is, Blk.b64 rs,
      Blk.b64
        (cs.set ((0 : Nat) + ((↑n : Int).tmod (5 : Int)).toNat * (1 : Nat))
          (cs.getD ((0 : Nat) + ((↑n : Int).tmod (5 : Int)).toNat * (1 : Nat)) (OfNat.ofNat (0 : Nat)) ^^^
            xs.getD ((0 : Nat) + (↑n : Int).toNat * (1 : Nat)) (OfNat.ofNat (0 : Nat))))]) := by kernel_rfl
theorem pcB_off (cs : List (BitVec 64)) (xs : List (BitVec 64)) (rs : List (BitVec 64)) (is : List Int) (i : Int) (cp : Option Nat) (m : Nat) (x0 : List (BitVec 64)) (n : Nat) :
  execN Pr noOrc noLoops [((23 : Nat), false)] (100 : Nat) (1 : Nat)
  [(0 : Nat), (3 : Nat), (4 : Nat), (5 : Nat), (6 : Nat)] (loopBody Go.Proofs.Try.f29 (1 : Nat))
  [((0 : Nat), V.sl (1 : Nat) (0 : Nat) (1 : Nat) (25 : Nat) cp),
    ((3 : Nat), V.sl (2 : Nat) (0 : Nat) (1 : Nat) (25 : Nat) (some (25 : Nat))),
    ((4 : Nat), V.sl (3 : Nat) (0 : Nat) (1 : Nat) m none), ((5 : Nat), V.int IntKind.i64 i),
    ((6 : Nat), V.sl (4 : Nat) (0 : Nat) (1 : Nat) (5 : Nat) (some (5 : Nat))),
    ((7 : Nat), V.int IntKind.i64 (↑n : Int))]
  [Blk.b64 x0, Blk.b64 xs, Blk.ints is, Blk.b64 rs, Blk.b64 cs] =
  some
  ((if false = true then decide ((↑n : Int) < (25 : Int)) else !decide ((↑n : Int) < (25 : Int))) && true,
    X.exit (2 : Nat),
    [((0 : Nat), V.sl (1 : Nat) (0 : Nat) (1 : Nat) (25 : Nat) cp),
      ((3 : Nat), V.sl (2 : Nat) (0 : Nat) (1 : Nat) (25 : Nat) (some (25 : Nat))),
      ((4 : Nat), V.sl (3 : Nat) (0 : Nat) (1 : Nat) m none), ((5 : Nat), V.int IntKind.i64 i),
      ((6 : Nat), V.sl (4 : Nat) (0 : Nat) (1 : Nat) (5 : Nat) (some (5 : Nat)))],
    [Blk.b64 x0, Blk.b64 xs, Blk.ints is, Blk.b64 rs, Blk.b64 cs]) := by kernel_rfl
def pcB_S : (List (BitVec 64)) × (List (BitVec 64)) × (List (BitVec 64)) × (List Int) × Int × (Option Nat) × Nat × (List (BitVec 64)) → Nat → Fr × Heap := fun ⟨cs, xs, rs, is, i, cp, m, x0⟩ n => ([(0, .sl 1 0 1 25 cp), (3, .sl 2 0 1 25 (some 25)), (4, .sl 3 0 1 m none), (5, .int .i64 i), (6, .sl 4 0 1 5 (some 5)), (7, .int .i64 n)], [.b64 x0, .b64 xs, .ints is, .b64 rs, .b64 (cN xs cs n)])
def pcB_read : Fr → Heap → Option ((List (BitVec 64)) × (List (BitVec 64)) × (List (BitVec 64)) × (List Int) × Int × (Option Nat) × Nat × (List (BitVec 64))) := fun f h => match f, h with
  | [(0, .sl 1 0 1 25 cp), (3, .sl 2 0 1 25 (some 25)), (4, .sl 3 0 1 m none), (5, .int .i64 i), (6, .sl 4 0 1 5 (some 5)), (7, .int .i64 0)], [.b64 x0, .b64 xs, .ints is, .b64 rs, .b64 cs] => some (cs, xs, rs, is, i, cp, m, x0)
  | _, _ => none
def pcB_ok : (List (BitVec 64)) × (List (BitVec 64)) × (List (BitVec 64)) × (List Int) × Int × (Option Nat) × Nat × (List (BitVec 64)) → Bool := fun ⟨cs, xs, rs, is, i, cp, m, x0⟩ => decide (cs.length = 5) && decide (xs.length = 25)
def pcB_E : (List (BitVec 64)) × (List (BitVec 64)) × (List (BitVec 64)) × (List Int) × Int × (Option Nat) × Nat × (List (BitVec 64)) → X × Fr × Heap := fun ⟨cs, xs, rs, is, i, cp, m, x0⟩ => (.exit 2, [(0, .sl 1 0 1 25 cp), (3, .sl 2 0 1 25 (some 25)), (4, .sl 3 0 1 m none), (5, .int .i64 i), (6, .sl 4 0 1 5 (some 5))], [.b64 x0, .b64 xs, .ints is, .b64 rs, .b64 (cN xs cs (25))])
def pcB_k : Nat := 1
def pcB_s : Sm := whS 8 [0,3,4,5,6,7] pcB_read pcB_ok pcB_E
theorem pcB_at : SmAt Pr Go.Proofs.Try.f29 1 pcB_s pcB_k := by
  refine cnt_at pcB_S (fun ⟨cs, xs, rs, is, i, cp, m, x0⟩ => 25) (by kernel_rfl) (by kernel_rfl) ?_ ?_ ?_ ?_
  · intro f g a h
    unfold pcB_read at h
    split at h <;> cases h
    rfl
  · intro a h; cases h
  · rintro ⟨cs, xs, rs, is, i, cp, m, x0⟩ hok n hn
    simp only at hn
    simp only [pcB_ok] at hok
    simp only [Bool.and_eq_true, decide_eq_true_eq] at hok
    obtain ⟨h1, h2⟩ := hok
    have := cN_length xs cs n
    refine execN_sound (noOrc_sound _) mixed (LoopsOk.innerAt LoopsOk.none 1) (by kernel_rfl) (by intro v h; cases h) ((pcB_on ((cN xs cs n)) xs rs is i cp m x0 (n)).trans ?_)
    refine stX ?_ ?_ ?_
    · (try simp (disch := omega) only [tmod_lit, tdiv_lit, mul_lit, add_lit, lit_mul, lit_add, add_nat, mul_nat, sub_lit, lit_sub, sub_nat, wrapI_nat, wrapI_in, Int.toNat_natCast, Nat.mul_one, Nat.zero_add, toNat_lit])
      (try simp only [Bool.and_eq_true, Bool.and_true, Bool.true_and, decide_eq_true_eq, Bool.not_eq_true', decide_eq_false_iff_not, if_true, Bool.false_eq_true, if_false, List.length_set, List.length_append, List.length_replicate, List.length_cons, List.length_nil, Blk.len])
      (repeat' apply And.intro) <;> first | rfl | omega | decide
    · first | rfl | (simp (disch := omega) only [tmod_lit, tdiv_lit, mul_lit, add_lit, lit_mul, lit_add, add_nat, mul_nat, sub_lit, lit_sub, sub_nat, wrapI_nat, wrapI_in, Int.toNat_natCast, Nat.mul_one, Nat.zero_add, toNat_lit] <;> rfl) | (simp (disch := omega) only [tmod_lit, tdiv_lit, mul_lit, add_lit, lit_mul, lit_add, add_nat, mul_nat, sub_lit, lit_sub, sub_nat, wrapI_nat, wrapI_in, Int.toNat_natCast, Nat.mul_one, Nat.zero_add, toNat_lit]; done)
    · first | rfl | (simp (disch := omega) only [tmod_lit, tdiv_lit, mul_lit, add_lit, lit_mul, lit_add, add_nat, mul_nat, sub_lit, lit_sub, sub_nat, wrapI_nat, wrapI_in, Int.toNat_natCast, Nat.mul_one, Nat.zero_add, toNat_lit] <;> rfl) | (simp (disch := omega) only [tmod_lit, tdiv_lit, mul_lit, add_lit, lit_mul, lit_add, add_nat, mul_nat, sub_lit, lit_sub, sub_nat, wrapI_nat, wrapI_in, Int.toNat_natCast, Nat.mul_one, Nat.zero_add, toNat_lit]; done)
  · rintro ⟨cs, xs, rs, is, i, cp, m, x0⟩ hok
    simp only [pcB_ok] at hok
    simp only [Bool.and_eq_true, decide_eq_true_eq] at hok
    obtain ⟨h1, h2⟩ := hok
    have := cN_length xs cs 25
    refine execN_sound (noOrc_sound _) mixed (LoopsOk.innerAt LoopsOk.none 1) (by kernel_rfl) (by intro v h; cases h) ((pcB_off ((cN xs cs 25)) xs rs is i cp m x0 (25)).trans ?_)
    refine stX ?_ ?_ ?_
    · (try simp (disch := omega) only [tmod_lit, tdiv_lit, mul_lit, add_lit, lit_mul, lit_add, add_nat, mul_nat, sub_lit, lit_sub, sub_nat, wrapI_nat, wrapI_in, Int.toNat_natCast, Nat.mul_one, Nat.zero_add, toNat_lit])
      (try simp only [Bool.and_eq_true, Bool.and_true, Bool.true_and, decide_eq_true_eq, Bool.not_eq_true', decide_eq_false_iff_not, if_true, Bool.false_eq_true, if_false, List.length_set, List.length_append, List.length_replicate, List.length_cons, List.length_nil, Blk.len])
      (repeat' apply And.intro) <;> first | rfl | omega | decide
    · first | rfl | (simp (disch := omega) only [tmod_lit, tdiv_lit, mul_lit, add_lit, lit_mul, lit_add, add_nat, mul_nat, sub_lit, lit_sub, sub_nat, wrapI_nat, wrapI_in, Int.toNat_natCast, Nat.mul_one, Nat.zero_add, toNat_lit] <;> rfl) | (simp (disch := omega) only [tmod_lit, tdiv_lit, mul_lit, add_lit, lit_mul, lit_add, add_nat, mul_nat, sub_lit, lit_sub, sub_nat, wrapI_nat, wrapI_in, Int.toNat_natCast, Nat.mul_one, Nat.zero_add, toNat_lit]; done)
    · first | rfl | (simp (disch := omega) only [tmod_lit, tdiv_lit, mul_lit, add_lit, lit_mul, lit_add, add_nat, mul_nat, sub_lit, lit_sub, sub_nat, wrapI_nat, wrapI_in, Int.toNat_natCast, Nat.mul_one, Nat.zero_add, toNat_lit] <;> rfl) | (simp (disch := omega) only [tmod_lit, tdiv_lit, mul_lit, add_lit, lit_mul, lit_add, add_nat, mul_nat, sub_lit, lit_sub, sub_nat, wrapI_nat, wrapI_in, Int.toNat_natCast, Nat.mul_one, Nat.zero_add, toNat_lit]; done)
theorem pyB_on (bs : List (BitVec 64)) (cs : List (BitVec 64)) (xs : List (BitVec 64)) (rs : List (BitVec 64)) (is : List Int) (i : Int) (cp : Option Nat) (m : Nat) (x0 : List (BitVec 64)) (x : Int) (n : Nat) :
  execN Pr OT noLoops [((46 : Nat), true)] (100 : Nat) (1 : Nat)
  [(0 : Nat), (3 : Nat), (4 : Nat), (5 : Nat), (6 : Nat), (8 : Nat), (9 : Nat), (10 : Nat)]
  (loopBody Go.Proofs.Try.f29 (3 : Nat))
  [((0 : Nat), V.sl (1 : Nat) (0 : Nat) (1 : Nat) (25 : Nat) cp),
    ((3 : Nat), V.sl (2 : Nat) (0 : Nat) (1 : Nat) (25 : Nat) (some (25 : Nat))),
    ((4 : Nat), V.sl (3 : Nat) (0 : Nat) (1 : Nat) m none), ((5 : Nat), V.int IntKind.i64 i),
    ((6 : Nat), V.sl (4 : Nat) (0 : Nat) (1 : Nat) (5 : Nat) (some (5 : Nat))),
    ((8 : Nat), V.sl (5 : Nat) (0 : Nat) (1 : Nat) (25 : Nat) (some (25 : Nat))), ((9 : Nat), V.int IntKind.i64 x),
    ((10 : Nat), V.int IntKind.i64 (↑n : Int))]
  [Blk.b64 x0, Blk.b64 xs, Blk.ints is, Blk.b64 rs, Blk.b64 cs, Blk.b64 bs] =
  some
  ((if true = true then decide ((↑n : Int) < (5 : Int)) else !decide ((↑n : Int) < (5 : Int))) && true &&
      (decide ((0 : Int) ≤ wrapI IntKind.i64 (x + wrapI IntKind.i64 ((5 : Int) * (↑n : Int)))) &&
              decide (wrapI IntKind.i64 (x + wrapI IntKind.i64 ((5 : Int) * (↑n : Int))) < (25 : Int)) &&
            (decide
                ((0 : Nat) + (wrapI IntKind.i64 (x + wrapI IntKind.i64 ((5 : Int) * (↑n : Int)))).toNat * (1 : Nat) <
                  xs.length) &&
              (decide ((0 : Int) ≤ (wrapI IntKind.i64 (x + (4 : Int))).tmod (5 : Int)) &&
                  decide ((wrapI IntKind.i64 (x + (4 : Int))).tmod (5 : Int) < (5 : Int)) &&
                (decide
                    ((0 : Nat) + ((wrapI IntKind.i64 (x + (4 : Int))).tmod (5 : Int)).toNat * (1 : Nat) < cs.length) &&
                  (decide ((0 : Int) ≤ (wrapI IntKind.i64 (x + (1 : Int))).tmod (5 : Int)) &&
                      decide ((wrapI IntKind.i64 (x + (1 : Int))).tmod (5 : Int) < (5 : Int)) &&
                    (decide
                        ((0 : Nat) + ((wrapI IntKind.i64 (x + (1 : Int))).tmod (5 : Int)).toNat * (1 : Nat) <
                          cs.length) &&
                      ((fun x ↦
                            match x with
                            | (a, i) => decide ((0 : Int) ≤ i) && decide (i < (64 : Int)))
                          (cs.getD ((0 : Nat) + ((wrapI IntKind.i64 (x + (1 : Int))).tmod (5 : Int)).toNat * (1 : Nat))
                              (OfNat.ofNat (0 : Nat)),
                            (1 : Int)) &&
                        true)))))) &&
          (decide ((0 : Int) ≤ wrapI IntKind.i64 (x + wrapI IntKind.i64 ((5 : Int) * (↑n : Int)))) &&
              decide (wrapI IntKind.i64 (x + wrapI IntKind.i64 ((5 : Int) * (↑n : Int))) < (25 : Int)) &&
            (decide
                ((0 : Nat) + (wrapI IntKind.i64 (x + wrapI IntKind.i64 ((5 : Int) * (↑n : Int)))).toNat * (1 : Nat) <
                  is.length) &&
              ((fun x ↦
                    match x with
                    | (a, i) => decide ((0 : Int) ≤ i) && decide (i < (64 : Int)))
                  (xs.getD
                          ((0 : Nat) +
                            (wrapI IntKind.i64 (x + wrapI IntKind.i64 ((5 : Int) * (↑n : Int)))).toNat * (1 : Nat))
                          (OfNat.ofNat (0 : Nat)) ^^^
                        cs.getD ((0 : Nat) + ((wrapI IntKind.i64 (x + (4 : Int))).tmod (5 : Int)).toNat * (1 : Nat))
                          (OfNat.ofNat (0 : Nat)) ^^^
                      turn
                        (cs.getD ((0 : Nat) + ((wrapI IntKind.i64 (x + (1 : Int))).tmod (5 : Int)).toNat * (1 : Nat))
                          (OfNat.ofNat (0 : Nat)))
                        (1 : Nat),
                    is.getD
                      ((0 : Nat) +
                        (wrapI IntKind.i64 (x + wrapI IntKind.i64 ((5 : Int) * (↑n : Int)))).toNat * (1 : Nat))
                      (0 : Int)) &&
                (decide
                      ((0 : Int) ≤
                        wrapI IntKind.i64
                          ((↑n : Int) +
                            wrapI IntKind.i64
                              ((5 : Int) *
                                (wrapI IntKind.i64
                                      (wrapI IntKind.i64 ((2 : Int) * x) +
                                        wrapI IntKind.i64 ((3 : Int) * (↑n : Int)))).tmod
                                  (5 : Int)))) &&
                    decide
                      (wrapI IntKind.i64
                          ((↑n : Int) +
                            wrapI IntKind.i64
                              ((5 : Int) *
                                (wrapI IntKind.i64
                                      (wrapI IntKind.i64 ((2 : Int) * x) +
                                        wrapI IntKind.i64 ((3 : Int) * (↑n : Int)))).tmod
                                  (5 : Int))) <
                        (25 : Int)) &&
                  (decide
                      ((0 : Nat) +
                            (wrapI IntKind.i64
                                  ((↑n : Int) +
                                    wrapI IntKind.i64
                                      ((5 : Int) *
                                        (wrapI IntKind.i64
                                              (wrapI IntKind.i64 ((2 : Int) * x) +
                                                wrapI IntKind.i64 ((3 : Int) * (↑n : Int)))).tmod
                                          (5 : Int)))).toNat *
                              (1 : Nat) +
                          [V.u64
                                (turn
                                  (xs.getD
                                        ((0 : Nat) +
                                          (wrapI IntKind.i64 (x + wrapI IntKind.i64 ((5 : Int) * (↑n : Int)))).toNat *
                                            (1 : Nat))
                                        (OfNat.ofNat (0 : Nat)) ^^^
                                      cs.getD
                                        ((0 : Nat) +
                                          ((wrapI IntKind.i64 (x + (4 : Int))).tmod (5 : Int)).toNat * (1 : Nat))
                                        (OfNat.ofNat (0 : Nat)) ^^^
                                    turn
                                      (cs.getD
                                        ((0 : Nat) +
                                          ((wrapI IntKind.i64 (x + (1 : Int))).tmod (5 : Int)).toNat * (1 : Nat))
                                        (OfNat.ofNat (0 : Nat)))
                                      (1 : Nat))
                                  (is.getD
                                      ((0 : Nat) +
                                        (wrapI IntKind.i64 (x + wrapI IntKind.i64 ((5 : Int) * (↑n : Int)))).toNat *
                                          (1 : Nat))
                                      (0 : Int)).toNat)].length ≤
                        bs.length) &&
                    true))))) &&
        true),
    X.normal,
    [((0 : Nat), V.sl (1 : Nat) (0 : Nat) (1 : Nat) (25 : Nat) cp),
      ((3 : Nat), V.sl (2 : Nat) (0 : Nat) (1 : Nat) (25 : Nat) (some (25 : Nat))),
      ((4 : Nat), V.sl (3 : Nat) (0 : Nat) (1 : Nat) m none), ((5 : Nat), V.int IntKind.i64 i),
      ((6 : Nat), V.sl (4 : Nat) (0 : Nat) (1 : Nat) (5 : Nat) (some (5 : Nat))),
      ((8 : Nat), V.sl (5 : Nat) (0 : Nat) (1 : Nat) (25 : Nat) (some (25 : Nat))), ((9 : Nat), V.int IntKind.i64 x),
      ((10 : Nat), V.int IntKind.i64 (wrapI IntKind.i64 ((↑n : Int) + (1 : Int))))],
    [Blk.b64 x0, Blk.b64 xs, Blk.ints is, Blk.b64 rs, Blk.b64 cs,
      Blk.b64
        (bs.set
          ((0 : Nat) +
            (wrapI IntKind.i64
                  ((↑n : Int) +
                    wrapI IntKind.i64
                      ((5 : Int) *
                        (wrapI IntKind.i64
                              (wrapI IntKind.i64 ((2 : Int) * x) + wrapI IntKind.i64 ((3 : Int) * (↑n : Int)))).tmod
                          (5 : Int)))).toNat *
              (1 : Nat))
          (turn
            (xs.getD
                  ((0 : Nat) + (wrapI IntKind.i64 (x + wrapI IntKind.i64 ((5 : Int) * (↑n : Int)))).toNat * (1 : Nat))
                  (OfNat.ofNat (0 : Nat)) ^^^
                cs.getD ((0 : Nat) + ((wrapI IntKind.i64 (x + (4 : Int))).tmod (5 : Int)).toNat * (1 : Nat))
                  (OfNat.ofNat (0 : Nat)) ^^^
              turn
                (cs.getD ((0 : Nat) + ((wrapI IntKind.i64 (x + (1 : Int))).tmod (5 : Int)).toNat * (1 : Nat))
                  (OfNat.ofNat (0 : Nat)))
                (1 : Nat))
            (is.getD
                ((0 : Nat) + (wrapI IntKind.i64 (x + wrapI IntKind.i64 ((5 : Int) * (↑n : Int)))).toNat * (1 : Nat))
                (0 : Int)).toNat))]) := by kernel_rfl
theorem pyB_off (bs : List (BitVec 64)) (cs : List (BitVec 64)) (xs : List (BitVec 64)) (rs : List (BitVec 64)) (is : List Int) (i : Int) (cp : Option Nat) (m : Nat) (x0 : List (BitVec 64)) (x : Int) (n : Nat) :
  execN Pr OT noLoops [((46 : Nat), false)] (100 : Nat) (1 : Nat)
  [(0 : Nat), (3 : Nat), (4 : Nat), (5 : Nat), (6 : Nat), (8 : Nat), (9 : Nat)] (loopBody Go.Proofs.Try.f29 (3 : Nat))
  [((0 : Nat), V.sl (1 : Nat) (0 : Nat) (1 : Nat) (25 : Nat) cp),
    ((3 : Nat), V.sl (2 : Nat) (0 : Nat) (1 : Nat) (25 : Nat) (some (25 : Nat))),
    ((4 : Nat), V.sl (3 : Nat) (0 : Nat) (1 : Nat) m none), ((5 : Nat), V.int IntKind.i64 i),
    ((6 : Nat), V.sl (4 : Nat) (0 : Nat) (1 : Nat) (5 : Nat) (some (5 : Nat))),
    ((8 : Nat), V.sl (5 : Nat) (0 : Nat) (1 : Nat) (25 : Nat) (some (25 : Nat))), ((9 : Nat), V.int IntKind.i64 x),
    ((10 : Nat), V.int IntKind.i64 (↑n : Int))]
  [Blk.b64 x0, Blk.b64 xs, Blk.ints is, Blk.b64 rs, Blk.b64 cs, Blk.b64 bs] =
  some
  ((if false = true then decide ((↑n : Int) < (5 : Int)) else !decide ((↑n : Int) < (5 : Int))) && true,
    X.exit (6 : Nat),
    [((0 : Nat), V.sl (1 : Nat) (0 : Nat) (1 : Nat) (25 : Nat) cp),
      ((3 : Nat), V.sl (2 : Nat) (0 : Nat) (1 : Nat) (25 : Nat) (some (25 : Nat))),
      ((4 : Nat), V.sl (3 : Nat) (0 : Nat) (1 : Nat) m none), ((5 : Nat), V.int IntKind.i64 i),
      ((6 : Nat), V.sl (4 : Nat) (0 : Nat) (1 : Nat) (5 : Nat) (some (5 : Nat))),
      ((8 : Nat), V.sl (5 : Nat) (0 : Nat) (1 : Nat) (25 : Nat) (some (25 : Nat))), ((9 : Nat), V.int IntKind.i64 x)],
    [Blk.b64 x0, Blk.b64 xs, Blk.ints is, Blk.b64 rs, Blk.b64 cs, Blk.b64 bs]) := by kernel_rfl
def pyB_S : (List (BitVec 64)) × (List (BitVec 64)) × (List (BitVec 64)) × (List (BitVec 64)) × (List Int) × Int × (Option Nat) × Nat × (List (BitVec 64)) × Int → Nat → Fr × Heap := fun ⟨bs, cs, xs, rs, is, i, cp, m, x0, x⟩ n => ([(0, .sl 1 0 1 25 cp), (3, .sl 2 0 1 25 (some 25)), (4, .sl 3 0 1 m none), (5, .int .i64 i), (6, .sl 4 0 1 5 (some 5)), (8, .sl 5 0 1 25 (some 25)), (9, .int .i64 x), (10, .int .i64 n)], [.b64 x0, .b64 xs, .ints is, .b64 rs, .b64 cs, .b64 (bY xs cs is x.toNat bs n)])
def pyB_read : Fr → Heap → Option ((List (BitVec 64)) × (List (BitVec 64)) × (List (BitVec 64)) × (List (BitVec 64)) × (List Int) × Int × (Option Nat) × Nat × (List (BitVec 64)) × Int) := fun f h => match f, h with
  | [(0, .sl 1 0 1 25 cp), (3, .sl 2 0 1 25 (some 25)), (4, .sl 3 0 1 m none), (5, .int .i64 i), (6, .sl 4 0 1 5 (some 5)), (8, .sl 5 0 1 25 (some 25)), (9, .int .i64 x), (10, .int .i64 0)], [.b64 x0, .b64 xs, .ints is, .b64 rs, .b64 cs, .b64 bs] => some (bs, cs, xs, rs, is, i, cp, m, x0, x)
  | _, _ => none
def pyB_ok : (List (BitVec 64)) × (List (BitVec 64)) × (List (BitVec 64)) × (List (BitVec 64)) × (List Int) × Int × (Option Nat) × Nat × (List (BitVec 64)) × Int → Bool := fun ⟨bs, cs, xs, rs, is, i, cp, m, x0, x⟩ => decide (cs.length = 5) && decide (xs.length = 25) && decide (bs.length = 25) && decide (is = rotI) && decide (0 ≤ x) && decide (x < 5)
def pyB_E : (List (BitVec 64)) × (List (BitVec 64)) × (List (BitVec 64)) × (List (BitVec 64)) × (List Int) × Int × (Option Nat) × Nat × (List (BitVec 64)) × Int → X × Fr × Heap := fun ⟨bs, cs, xs, rs, is, i, cp, m, x0, x⟩ => (.exit 6, [(0, .sl 1 0 1 25 cp), (3, .sl 2 0 1 25 (some 25)), (4, .sl 3 0 1 m none), (5, .int .i64 i), (6, .sl 4 0 1 5 (some 5)), (8, .sl 5 0 1 25 (some 25)), (9, .int .i64 x)], [.b64 x0, .b64 xs, .ints is, .b64 rs, .b64 cs, .b64 (bY xs cs is x.toNat bs (5))])
def pyB_k : Nat := 3
def pyB_s : Sm := whS 16 [0,3,4,5,6,8,9,10] pyB_read pyB_ok pyB_E
theorem pyB_at : SmAt Pr Go.Proofs.Try.f29 1 pyB_s pyB_k := by
  refine cnt_at pyB_S (fun ⟨bs, cs, xs, rs, is, i, cp, m, x0, x⟩ => 5) (by kernel_rfl) (by kernel_rfl) ?_ ?_ ?_ ?_
  · intro f g a h
    unfold pyB_read at h
    split at h <;> cases h
    rfl
  · intro a h; cases h
  · rintro ⟨bs, cs, xs, rs, is, i, cp, m, x0, x⟩ hok n hn
    simp only at hn
    simp only [pyB_ok] at hok
    simp only [Bool.and_eq_true, decide_eq_true_eq] at hok
    obtain ⟨⟨⟨⟨⟨h1, h2⟩, h3⟩, h4⟩, h5⟩, h6⟩ := hok
    subst h4
    obtain ⟨u, rfl⟩ : ∃ u : Nat, x = u := ⟨x.toNat, by omega⟩
    have hb := bY_length xs cs rotI u bs n
    have hr := rotI_in (u + 5 * n) (by omega)
    have hl := rotI_length
    refine execN_sound OT_sound mixed (LoopsOk.innerAt LoopsOk.none 3) (by kernel_rfl) (by intro v h; cases h) ((pyB_on ((bY xs cs rotI ((u : Nat) : Int).toNat bs n)) cs xs rs rotI i cp m x0 ((u : Nat) : Int) (n)).trans ?_)
    refine stX ?_ ?_ ?_
    · (try simp (disch := omega) only [tmod_lit, tdiv_lit, mul_lit, add_lit, lit_mul, lit_add, add_nat, mul_nat, sub_lit, lit_sub, sub_nat, wrapI_nat, wrapI_in, Int.toNat_natCast, Nat.mul_one, Nat.zero_add, toNat_lit])
      (try simp only [Bool.and_eq_true, Bool.and_true, Bool.true_and, decide_eq_true_eq, Bool.not_eq_true', decide_eq_false_iff_not, if_true, Bool.false_eq_true, if_false, List.length_set, List.length_append, List.length_replicate, List.length_cons, List.length_nil, Blk.len])
      (repeat' apply And.intro) <;> first | rfl | omega | decide
    · first | rfl | (simp (disch := omega) only [tmod_lit, tdiv_lit, mul_lit, add_lit, lit_mul, lit_add, add_nat, mul_nat, sub_lit, lit_sub, sub_nat, wrapI_nat, wrapI_in, Int.toNat_natCast, Nat.mul_one, Nat.zero_add, toNat_lit] <;> rfl) | (simp (disch := omega) only [tmod_lit, tdiv_lit, mul_lit, add_lit, lit_mul, lit_add, add_nat, mul_nat, sub_lit, lit_sub, sub_nat, wrapI_nat, wrapI_in, Int.toNat_natCast, Nat.mul_one, Nat.zero_add, toNat_lit]; done)
    · first | rfl | (simp (disch := omega) only [tmod_lit, tdiv_lit, mul_lit, add_lit, lit_mul, lit_add, add_nat, mul_nat, sub_lit, lit_sub, sub_nat, wrapI_nat, wrapI_in, Int.toNat_natCast, Nat.mul_one, Nat.zero_add, toNat_lit] <;> rfl) | (simp (disch := omega) only [tmod_lit, tdiv_lit, mul_lit, add_lit, lit_mul, lit_add, add_nat, mul_nat, sub_lit, lit_sub, sub_nat, wrapI_nat, wrapI_in, Int.toNat_natCast, Nat.mul_one, Nat.zero_add, toNat_lit]; done)
  · rintro ⟨bs, cs, xs, rs, is, i, cp, m, x0, x⟩ hok
    simp only [pyB_ok] at hok
    simp only [Bool.and_eq_true, decide_eq_true_eq] at hok
    obtain ⟨⟨⟨⟨⟨h1, h2⟩, h3⟩, h4⟩, h5⟩, h6⟩ := hok
    have := bY_length xs cs is x.toNat bs 5
    refine execN_sound OT_sound mixed (LoopsOk.innerAt LoopsOk.none 3) (by kernel_rfl) (by intro v h; cases h) ((pyB_off ((bY xs cs is x.toNat bs 5)) cs xs rs is i cp m x0 x (5)).trans ?_)
    refine stX ?_ ?_ ?_
    · (try simp (disch := omega) only [tmod_lit, tdiv_lit, mul_lit, add_lit, lit_mul, lit_add, add_nat, mul_nat, sub_lit, lit_sub, sub_nat, wrapI_nat, wrapI_in, Int.toNat_natCast, Nat.mul_one, Nat.zero_add, toNat_lit])
      (try simp only [Bool.and_eq_true, Bool.and_true, Bool.true_and, decide_eq_true_eq, Bool.not_eq_true', decide_eq_false_iff_not, if_true, Bool.false_eq_true, if_false, List.length_set, List.length_append, List.length_replicate, List.length_cons, List.length_nil, Blk.len])
      (repeat' apply And.intro) <;> first | rfl | omega | decide
    · first | rfl | (simp (disch := omega) only [tmod_lit, tdiv_lit, mul_lit, add_lit, lit_mul, lit_add, add_nat, mul_nat, sub_lit, lit_sub, sub_nat, wrapI_nat, wrapI_in, Int.toNat_natCast, Nat.mul_one, Nat.zero_add, toNat_lit] <;> rfl) | (simp (disch := omega) only [tmod_lit, tdiv_lit, mul_lit, add_lit, lit_mul, lit_add, add_nat, mul_nat, sub_lit, lit_sub, sub_nat, wrapI_nat, wrapI_in, Int.toNat_natCast, Nat.mul_one, Nat.zero_add, toNat_lit]; done)
    · first | rfl | (simp (disch := omega) only [tmod_lit, tdiv_lit, mul_lit, add_lit, lit_mul, lit_add, add_nat, mul_nat, sub_lit, lit_sub, sub_nat, wrapI_nat, wrapI_in, Int.toNat_natCast, Nat.mul_one, Nat.zero_add, toNat_lit] <;> rfl) | (simp (disch := omega) only [tmod_lit, tdiv_lit, mul_lit, add_lit, lit_mul, lit_add, add_nat, mul_nat, sub_lit, lit_sub, sub_nat, wrapI_nat, wrapI_in, Int.toNat_natCast, Nat.mul_one, Nat.zero_add, toNat_lit]; done)
theorem pxB_on (bs : List (BitVec 64)) (cs : List (BitVec 64)) (xs : List (BitVec 64)) (rs : List (BitVec 64)) (is : List Int) (i : Int) (cp : Option Nat) (m : Nat) (x0 : List (BitVec 64)) (n : Nat) :
  execN Pr OT (smL (1 : Nat) [pyB_s]) [((42 : Nat), true)] (100 : Nat) (1 : Nat)
  [(0 : Nat), (3 : Nat), (4 : Nat), (5 : Nat), (6 : Nat), (8 : Nat), (9 : Nat)] (loopBody Go.Proofs.Try.f29 (2 : Nat))
  [((0 : Nat), V.sl (1 : Nat) (0 : Nat) (1 : Nat) (25 : Nat) cp),
    ((3 : Nat), V.sl (2 : Nat) (0 : Nat) (1 : Nat) (25 : Nat) (some (25 : Nat))),
    ((4 : Nat), V.sl (3 : Nat) (0 : Nat) (1 : Nat) m none), ((5 : Nat), V.int IntKind.i64 i),
    ((6 : Nat), V.sl (4 : Nat) (0 : Nat) (1 : Nat) (5 : Nat) (some (5 : Nat))),
    ((8 : Nat), V.sl (5 : Nat) (0 : Nat) (1 : Nat) (25 : Nat) (some (25 : Nat))),
    ((9 : Nat), V.int IntKind.i64 (↑n : Int))]
  [Blk.b64 x0, Blk.b64 xs, Blk.ints is, Blk.b64 rs, Blk.b64 cs, Blk.b64 bs] =
  some
  ((if true = true then decide ((↑n : Int) < (5 : Int)) else !decide ((↑n : Int) < (5 : Int))) && true &&
      (pyB_ok (bs, cs, xs, rs, is, i, cp, m, x0, (↑n : Int)) && true),
    X.normal,
    [((0 : Nat), V.sl (1 : Nat) (0 : Nat) (1 : Nat) (25 : Nat) cp),
      ((3 : Nat), V.sl (2 : Nat) (0 : Nat) (1 : Nat) (25 : Nat) (some (25 : Nat))),
      ((4 : Nat), V.sl (3 : Nat) (0 : Nat) (1 : Nat) m none), ((5 : Nat), V.int IntKind.i64 i),
      ((6 : Nat), V.sl (4 : Nat) (0 : Nat) (1 : Nat) (5 : Nat) (some (5 : Nat))),
      ((8 : Nat), V.sl (5 : Nat) (0 : Nat) (1 : Nat) (25 : Nat) (some (25 : Nat))),
      ((9 : Nat), V.int IntKind.i64 (wrapI IntKind.i64 ((↑n : Int) + (1 : Int))))],
    [Blk.b64 x0, Blk.b64 xs, Blk.ints is, Blk.b64 rs, Blk.b64 cs,
      Blk.b64 (bY xs cs is (↑n : Int).toNat bs (5 : Nat))]) := by kernel_rfl
theorem pxB_off (bs : List (BitVec 64)) (cs : List (BitVec 64)) (xs : List (BitVec 64)) (rs : List (BitVec 64)) (is : List Int) (i : Int) (cp : Option Nat) (m : Nat) (x0 : List (BitVec 64)) (n : Nat) :
  execN Pr OT (smL (1 : Nat) [pyB_s]) [((42 : Nat), false)] (100 : Nat) (1 : Nat)
  [(0 : Nat), (3 : Nat), (4 : Nat), (5 : Nat), (8 : Nat)] (loopBody Go.Proofs.Try.f29 (2 : Nat))
  [((0 : Nat), V.sl (1 : Nat) (0 : Nat) (1 : Nat) (25 : Nat) cp),
    ((3 : Nat), V.sl (2 : Nat) (0 : Nat) (1 : Nat) (25 : Nat) (some (25 : Nat))),
    ((4 : Nat), V.sl (3 : Nat) (0 : Nat) (1 : Nat) m none), ((5 : Nat), V.int IntKind.i64 i),
    ((6 : Nat), V.sl (4 : Nat) (0 : Nat) (1 : Nat) (5 : Nat) (some (5 : Nat))),
    ((8 : Nat), V.sl (5 : Nat) (0 : Nat) (1 : Nat) (25 : Nat) (some (25 : Nat))),
    ((9 : Nat), V.int IntKind.i64 (↑n : Int))]
  [Blk.b64 x0, Blk.b64 xs, Blk.ints is, Blk.b64 rs, Blk.b64 cs, Blk.b64 bs] =
  some
  ((if false = true then decide ((↑n : Int) < (5 : Int)) else !decide ((↑n : Int) < (5 : Int))) && true,
    X.exit (4 : Nat),
    [((0 : Nat), V.sl (1 : Nat) (0 : Nat) (1 : Nat) (25 : Nat) cp),
      ((3 : Nat), V.sl (2 : Nat) (0 : Nat) (1 : Nat) (25 : Nat) (some (25 : Nat))),
      ((4 : Nat), V.sl (3 : Nat) (0 : Nat) (1 : Nat) m none), ((5 : Nat), V.int IntKind.i64 i),
      ((8 : Nat), V.sl (4 : Nat) (0 : Nat) (1 : Nat) (25 : Nat) (some (25 : Nat)))],
    [Blk.b64 x0, Blk.b64 xs, Blk.ints is, Blk.b64 rs, Blk.b64 bs]) := by kernel_rfl
def pxB_S : (List (BitVec 64)) × (List (BitVec 64)) × (List (BitVec 64)) × (List (BitVec 64)) × (List Int) × Int × (Option Nat) × Nat × (List (BitVec 64)) → Nat → Fr × Heap := fun ⟨bs, cs, xs, rs, is, i, cp, m, x0⟩ n => ([(0, .sl 1 0 1 25 cp), (3, .sl 2 0 1 25 (some 25)), (4, .sl 3 0 1 m none), (5, .int .i64 i), (6, .sl 4 0 1 5 (some 5)), (8, .sl 5 0 1 25 (some 25)), (9, .int .i64 n)], [.b64 x0, .b64 xs, .ints is, .b64 rs, .b64 cs, .b64 (bX xs cs is bs n)])
def pxB_read : Fr → Heap → Option ((List (BitVec 64)) × (List (BitVec 64)) × (List (BitVec 64)) × (List (BitVec 64)) × (List Int) × Int × (Option Nat) × Nat × (List (BitVec 64))) := fun f h => match f, h with
  | [(0, .sl 1 0 1 25 cp), (3, .sl 2 0 1 25 (some 25)), (4, .sl 3 0 1 m none), (5, .int .i64 i), (6, .sl 4 0 1 5 (some 5)), (8, .sl 5 0 1 25 (some 25)), (9, .int .i64 0)], [.b64 x0, .b64 xs, .ints is, .b64 rs, .b64 cs, .b64 bs] => some (bs, cs, xs, rs, is, i, cp, m, x0)
  | _, _ => none
def pxB_ok : (List (BitVec 64)) × (List (BitVec 64)) × (List (BitVec 64)) × (List (BitVec 64)) × (List Int) × Int × (Option Nat) × Nat × (List (BitVec 64)) → Bool := fun ⟨bs, cs, xs, rs, is, i, cp, m, x0⟩ => decide (cs.length = 5) && decide (xs.length = 25) && decide (bs.length = 25) && decide (is = rotI)
def pxB_E : (List (BitVec 64)) × (List (BitVec 64)) × (List (BitVec 64)) × (List (BitVec 64)) × (List Int) × Int × (Option Nat) × Nat × (List (BitVec 64)) → X × Fr × Heap := fun ⟨bs, cs, xs, rs, is, i, cp, m, x0⟩ => (.exit 4, [(0, .sl 1 0 1 25 cp), (3, .sl 2 0 1 25 (some 25)), (4, .sl 3 0 1 m none), (5, .int .i64 i), (8, .sl 4 0 1 25 (some 25))], [.b64 x0, .b64 xs, .ints is, .b64 rs, .b64 (bX xs cs is bs (5))])
def pxB_k : Nat := 2
def pxB_s : Sm := whS 13 [0,3,4,5,6,8,9] pxB_read pxB_ok pxB_E
theorem pxB_at : SmAt Pr Go.Proofs.Try.f29 1 pxB_s pxB_k := by
  refine cnt_at pxB_S (fun ⟨bs, cs, xs, rs, is, i, cp, m, x0⟩ => 5) (by kernel_rfl) (by kernel_rfl) ?_ ?_ ?_ ?_
  · intro f g a h
    unfold pxB_read at h
    split at h <;> cases h
    rfl
  · intro a h; cases h
  · rintro ⟨bs, cs, xs, rs, is, i, cp, m, x0⟩ hok n hn
    simp only at hn
    simp only [pxB_ok] at hok
    simp only [Bool.and_eq_true, decide_eq_true_eq] at hok
    obtain ⟨⟨⟨h1, h2⟩, h3⟩, h4⟩ := hok
    have hb := bX_length xs cs is bs n
    refine execN_sound OT_sound mixed (LoopsOk.innerAt (LoopsOk.of [(pyB_s, pyB_k)] (by kernel_rfl) (by intro p hp; simp only [List.mem_cons, List.not_mem_nil, or_false] at hp; rcases hp with rfl; exact pyB_at)) 2) (by kernel_rfl) (by intro v h; cases h) ((pxB_on ((bX xs cs is bs n)) cs xs rs is i cp m x0 (n)).trans ?_)
    refine stX ?_ ?_ ?_
    · (try simp (disch := omega) only [tmod_lit, tdiv_lit, mul_lit, add_lit, lit_mul, lit_add, add_nat, mul_nat, sub_lit, lit_sub, sub_nat, wrapI_nat, wrapI_in, Int.toNat_natCast, Nat.mul_one, Nat.zero_add, toNat_lit, pyB_ok])
      (try simp only [Bool.and_eq_true, Bool.and_true, Bool.true_and, decide_eq_true_eq, Bool.not_eq_true', decide_eq_false_iff_not, if_true, Bool.false_eq_true, if_false, List.length_set, List.length_append, List.length_replicate, List.length_cons, List.length_nil, Blk.len])
      (repeat' apply And.intro) <;> first | rfl | omega | decide
    · first | rfl | (simp (disch := omega) only [tmod_lit, tdiv_lit, mul_lit, add_lit, lit_mul, lit_add, add_nat, mul_nat, sub_lit, lit_sub, sub_nat, wrapI_nat, wrapI_in, Int.toNat_natCast, Nat.mul_one, Nat.zero_add, toNat_lit, pyB_ok] <;> rfl) | (simp (disch := omega) only [tmod_lit, tdiv_lit, mul_lit, add_lit, lit_mul, lit_add, add_nat, mul_nat, sub_lit, lit_sub, sub_nat, wrapI_nat, wrapI_in, Int.toNat_natCast, Nat.mul_one, Nat.zero_add, toNat_lit, pyB_ok]; done)
    · first | rfl | (simp (disch := omega) only [tmod_lit, tdiv_lit, mul_lit, add_lit, lit_mul, lit_add, add_nat, mul_nat, sub_lit, lit_sub, sub_nat, wrapI_nat, wrapI_in, Int.toNat_natCast, Nat.mul_one, Nat.zero_add, toNat_lit, pyB_ok] <;> rfl) | (simp (disch := omega) only [tmod_lit, tdiv_lit, mul_lit, add_lit, lit_mul, lit_add, add_nat, mul_nat, sub_lit, lit_sub, sub_nat, wrapI_nat, wrapI_in, Int.toNat_natCast, Nat.mul_one, Nat.zero_add, toNat_lit, pyB_ok]; done)
  · rintro ⟨bs, cs, xs, rs, is, i, cp, m, x0⟩ hok
    simp only [pxB_ok] at hok
    simp only [Bool.and_eq_true, decide_eq_true_eq] at hok
    obtain ⟨⟨⟨h1, h2⟩, h3⟩, h4⟩ := hok
    have := bX_length xs cs is bs 5
    refine execN_sound OT_sound mixed (LoopsOk.innerAt (LoopsOk.of [(pyB_s, pyB_k)] (by kernel_rfl) (by intro p hp; simp only [List.mem_cons, List.not_mem_nil, or_false] at hp; rcases hp with rfl; exact pyB_at)) 2) (by kernel_rfl) (by intro v h; cases h) ((pxB_off ((bX xs cs is bs 5)) cs xs rs is i cp m x0 (5)).trans ?_)
    refine stX ?_ ?_ ?_
    · (try simp (disch := omega) only [tmod_lit, tdiv_lit, mul_lit, add_lit, lit_mul, lit_add, add_nat, mul_nat, sub_lit, lit_sub, sub_nat, wrapI_nat, wrapI_in, Int.toNat_natCast, Nat.mul_one, Nat.zero_add, toNat_lit, pyB_ok])
      (try simp only [Bool.and_eq_true, Bool.and_true, Bool.true_and, decide_eq_true_eq, Bool.not_eq_true', decide_eq_false_iff_not, if_true, Bool.false_eq_true, if_false, List.length_set, List.length_append, List.length_replicate, List.length_cons, List.length_nil, Blk.len])
      (repeat' apply And.intro) <;> first | rfl | omega | decide
    · first | rfl | (simp (disch := omega) only [tmod_lit, tdiv_lit, mul_lit, add_lit, lit_mul, lit_add, add_nat, mul_nat, sub_lit, lit_sub, sub_nat, wrapI_nat, wrapI_in, Int.toNat_natCast, Nat.mul_one, Nat.zero_add, toNat_lit, pyB_ok] <;> rfl) | (simp (disch := omega) only [tmod_lit, tdiv_lit, mul_lit, add_lit, lit_mul, lit_add, add_nat, mul_nat, sub_lit, lit_sub, sub_nat, wrapI_nat, wrapI_in, Int.toNat_natCast, Nat.mul_one, Nat.zero_add, toNat_lit, pyB_ok]; done)
    · first | rfl | (simp (disch := omega) only [tmod_lit, tdiv_lit, mul_lit, add_lit, lit_mul, lit_add, add_nat, mul_nat, sub_lit, lit_sub, sub_nat, wrapI_nat, wrapI_in, Int.toNat_natCast, Nat.mul_one, Nat.zero_add, toNat_lit, pyB_ok] <;> rfl) | (simp (disch := omega) only [tmod_lit, tdiv_lit, mul_lit, add_lit, lit_mul, lit_add, add_nat, mul_nat, sub_lit, lit_sub, sub_nat, wrapI_nat, wrapI_in, Int.toNat_natCast, Nat.mul_one, Nat.zero_add, toNat_lit, pyB_ok]; done)
theorem qyB_on (os : List (BitVec 64)) (bs : List (BitVec 64)) (xs : List (BitVec 64)) (rs : List (BitVec 64)) (is : List Int) (i : Int) (cp : Option Nat) (m : Nat) (x0 : List (BitVec 64)) (x : Int) (n : Nat) :
  execN Pr noOrc noLoops [((97 : Nat), true)] (100 : Nat) (1 : Nat)
  [(0 : Nat), (3 : Nat), (4 : Nat), (5 : Nat), (8 : Nat), (12 : Nat), (13 : Nat), (14 : Nat)]
  (loopBody Go.Proofs.Try.f29 (5 : Nat))
  [((0 : Nat), V.sl (1 : Nat) (0 : Nat) (1 : Nat) (25 : Nat) cp),
    ((3 : Nat), V.sl (2 : Nat) (0 : Nat) (1 : Nat) (25 : Nat) (some (25 : Nat))),
    ((4 : Nat), V.sl (3 : Nat) (0 : Nat) (1 : Nat) m none), ((5 : Nat), V.int IntKind.i64 i),
    ((8 : Nat), V.sl (4 : Nat) (0 : Nat) (1 : Nat) (25 : Nat) (some (25 : Nat))),
    ((12 : Nat), V.sl (5 : Nat) (0 : Nat) (1 : Nat) (25 : Nat) (some (25 : Nat))), ((13 : Nat), V.int IntKind.i64 x),
    ((14 : Nat), V.int IntKind.i64 (↑n : Int))]
  [Blk.b64 x0, Blk.b64 xs, Blk.ints is, Blk.b64 rs, Blk.b64 bs, Blk.b64 os] =
  some
  ((if true = true then decide ((↑n : Int) < (5 : Int)) else !decide ((↑n : Int) < (5 : Int))) && true &&
      (decide ((0 : Int) ≤ wrapI IntKind.i64 (x + wrapI IntKind.i64 ((5 : Int) * (↑n : Int)))) &&
            decide (wrapI IntKind.i64 (x + wrapI IntKind.i64 ((5 : Int) * (↑n : Int))) < (25 : Int)) &&
          (decide
              ((0 : Nat) + (wrapI IntKind.i64 (x + wrapI IntKind.i64 ((5 : Int) * (↑n : Int)))).toNat * (1 : Nat) <
                bs.length) &&
            (decide
                  ((0 : Int) ≤
                    wrapI IntKind.i64
                      ((wrapI IntKind.i64 (x + (1 : Int))).tmod (5 : Int) +
                        wrapI IntKind.i64 ((5 : Int) * (↑n : Int)))) &&
                decide
                  (wrapI IntKind.i64
                      ((wrapI IntKind.i64 (x + (1 : Int))).tmod (5 : Int) +
                        wrapI IntKind.i64 ((5 : Int) * (↑n : Int))) <
                    (25 : Int)) &&
              (decide
                  ((0 : Nat) +
                      (wrapI IntKind.i64
                            ((wrapI IntKind.i64 (x + (1 : Int))).tmod (5 : Int) +
                              wrapI IntKind.i64 ((5 : Int) * (↑n : Int)))).toNat *
                        (1 : Nat) <
                    bs.length) &&
                (decide
                      ((0 : Int) ≤
                        wrapI IntKind.i64
                          ((wrapI IntKind.i64 (x + (2 : Int))).tmod (5 : Int) +
                            wrapI IntKind.i64 ((5 : Int) * (↑n : Int)))) &&
                    decide
                      (wrapI IntKind.i64
                          ((wrapI IntKind.i64 (x + (2 : Int))).tmod (5 : Int) +
                            wrapI IntKind.i64 ((5 : Int) * (↑n : Int))) <
                        (25 : Int)) &&
                  (decide
                      ((0 : Nat) +
                          (wrapI IntKind.i64
                                ((wrapI IntKind.i64 (x + (2 : Int))).tmod (5 : Int) +
                                  wrapI IntKind.i64 ((5 : Int) * (↑n : Int)))).toNat *
                            (1 : Nat) <
                        bs.length) &&
                    (decide ((0 : Int) ≤ wrapI IntKind.i64 (x + wrapI IntKind.i64 ((5 : Int) * (↑n : Int)))) &&
                        decide (wrapI IntKind.i64 (x + wrapI IntKind.i64 ((5 : Int) * (↑n : Int))) < (25 : Int)) &&
                      (decide
                          ((0 : Nat) +
                                (wrapI IntKind.i64 (x + wrapI IntKind.i64 ((5 : Int) * (↑n : Int)))).toNat * (1 : Nat) +
                              [V.u64
                                    (bs.getD
                                        ((0 : Nat) +
                                          (wrapI IntKind.i64 (x + wrapI IntKind.i64 ((5 : Int) * (↑n : Int)))).toNat *
                                            (1 : Nat))
                                        (OfNat.ofNat (0 : Nat)) ^^^
                                      ~~~bs.getD
                                            ((0 : Nat) +
                                              (wrapI IntKind.i64
                                                    ((wrapI IntKind.i64 (x + (1 : Int))).tmod (5 : Int) +
                                                      wrapI IntKind.i64 ((5 : Int) * (↑n : Int)))).toNat *
                                                (1 : Nat))
                                            (OfNat.ofNat (0 : Nat)) &&&
                                        bs.getD
                                          ((0 : Nat) +
                                            (wrapI IntKind.i64
                                                  ((wrapI IntKind.i64 (x + (2 : Int))).tmod (5 : Int) +
                                                    wrapI IntKind.i64 ((5 : Int) * (↑n : Int)))).toNat *
                                              (1 : Nat))
                                          (OfNat.ofNat (0 : Nat)))].length ≤
                            os.length) &&
                        true))))))) &&
        true),
    X.normal,
    [((0 : Nat), V.sl (1 : Nat) (0 : Nat) (1 : Nat) (25 : Nat) cp),
      ((3 : Nat), V.sl (2 : Nat) (0 : Nat) (1 : Nat) (25 : Nat) (some (25 : Nat))),
      ((4 : Nat), V.sl (3 : Nat) (0 : Nat) (1 : Nat) m none), ((5 : Nat), V.int IntKind.i64 i),
      ((8 : Nat), V.sl (4 : Nat) (0 : Nat) (1 : Nat) (25 : Nat) (some (25 : Nat))),
      ((12 : Nat), V.sl (5 : Nat) (0 : Nat) (1 : Nat) (25 : Nat) (some (25 : Nat))), ((13 : Nat), V.int IntKind.i64 x),
      ((14 : Nat), V.int IntKind.i64 (wrapI IntKind.i64 ((↑n : Int) + (1 : Int))))],
    [Blk.b64 x0, Blk.b64 xs, Blk.ints is, Blk.b64 rs, Blk.b64 bs,
      Blk.b64
        (os.set ((0 : Nat) + (wrapI IntKind.i64 (x + wrapI IntKind.i64 ((5 : Int) * (↑n : Int)))).toNat * (1 : Nat))
          (bs.getD ((0 : Nat) + (wrapI IntKind.i64 (x + wrapI IntKind.i64 ((5 : Int) * (↑n : Int)))).toNat * (1 : Nat))
              (OfNat.ofNat (0 : Nat)) ^^^
            ~~~bs.getD
                  ((0 : Nat) +
                    (wrapI IntKind.i64
                          ((wrapI IntKind.i64 (x + (1 : Int))).tmod (5 : Int) +
                            wrapI IntKind.i64 ((5 : Int) * (↑n : Int)))).toNat *
                      (1 : Nat))
                  (OfNat.ofNat (0 : Nat)) &&&
              bs.getD
                ((0 : Nat) +
                  (wrapI IntKind.i64
                        ((wrapI IntKind.i64 (x + (2 : Int))).tmod (5 : Int) +
                          wrapI IntKind.i64 ((5 : Int) * (↑n : Int)))).toNat *
                    (1 : Nat))
                (OfNat.ofNat (0 : Nat))))]) := by kernel_rfl
theorem qyB_off (os : List (BitVec 64)) (bs : List (BitVec 64)) (xs : List (BitVec 64)) (rs : List (BitVec 64)) (is : List Int) (i : Int) (cp : Option Nat) (m : Nat) (x0 : List (BitVec 64)) (x : Int) (n : Nat) :
  execN Pr noOrc noLoops [((97 : Nat), false)] (100 : Nat) (1 : Nat)
  [(0 : Nat), (3 : Nat), (4 : Nat), (5 : Nat), (8 : Nat), (12 : Nat), (13 : Nat)] (loopBody Go.Proofs.Try.f29 (5 : Nat))
  [((0 : Nat), V.sl (1 : Nat) (0 : Nat) (1 : Nat) (25 : Nat) cp),
    ((3 : Nat), V.sl (2 : Nat) (0 : Nat) (1 : Nat) (25 : Nat) (some (25 : Nat))),
    ((4 : Nat), V.sl (3 : Nat) (0 : Nat) (1 : Nat) m none), ((5 : Nat), V.int IntKind.i64 i),
    ((8 : Nat), V.sl (4 : Nat) (0 : Nat) (1 : Nat) (25 : Nat) (some (25 : Nat))),
    ((12 : Nat), V.sl (5 : Nat) (0 : Nat) (1 : Nat) (25 : Nat) (some (25 : Nat))), ((13 : Nat), V.int IntKind.i64 x),
    ((14 : Nat), V.int IntKind.i64 (↑n : Int))]
  [Blk.b64 x0, Blk.b64 xs, Blk.ints is, Blk.b64 rs, Blk.b64 bs, Blk.b64 os] =
  some
  ((if false = true then decide ((↑n : Int) < (5 : Int)) else !decide ((↑n : Int) < (5 : Int))) && true,
    X.exit (10 : Nat),
    [((0 : Nat), V.sl (1 : Nat) (0 : Nat) (1 : Nat) (25 : Nat) cp),
      ((3 : Nat), V.sl (2 : Nat) (0 : Nat) (1 : Nat) (25 : Nat) (some (25 : Nat))),
      ((4 : Nat), V.sl (3 : Nat) (0 : Nat) (1 : Nat) m none), ((5 : Nat), V.int IntKind.i64 i),
      ((8 : Nat), V.sl (4 : Nat) (0 : Nat) (1 : Nat) (25 : Nat) (some (25 : Nat))),
      ((12 : Nat), V.sl (5 : Nat) (0 : Nat) (1 : Nat) (25 : Nat) (some (25 : Nat))), ((13 : Nat), V.int IntKind.i64 x)],
    [Blk.b64 x0, Blk.b64 xs, Blk.ints is, Blk.b64 rs, Blk.b64 bs, Blk.b64 os]) := by kernel_rfl
def qyB_S : (List (BitVec 64)) × (List (BitVec 64)) × (List (BitVec 64)) × (List (BitVec 64)) × (List Int) × Int × (Option Nat) × Nat × (List (BitVec 64)) × Int → Nat → Fr × Heap := fun ⟨os, bs, xs, rs, is, i, cp, m, x0, x⟩ n => ([(0, .sl 1 0 1 25 cp), (3, .sl 2 0 1 25 (some 25)), (4, .sl 3 0 1 m none), (5, .int .i64 i), (8, .sl 4 0 1 25 (some 25)), (12, .sl 5 0 1 25 (some 25)), (13, .int .i64 x), (14, .int .i64 n)], [.b64 x0, .b64 xs, .ints is, .b64 rs, .b64 bs, .b64 (oY bs x.toNat os n)])
def qyB_read : Fr → Heap → Option ((List (BitVec 64)) × (List (BitVec 64)) × (List (BitVec 64)) × (List (BitVec 64)) × (List Int) × Int × (Option Nat) × Nat × (List (BitVec 64)) × Int) := fun f h => match f, h with
  | [(0, .sl 1 0 1 25 cp), (3, .sl 2 0 1 25 (some 25)), (4, .sl 3 0 1 m none), (5, .int .i64 i), (8, .sl 4 0 1 25 (some 25)), (12, .sl 5 0 1 25 (some 25)), (13, .int .i64 x), (14, .int .i64 0)], [.b64 x0, .b64 xs, .ints is, .b64 rs, .b64 bs, .b64 os] => some (os, bs, xs, rs, is, i, cp, m, x0, x)
  | _, _ => none
def qyB_ok : (List (BitVec 64)) × (List (BitVec 64)) × (List (BitVec 64)) × (List (BitVec 64)) × (List Int) × Int × (Option Nat) × Nat × (List (BitVec 64)) × Int → Bool := fun ⟨os, bs, xs, rs, is, i, cp, m, x0, x⟩ => decide (os.length = 25) && decide (bs.length = 25) && decide (0 ≤ x) && decide (x < 5)
def qyB_E : (List (BitVec 64)) × (List (BitVec 64)) × (List (BitVec 64)) × (List (BitVec 64)) × (List Int) × Int × (Option Nat) × Nat × (List (BitVec 64)) × Int → X × Fr × Heap := fun ⟨os, bs, xs, rs, is, i, cp, m, x0, x⟩ => (.exit 10, [(0, .sl 1 0 1 25 cp), (3, .sl 2 0 1 25 (some 25)), (4, .sl 3 0 1 m none), (5, .int .i64 i), (8, .sl 4 0 1 25 (some 25)), (12, .sl 5 0 1 25 (some 25)), (13, .int .i64 x)], [.b64 x0, .b64 xs, .ints is, .b64 rs, .b64 bs, .b64 (oY bs x.toNat os (5))])
def qyB_k : Nat := 5
def qyB_s : Sm := whS 25 [0,3,4,5,8,12,13,14] qyB_read qyB_ok qyB_E
theorem qyB_at : SmAt Pr Go.Proofs.Try.f29 1 qyB_s qyB_k := by
  refine cnt_at qyB_S (fun ⟨os, bs, xs, rs, is, i, cp, m, x0, x⟩ => 5) (by kernel_rfl) (by kernel_rfl) ?_ ?_ ?_ ?_
  · intro f g a h
    unfold qyB_read at h
    split at h <;> cases h
    rfl
  · intro a h; cases h
  · rintro ⟨os, bs, xs, rs, is, i, cp, m, x0, x⟩ hok n hn
    simp only at hn
    simp only [qyB_ok] at hok
    simp only [Bool.and_eq_true, decide_eq_true_eq] at hok
    obtain ⟨⟨⟨h1, h2⟩, h3⟩, h4⟩ := hok
    obtain ⟨u, rfl⟩ : ∃ u : Nat, x = u := ⟨x.toNat, by omega⟩
    have hb := oY_length bs u os n
    refine execN_sound (noOrc_sound _) mixed (LoopsOk.innerAt LoopsOk.none 5) (by kernel_rfl) (by intro v h; cases h) ((qyB_on ((oY bs ((u : Nat) : Int).toNat os n)) bs xs rs is i cp m x0 ((u : Nat) : Int) (n)).trans ?_)
    refine stX ?_ ?_ ?_
    · (try simp (disch := omega) only [tmod_lit, tdiv_lit, mul_lit, add_lit, lit_mul, lit_add, add_nat, mul_nat, sub_lit, lit_sub, sub_nat, wrapI_nat, wrapI_in, Int.toNat_natCast, Nat.mul_one, Nat.zero_add, toNat_lit])
      (try simp only [Bool.and_eq_true, Bool.and_true, Bool.true_and, decide_eq_true_eq, Bool.not_eq_true', decide_eq_false_iff_not, if_true, Bool.false_eq_true, if_false, List.length_set, List.length_append, List.length_replicate, List.length_cons, List.length_nil, Blk.len])
      (repeat' apply And.intro) <;> first | rfl | omega | decide
    · first | rfl | (simp (disch := omega) only [tmod_lit, tdiv_lit, mul_lit, add_lit, lit_mul, lit_add, add_nat, mul_nat, sub_lit, lit_sub, sub_nat, wrapI_nat, wrapI_in, Int.toNat_natCast, Nat.mul_one, Nat.zero_add, toNat_lit] <;> rfl) | (simp (disch := omega) only [tmod_lit, tdiv_lit, mul_lit, add_lit, lit_mul, lit_add, add_nat, mul_nat, sub_lit, lit_sub, sub_nat, wrapI_nat, wrapI_in, Int.toNat_natCast, Nat.mul_one, Nat.zero_add, toNat_lit]; done)
    · first | rfl | (simp (disch := omega) only [tmod_lit, tdiv_lit, mul_lit, add_lit, lit_mul, lit_add, add_nat, mul_nat, sub_lit, lit_sub, sub_nat, wrapI_nat, wrapI_in, Int.toNat_natCast, Nat.mul_one, Nat.zero_add, toNat_lit] <;> rfl) | (simp (disch := omega) only [tmod_lit, tdiv_lit, mul_lit, add_lit, lit_mul, lit_add, add_nat, mul_nat, sub_lit, lit_sub, sub_nat, wrapI_nat, wrapI_in, Int.toNat_natCast, Nat.mul_one, Nat.zero_add, toNat_lit]; done)
  · rintro ⟨os, bs, xs, rs, is, i, cp, m, x0, x⟩ hok
    simp only [qyB_ok] at hok
    simp only [Bool.and_eq_true, decide_eq_true_eq] at hok
    obtain ⟨⟨⟨h1, h2⟩, h3⟩, h4⟩ := hok
    have := oY_length bs x.toNat os 5
    refine execN_sound (noOrc_sound _) mixed (LoopsOk.innerAt LoopsOk.none 5) (by kernel_rfl) (by intro v h; cases h) ((qyB_off ((oY bs x.toNat os 5)) bs xs rs is i cp m x0 x (5)).trans ?_)
    refine stX ?_ ?_ ?_
    · (try simp (disch := omega) only [tmod_lit, tdiv_lit, mul_lit, add_lit, lit_mul, lit_add, add_nat, mul_nat, sub_lit, lit_sub, sub_nat, wrapI_nat, wrapI_in, Int.toNat_natCast, Nat.mul_one, Nat.zero_add, toNat_lit])
      (try simp only [Bool.and_eq_true, Bool.and_true, Bool.true_and, decide_eq_true_eq, Bool.not_eq_true', decide_eq_false_iff_not, if_true, Bool.false_eq_true, if_false, List.length_set, List.length_append, List.length_replicate, List.length_cons, List.length_nil, Blk.len])
      (repeat' apply And.intro) <;> first | rfl | omega | decide
    · first | rfl | (simp (disch := omega) only [tmod_lit, tdiv_lit, mul_lit, add_lit, lit_mul, lit_add, add_nat, mul_nat, sub_lit, lit_sub, sub_nat, wrapI_nat, wrapI_in, Int.toNat_natCast, Nat.mul_one, Nat.zero_add, toNat_lit] <;> rfl) | (simp (disch := omega) only [tmod_lit, tdiv_lit, mul_lit, add_lit, lit_mul, lit_add, add_nat, mul_nat, sub_lit, lit_sub, sub_nat, wrapI_nat, wrapI_in, Int.toNat_natCast, Nat.mul_one, Nat.zero_add, toNat_lit]; done)
    · first | rfl | (simp (disch := omega) only [tmod_lit, tdiv_lit, mul_lit, add_lit, lit_mul, lit_add, add_nat, mul_nat, sub_lit, lit_sub, sub_nat, wrapI_nat, wrapI_in, Int.toNat_natCast, Nat.mul_one, Nat.zero_add, toNat_lit] <;> rfl) | (simp (disch := omega) only [tmod_lit, tdiv_lit, mul_lit, add_lit, lit_mul, lit_add, add_nat, mul_nat, sub_lit, lit_sub, sub_nat, wrapI_nat, wrapI_in, Int.toNat_natCast, Nat.mul_one, Nat.zero_add, toNat_lit]; done)
theorem qxB_on (os : List (BitVec 64)) (bs : List (BitVec 64)) (xs : List (BitVec 64)) (rs : List (BitVec 64)) (is : List Int) (i : Int) (cp : Option Nat) (m : Nat) (x0 : List (BitVec 64)) (n : Nat) :
  execN Pr noOrc (smL (1 : Nat) [qyB_s]) [((93 : Nat), true)] (100 : Nat) (1 : Nat)
  [(0 : Nat), (3 : Nat), (4 : Nat), (5 : Nat), (8 : Nat), (12 : Nat), (13 : Nat)] (loopBody Go.Proofs.Try.f29 (4 : Nat))
  [((0 : Nat), V.sl (1 : Nat) (0 : Nat) (1 : Nat) (25 : Nat) cp),
    ((3 : Nat), V.sl (2 : Nat) (0 : Nat) (1 : Nat) (25 : Nat) (some (25 : Nat))),
    ((4 : Nat), V.sl (3 : Nat) (0 : Nat) (1 : Nat) m none), ((5 : Nat), V.int IntKind.i64 i),
    ((8 : Nat), V.sl (4 : Nat) (0 : Nat) (1 : Nat) (25 : Nat) (some (25 : Nat))),
    ((12 : Nat), V.sl (5 : Nat) (0 : Nat) (1 : Nat) (25 : Nat) (some (25 : Nat))),
    ((13 : Nat), V.int IntKind.i64 (↑n : Int))]
  [Blk.b64 x0, Blk.b64 xs, Blk.ints is, Blk.b64 rs, Blk.b64 bs, Blk.b64 os] =
  some
  ((if true = true then decide ((↑n : Int) < (5 : Int)) else !decide ((↑n : Int) < (5 : Int))) && true &&
      (qyB_ok (os, bs, xs, rs, is, i, cp, m, x0, (↑n : Int)) && true),
    X.normal,
    [((0 : Nat), V.sl (1 : Nat) (0 : Nat) (1 : Nat) (25 : Nat) cp),
      ((3 : Nat), V.sl (2 : Nat) (0 : Nat) (1 : Nat) (25 : Nat) (some (25 : Nat))),
      ((4 : Nat), V.sl (3 : Nat) (0 : Nat) (1 : Nat) m none), ((5 : Nat), V.int IntKind.i64 i),
      ((8 : Nat), V.sl (4 : Nat) (0 : Nat) (1 : Nat) (25 : Nat) (some (25 : Nat))),
      ((12 : Nat), V.sl (5 : Nat) (0 : Nat) (1 : Nat) (25 : Nat) (some (25 : Nat))),
      ((13 : Nat), V.int IntKind.i64 (wrapI IntKind.i64 ((↑n : Int) + (1 : Int))))],
    [Blk.b64 x0, Blk.b64 xs, Blk.ints is, Blk.b64 rs, Blk.b64 bs,
      Blk.b64 (oY bs (↑n : Int).toNat os (5 : Nat))]) := by kernel_rfl
theorem qxB_off (os : List (BitVec 64)) (bs : List (BitVec 64)) (xs : List (BitVec 64)) (rs : List (BitVec 64)) (is : List Int) (i : Int) (cp : Option Nat) (m : Nat) (x0 : List (BitVec 64)) (n : Nat) :
  execN Pr noOrc (smL (1 : Nat) [qyB_s]) [((93 : Nat), false)] (100 : Nat) (1 : Nat)
  [(0 : Nat), (3 : Nat), (4 : Nat), (5 : Nat), (12 : Nat)] (loopBody Go.Proofs.Try.f29 (4 : Nat))
  [((0 : Nat), V.sl (1 : Nat) (0 : Nat) (1 : Nat) (25 : Nat) cp),
    ((3 : Nat), V.sl (2 : Nat) (0 : Nat) (1 : Nat) (25 : Nat) (some (25 : Nat))),
    ((4 : Nat), V.sl (3 : Nat) (0 : Nat) (1 : Nat) m none), ((5 : Nat), V.int IntKind.i64 i),
    ((8 : Nat), V.sl (4 : Nat) (0 : Nat) (1 : Nat) (25 : Nat) (some (25 : Nat))),
    ((12 : Nat), V.sl (5 : Nat) (0 : Nat) (1 : Nat) (25 : Nat) (some (25 : Nat))),
    ((13 : Nat), V.int IntKind.i64 (↑n : Int))]
  [Blk.b64 x0, Blk.b64 xs, Blk.ints is, Blk.b64 rs, Blk.b64 bs, Blk.b64 os] =
  some
  ((if false = true then decide ((↑n : Int) < (5 : Int)) else !decide ((↑n : Int) < (5 : Int))) && true,
    X.exit (8 : Nat),
    [((0 : Nat), V.sl (1 : Nat) (0 : Nat) (1 : Nat) (25 : Nat) cp),
      ((3 : Nat), V.sl (2 : Nat) (0 : Nat) (1 : Nat) (25 : Nat) (some (25 : Nat))),
      ((4 : Nat), V.sl (3 : Nat) (0 : Nat) (1 : Nat) m none), ((5 : Nat), V.int IntKind.i64 i),
      ((12 : Nat), V.sl (4 : Nat) (0 : Nat) (1 : Nat) (25 : Nat) (some (25 : Nat)))],
    [Blk.b64 x0, Blk.b64 xs, Blk.ints is, Blk.b64 rs, Blk.b64 os]) := by kernel_rfl
def qxB_S : (List (BitVec 64)) × (List (BitVec 64)) × (List (BitVec 64)) × (List (BitVec 64)) × (List Int) × Int × (Option Nat) × Nat × (List (BitVec 64)) → Nat → Fr × Heap := fun ⟨os, bs, xs, rs, is, i, cp, m, x0⟩ n => ([(0, .sl 1 0 1 25 cp), (3, .sl 2 0 1 25 (some 25)), (4, .sl 3 0 1 m none), (5, .int .i64 i), (8, .sl 4 0 1 25 (some 25)), (12, .sl 5 0 1 25 (some 25)), (13, .int .i64 n)], [.b64 x0, .b64 xs, .ints is, .b64 rs, .b64 bs, .b64 (oX bs os n)])
def qxB_read : Fr → Heap → Option ((List (BitVec 64)) × (List (BitVec 64)) × (List (BitVec 64)) × (List (BitVec 64)) × (List Int) × Int × (Option Nat) × Nat × (List (BitVec 64))) := fun f h => match f, h with
  | [(0, .sl 1 0 1 25 cp), (3, .sl 2 0 1 25 (some 25)), (4, .sl 3 0 1 m none), (5, .int .i64 i), (8, .sl 4 0 1 25 (some 25)), (12, .sl 5 0 1 25 (some 25)), (13, .int .i64 0)], [.b64 x0, .b64 xs, .ints is, .b64 rs, .b64 bs, .b64 os] => some (os, bs, xs, rs, is, i, cp, m, x0)
  | _, _ => none
def qxB_ok : (List (BitVec 64)) × (List (BitVec 64)) × (List (BitVec 64)) × (List (BitVec 64)) × (List Int) × Int × (Option Nat) × Nat × (List (BitVec 64)) → Bool := fun ⟨os, bs, xs, rs, is, i, cp, m, x0⟩ => decide (os.length = 25) && decide (bs.length = 25)
def qxB_E : (List (BitVec 64)) × (List (BitVec 64)) × (List (BitVec 64)) × (List (BitVec 64)) × (List Int) × Int × (Option Nat) × Nat × (List (BitVec 64)) → X × Fr × Heap := fun ⟨os, bs, xs, rs, is, i, cp, m, x0⟩ => (.exit 8, [(0, .sl 1 0 1 25 cp), (3, .sl 2 0 1 25 (some 25)), (4, .sl 3 0 1 m none), (5, .int .i64 i), (12, .sl 4 0 1 25 (some 25))], [.b64 x0, .b64 xs, .ints is, .b64 rs, .b64 (oX bs os (5))])
def qxB_k : Nat := 4
def qxB_s : Sm := whS 22 [0,3,4,5,8,12,13] qxB_read qxB_ok qxB_E
theorem qxB_at : SmAt Pr Go.Proofs.Try.f29 1 qxB_s qxB_k := by
  refine cnt_at qxB_S (fun ⟨os, bs, xs, rs, is, i, cp, m, x0⟩ => 5) (by kernel_rfl) (by kernel_rfl) ?_ ?_ ?_ ?_
  · intro f g a h
    unfold qxB_read at h
    split at h <;> cases h
    rfl
  · intro a h; cases h
  · rintro ⟨os, bs, xs, rs, is, i, cp, m, x0⟩ hok n hn
    simp only at hn
    simp only [qxB_ok] at hok
    simp only [Bool.and_eq_true, decide_eq_true_eq] at hok
    obtain ⟨h1, h2⟩ := hok
    have hb := oX_length bs os n
    refine execN_sound (noOrc_sound _) mixed (LoopsOk.innerAt (LoopsOk.of [(qyB_s, qyB_k)] (by kernel_rfl) (by intro p hp; simp only [List.mem_cons, List.not_mem_nil, or_false] at hp; rcases hp with rfl; exact qyB_at)) 4) (by kernel_rfl) (by intro v h; cases h) ((qxB_on ((oX bs os n)) bs xs rs is i cp m x0 (n)).trans ?_)
    refine stX ?_ ?_ ?_
    · (try simp (disch := omega) only [tmod_lit, tdiv_lit, mul_lit, add_lit, lit_mul, lit_add, add_nat, mul_nat, sub_lit, lit_sub, sub_nat, wrapI_nat, wrapI_in, Int.toNat_natCast, Nat.mul_one, Nat.zero_add, toNat_lit, qyB_ok])
      (try simp only [Bool.and_eq_true, Bool.and_true, Bool.true_and, decide_eq_true_eq, Bool.not_eq_true', decide_eq_false_iff_not, if_true, Bool.false_eq_true, if_false, List.length_set, List.length_append, List.length_replicate, List.length_cons, List.length_nil, Blk.len])
      (repeat' apply And.intro) <;> first | rfl | omega | decide
    · first | rfl | (simp (disch := omega) only [tmod_lit, tdiv_lit, mul_lit, add_lit, lit_mul, lit_add, add_nat, mul_nat, sub_lit, lit_sub, sub_nat, wrapI_nat, wrapI_in, Int.toNat_natCast, Nat.mul_one, Nat.zero_add, toNat_lit, qyB_ok] <;> rfl) | (simp (disch := omega) only [tmod_lit, tdiv_lit, mul_lit, add_lit, lit_mul, lit_add, add_nat, mul_nat, sub_lit, lit_sub, sub_nat, wrapI_nat, wrapI_in, Int.toNat_natCast, Nat.mul_one, Nat.zero_add, toNat_lit, qyB_ok]; done)
    · first | rfl | (simp (disch := omega) only [tmod_lit, tdiv_lit, mul_lit, add_lit, lit_mul, lit_add, add_nat, mul_nat, sub_lit, lit_sub, sub_nat, wrapI_nat, wrapI_in, Int.toNat_natCast, Nat.mul_one, Nat.zero_add, toNat_lit, qyB_ok] <;> rfl) | (simp (disch := omega) only [tmod_lit, tdiv_lit, mul_lit, add_lit, lit_mul, lit_add, add_nat, mul_nat, sub_lit, lit_sub, sub_nat, wrapI_nat, wrapI_in, Int.toNat_natCast, Nat.mul_one, Nat.zero_add, toNat_lit, qyB_ok]; done)
  · rintro ⟨os, bs, xs, rs, is, i, cp, m, x0⟩ hok
    simp only [qxB_ok] at hok
    simp only [Bool.and_eq_true, decide_eq_true_eq] at hok
    obtain ⟨h1, h2⟩ := hok
    have := oX_length bs os 5
    refine execN_sound (noOrc_sound _) mixed (LoopsOk.innerAt (LoopsOk.of [(qyB_s, qyB_k)] (by kernel_rfl) (by intro p hp; simp only [List.mem_cons, List.not_mem_nil, or_false] at hp; rcases hp with rfl; exact qyB_at)) 4) (by kernel_rfl) (by intro v h; cases h) ((qxB_off ((oX bs os 5)) bs xs rs is i cp m x0 (5)).trans ?_)
    refine stX ?_ ?_ ?_
    · (try simp (disch := omega) only [tmod_lit, tdiv_lit, mul_lit, add_lit, lit_mul, lit_add, add_nat, mul_nat, sub_lit, lit_sub, sub_nat, wrapI_nat, wrapI_in, Int.toNat_natCast, Nat.mul_one, Nat.zero_add, toNat_lit, qyB_ok])
      (try simp only [Bool.and_eq_true, Bool.and_true, Bool.true_and, decide_eq_true_eq, Bool.not_eq_true', decide_eq_false_iff_not, if_true, Bool.false_eq_true, if_false, List.length_set, List.length_append, List.length_replicate, List.length_cons, List.length_nil, Blk.len])
      (repeat' apply And.intro) <;> first | rfl | omega | decide
    · first | rfl | (simp (disch := omega) only [tmod_lit, tdiv_lit, mul_lit, add_lit, lit_mul, lit_add, add_nat, mul_nat, sub_lit, lit_sub, sub_nat, wrapI_nat, wrapI_in, Int.toNat_natCast, Nat.mul_one, Nat.zero_add, toNat_lit, qyB_ok] <;> rfl) | (simp (disch := omega) only [tmod_lit, tdiv_lit, mul_lit, add_lit, lit_mul, lit_add, add_nat, mul_nat, sub_lit, lit_sub, sub_nat, wrapI_nat, wrapI_in, Int.toNat_natCast, Nat.mul_one, Nat.zero_add, toNat_lit, qyB_ok]; done)
    · first | rfl | (simp (disch := omega) only [tmod_lit, tdiv_lit, mul_lit, add_lit, lit_mul, lit_add, add_nat, mul_nat, sub_lit, lit_sub, sub_nat, wrapI_nat, wrapI_in, Int.toNat_natCast, Nat.mul_one, Nat.zero_add, toNat_lit, qyB_ok] <;> rfl) | (simp (disch := omega) only [tmod_lit, tdiv_lit, mul_lit, add_lit, lit_mul, lit_add, add_nat, mul_nat, sub_lit, lit_sub, sub_nat, wrapI_nat, wrapI_in, Int.toNat_natCast, Nat.mul_one, Nat.zero_add, toNat_lit, qyB_ok]; done)

end
end Go.Proofs.Ytklgiongdiojcaa.K
end
section
open Go Go.Lh
namespace Go.Proofs.Ytklgiongdiojcaa.K
noncomputable section
set_option maxRecDepth 100000
def csR (xs : List (BitVec 64)) := cN xs (List.replicate 5 (BitVec.ofInt 64 0)) 25
def bsR (xs : List (BitVec 64)) := bX xs (csR xs) rotI (List.replicate 25 (BitVec.ofInt 64 0)) 5
def osR (xs : List (BitVec 64)) := oX (bsR xs) (List.replicate 25 (BitVec.ofInt 64 0)) 5
theorem csR_length (xs : List (BitVec 64)) : (csR xs).length = 5 := by simp [csR, cN_length]
theorem bsR_length (xs : List (BitVec 64)) : (bsR xs).length = 25 := by simp [bsR, bX_length]
theorem osR_length (xs : List (BitVec 64)) : (osR xs).length = 25 := by simp [osR, oX_length]
def rdR (n : Nat) (xs : List (BitVec 64)) : List (BitVec 64) := (osR xs).set 0 ((osR xs).getD 0 0 ^^^ rcs.getD n 0)
theorem rdR_length (n : Nat) (xs : List (BitVec 64)) : (rdR n xs).length = 25 := by simp [rdR, osR_length]
theorem rA_on (cp : Option Nat) (m : Nat) (xs : List (BitVec 64)) (rs : List (BitVec 64)) :
  execN Pr OT (smL (1 : Nat) [pcA_s, pxA_s, qxA_s]) [((18 : Nat), true)] (100 : Nat) (1 : Nat)
  [(0 : Nat), (3 : Nat), (4 : Nat), (5 : Nat)] (loopBody Go.Proofs.Try.f29 (0 : Nat))
  [((0 : Nat), V.sl (0 : Nat) (0 : Nat) (1 : Nat) (25 : Nat) cp),
    ((3 : Nat), V.sl (1 : Nat) (0 : Nat) (1 : Nat) (25 : Nat) (some (25 : Nat))),
    ((4 : Nat), V.sl (2 : Nat) (0 : Nat) (1 : Nat) m none), ((5 : Nat), V.int IntKind.i64 (0 : Int))]
  [Blk.b64 xs, Blk.ints rotI, Blk.b64 rs] =
  some
  (pcA_ok (List.replicate (5 : Nat) (BitVec.ofInt (64 : Nat) (0 : Int)), xs, rs, rotI, (0 : Int), cp, m) &&
        (pxA_ok
            (List.replicate (25 : Nat) (BitVec.ofInt (64 : Nat) (0 : Int)), csR xs, xs, rs, rotI, (0 : Int), cp, m) &&
          (qxA_ok
              (List.replicate (25 : Nat) (BitVec.ofInt (64 : Nat) (0 : Int)), bsR xs, xs, rs, rotI, (0 : Int), cp, m) &&
            (decide ((0 : Nat) < (osR xs).length) &&
                (decide ((0 : Int) < (↑m : Int)) &&
                  (decide ((0 : Nat) < rs.length) &&
                    (decide
                        ((0 : Nat) +
                            [V.u64
                                  ((osR xs).getD (0 : Nat) (OfNat.ofNat (0 : Nat)) ^^^
                                    rs.getD (0 : Nat) (OfNat.ofNat (0 : Nat)))].length ≤
                          (osR xs).length) &&
                      true))) &&
              true))) &&
      true,
    X.normal,
    [((0 : Nat), V.sl (1 : Nat) (0 : Nat) (1 : Nat) (25 : Nat) (some (25 : Nat))),
      ((3 : Nat), V.sl (2 : Nat) (0 : Nat) (1 : Nat) (25 : Nat) (some (25 : Nat))),
      ((4 : Nat), V.sl (3 : Nat) (0 : Nat) (1 : Nat) m none), ((5 : Nat), V.int IntKind.i64 (1 : Int))],
    [Blk.b64 xs,
      Blk.b64
        ((osR xs).set (0 : Nat)
          ((osR xs).getD (0 : Nat) (OfNat.ofNat (0 : Nat)) ^^^ rs.getD (0 : Nat) (OfNat.ofNat (0 : Nat)))),
      Blk.ints rotI, Blk.b64 rs]) := by kernel_rfl
theorem rB_on (cp : Option Nat) (n : Nat) (m : Nat) (x0 : List (BitVec 64)) (xs : List (BitVec 64)) (rs : List (BitVec 64)) :
  execN Pr OT (smL (1 : Nat) [pcB_s, pxB_s, qxB_s]) [((18 : Nat), true)] (100 : Nat) (1 : Nat)
  [(0 : Nat), (3 : Nat), (4 : Nat), (5 : Nat)] (loopBody Go.Proofs.Try.f29 (0 : Nat))
  [((0 : Nat), V.sl (1 : Nat) (0 : Nat) (1 : Nat) (25 : Nat) cp),
    ((3 : Nat), V.sl (2 : Nat) (0 : Nat) (1 : Nat) (25 : Nat) (some (25 : Nat))),
    ((4 : Nat), V.sl (3 : Nat) (0 : Nat) (1 : Nat) m none), ((5 : Nat), V.int IntKind.i64 (↑n : Int))]
  [Blk.b64 x0, Blk.b64 xs, Blk.ints rotI, Blk.b64 rs] =
  some
  ((if true = true then decide ((↑n : Int) < (24 : Int)) else !decide ((↑n : Int) < (24 : Int))) && true &&
      (pcB_ok (List.replicate (5 : Nat) (BitVec.ofInt (64 : Nat) (0 : Int)), xs, rs, rotI, (↑n : Int), cp, m, x0) &&
          (pxB_ok
              (List.replicate (25 : Nat) (BitVec.ofInt (64 : Nat) (0 : Int)), csR xs, xs, rs, rotI, (↑n : Int), cp, m,
                x0) &&
            (qxB_ok
                (List.replicate (25 : Nat) (BitVec.ofInt (64 : Nat) (0 : Int)), bsR xs, xs, rs, rotI, (↑n : Int), cp, m,
                  x0) &&
              (decide ((0 : Nat) < (osR xs).length) &&
                  (decide ((0 : Int) ≤ (↑n : Int)) && decide ((↑n : Int) < (↑m : Int)) &&
                    (decide ((0 : Nat) + (↑n : Int).toNat * (1 : Nat) < rs.length) &&
                      (decide
                          ((0 : Nat) +
                              [V.u64
                                    ((osR xs).getD (0 : Nat) (OfNat.ofNat (0 : Nat)) ^^^
                                      rs.getD ((0 : Nat) + (↑n : Int).toNat * (1 : Nat))
                                        (OfNat.ofNat (0 : Nat)))].length ≤
                            (osR xs).length) &&
                        true))) &&
                true))) &&
        true),
    X.normal,
    [((0 : Nat), V.sl (1 : Nat) (0 : Nat) (1 : Nat) (25 : Nat) (some (25 : Nat))),
      ((3 : Nat), V.sl (2 : Nat) (0 : Nat) (1 : Nat) (25 : Nat) (some (25 : Nat))),
      ((4 : Nat), V.sl (3 : Nat) (0 : Nat) (1 : Nat) m none),
      ((5 : Nat), V.int IntKind.i64 (wrapI IntKind.i64 ((↑n : Int) + (1 : Int))))],
    [Blk.b64 x0,
      Blk.b64
        ((osR xs).set (0 : Nat)
          ((osR xs).getD (0 : Nat) (OfNat.ofNat (0 : Nat)) ^^^
            rs.getD ((0 : Nat) + (↑n : Int).toNat * (1 : Nat)) (OfNat.ofNat (0 : Nat)))),
      Blk.ints rotI, Blk.b64 rs]) := by kernel_rfl
theorem rB_off (cp : Option Nat) (n : Nat) (m : Nat) (x0 : List (BitVec 64)) (xs : List (BitVec 64)) (rs : List (BitVec 64)) :
  execN Pr OT noLoops [((18 : Nat), false)] (100 : Nat) (1 : Nat) [(0 : Nat)] (loopBody Go.Proofs.Try.f29 (0 : Nat))
  [((0 : Nat), V.sl (1 : Nat) (0 : Nat) (1 : Nat) (25 : Nat) cp),
    ((3 : Nat), V.sl (2 : Nat) (0 : Nat) (1 : Nat) (25 : Nat) (some (25 : Nat))),
    ((4 : Nat), V.sl (3 : Nat) (0 : Nat) (1 : Nat) m none), ((5 : Nat), V.int IntKind.i64 (↑n : Int))]
  [Blk.b64 x0, Blk.b64 xs, Blk.ints rotI, Blk.b64 rs] =
  some
  ((if false = true then decide ((↑n : Int) < (24 : Int)) else !decide ((↑n : Int) < (24 : Int))) && true,
    X.exit (0 : Nat), [((0 : Nat), V.sl (1 : Nat) (0 : Nat) (1 : Nat) (25 : Nat) cp)],
    [Blk.b64 x0, Blk.b64 xs]) := by kernel_rfl
theorem rot_x : execF Pr noOrc noLoops 100 Go.Proofs.Try.f34 [] [] = some (true, .ret (.sl 0 0 1 25 (some 25)), [.ints rotI]) := by kernel_rfl
theorem con_x : execF Pr noOrc noLoops 100 Go.Proofs.Try.f35 [] [] = some (true, .ret (.sl 0 0 1 24 none), [.b64 rcs]) := by kernel_rfl
def rot_g := ct (fun args h => match args, h with | [], [] => some () | _, _ => none) (fun _ => true) (fun _ => .ret (.sl 0 0 1 25 (some 25))) (fun _ => [.ints rotI])
def con_g := ct (fun args h => match args, h with | [], [] => some () | _, _ => none) (fun _ => true) (fun _ => .ret (.sl 0 0 1 24 none)) (fun _ => [.b64 rcs])
theorem rot_ok : ∀ args h fin h', rot_g args h = some (true, fin, h') → LFn Pr 34 args h fin h' := by
  refine ct_ok (fun _ => []) (fun _ => []) ?_ ?_
  · intro args h a e
    split at e <;> cases e
    exact ⟨rfl, rfl⟩
  · intro a _
    exact execF_sound (fn := Go.Proofs.Try.f34) (noOrc_sound _) mixed (by kernel_rfl) (fun _ _ _ _ => LoopOk.none) rot_x
theorem con_ok : ∀ args h fin h', con_g args h = some (true, fin, h') → LFn Pr 35 args h fin h' := by
  refine ct_ok (fun _ => []) (fun _ => []) ?_ ?_
  · intro args h a e
    split at e <;> cases e
    exact ⟨rfl, rfl⟩
  · intro a _
    exact execF_sound (fn := Go.Proofs.Try.f35) (noOrc_sound _) mixed (by kernel_rfl) (fun _ _ _ _ => LoopOk.none) con_x
def OU : Orc := auto Pr noExt [(36, turned_g), (34, rot_g), (35, con_g)] [] 3
theorem OU_sound : OrcSound Pr OU := auto_sound mixed noExt_ok (KOk.cons turned_en turned_ok (KOk.cons (Enters.of (fn := Go.Proofs.Try.f34) (by kernel_rfl) (by kernel_rfl)) rot_ok (KOk.cons (Enters.of (fn := Go.Proofs.Try.f35) (by kernel_rfl) (by kernel_rfl)) con_ok KOk.nil))) (by kernel_rfl) 3
def permR : Nat → List (BitVec 64) → List (BitVec 64)
  | 0, xs => xs
  | n + 1, xs => rdR n (permR n xs)
theorem permR_length (xs : List (BitVec 64)) (h : xs.length = 25) : ∀ n, (permR n xs).length = 25
  | 0 => h
  | n + 1 => rdR_length _ _
def ro_S : List (BitVec 64) × Option Nat → Nat → Fr × Heap := fun ⟨xs, cp⟩ n => match n with
  | 0 => ([(0,.sl 0 0 1 25 cp),(3,.sl 1 0 1 25 (some 25)),(4,.sl 2 0 1 24 none),(5,.int .i64 0)], [.b64 xs, .ints rotI, .b64 rcs])
  | k + 1 => ([(0,.sl 1 0 1 25 (some 25)),(3,.sl 2 0 1 25 (some 25)),(4,.sl 3 0 1 24 none),(5,.int .i64 ((k + 1 : Nat) : Int))], [.b64 xs, .b64 (permR (k + 1) xs), .ints rotI, .b64 rcs])
def ro_ok : List (BitVec 64) × List Int × List (BitVec 64) × Option Nat → Bool := fun ⟨xs, is, rs, cp⟩ => decide (xs.length = 25) && decide (is = rotI) && decide (rs = rcs)
def ro_read : Fr → Heap → Option (List (BitVec 64) × List Int × List (BitVec 64) × Option Nat) := fun f h => match f, h with
  | [(0,.sl 0 0 1 25 cp),(3,.sl 1 0 1 25 (some 25)),(4,.sl 2 0 1 24 none),(5,.int .i64 0)], [.b64 xs, .ints is, .b64 rs] => some (xs, is, rs, cp)
  | _, _ => none
def ro_E : List (BitVec 64) × List Int × List (BitVec 64) × Option Nat → X × Fr × Heap := fun ⟨xs, is, rs, cp⟩ => (.exit 0, [(0,.sl 1 0 1 25 (some 25))], [.b64 xs, .b64 (permR 24 xs)])
def ro_S' : List (BitVec 64) × List Int × List (BitVec 64) × Option Nat → Nat → Fr × Heap := fun ⟨xs, is, rs, cp⟩ n => match n with
  | 0 => ([(0,.sl 0 0 1 25 cp),(3,.sl 1 0 1 25 (some 25)),(4,.sl 2 0 1 24 none),(5,.int .i64 0)], [.b64 xs, .ints is, .b64 rs])
  | k + 1 => ro_S (xs, cp) (k + 1)
def ro_s : Sm := whS 4 [0,3,4,5] ro_read ro_ok ro_E
theorem innerA : LoopsOk Pr Go.Proofs.Try.f29 1 (smL 1 [pcA_s, pxA_s, qxA_s]) := LoopsOk.of [(pcA_s, pcA_k), (pxA_s, pxA_k), (qxA_s, qxA_k)] (by kernel_rfl) (by
  intro p hp
  simp only [List.mem_cons, List.not_mem_nil, or_false] at hp
  rcases hp with rfl | rfl | rfl
  · exact pcA_at
  · exact pxA_at
  · exact qxA_at)
theorem innerB : LoopsOk Pr Go.Proofs.Try.f29 1 (smL 1 [pcB_s, pxB_s, qxB_s]) := LoopsOk.of [(pcB_s, pcB_k), (pxB_s, pxB_k), (qxB_s, qxB_k)] (by kernel_rfl) (by
  intro p hp
  simp only [List.mem_cons, List.not_mem_nil, or_false] at hp
  rcases hp with rfl | rfl | rfl
  · exact pcB_at
  · exact pxB_at
  · exact qxB_at)
theorem ro_at : SmAt Pr Go.Proofs.Try.f29 1 ro_s 0 := by
  refine cnt_at ro_S' (fun _ => 24) (by kernel_rfl) (by kernel_rfl) ?_ ?_ ?_ ?_
  · intro f g a h
    unfold ro_read at h
    split at h <;> cases h
    rfl
  · intro a h; cases h
  · rintro ⟨xs, is, rs, cp⟩ hok n hn
    simp only [ro_ok, Bool.and_eq_true, decide_eq_true_eq] at hok
    obtain ⟨⟨h1, h2⟩, h3⟩ := hok
    subst h2 h3
    have hr : rcs.length = 24 := rfl
    have l1 := csR_length xs
    cases n with
    | zero =>
      refine execN_sound OT_sound mixed (LoopsOk.innerAt innerA 0) (by kernel_rfl) (by intro v h; cases h) ((rA_on cp 24 xs rcs).trans ?_)
      have l2 := bsR_length xs
      have l3 := osR_length xs
      refine stX ?_ ?_ ?_
      · simp [pcA_ok, pxA_ok, qxA_ok, l1, l2, l3, h1, hr]
      · rfl
      · rfl
    | succ k =>
      have l0 := permR_length xs h1 (k + 1)
      have l1 := csR_length (permR (k + 1) xs)
      have l2 := bsR_length (permR (k + 1) xs)
      have l3 := osR_length (permR (k + 1) xs)
      refine execN_sound OT_sound mixed (LoopsOk.innerAt innerB 0) (by kernel_rfl) (by intro v h; cases h) ((rB_on (some 25) (k + 1) 24 xs (permR (k + 1) xs) rcs).trans ?_)
      refine stX ?_ ?_ ?_
      · simp [pcB_ok, pxB_ok, qxB_ok, l0, l1, l2, l3, hr]
        omega
      · rw [add_lit, wrapI_nat (by omega)]; rfl
      · simp only [Int.toNat_natCast, Nat.mul_one, Nat.zero_add]; rfl
  · rintro ⟨xs, is, rs, cp⟩ hok
    simp only [ro_ok, Bool.and_eq_true, decide_eq_true_eq] at hok
    obtain ⟨⟨h1, h2⟩, h3⟩ := hok
    subst h2 h3
    refine execN_sound OT_sound mixed (LoopsOk.innerAt (LoopsOk.none (P := Pr) (fn := Go.Proofs.Try.f29) (n0 := 1)) 0) (by kernel_rfl) (by intro v h; cases h) ((rB_off (some 25) 24 24 xs (permR 24 xs) rcs).trans ?_)
    refine stX ?_ rfl rfl
    simp
def ro_k : Nat := 0
theorem rperm_x (xs : List (BitVec 64)) (cp : Option Nat) :
  execFD Pr OU (smL (1 : Nat) [ro_s]) [] (100 : Nat) Go.Proofs.Try.f29 [V.sl (0 : Nat) (0 : Nat) (1 : Nat) (25 : Nat) cp]
  [Blk.b64 xs] =
  some
  (ro_ok (xs, rotI, rcs, cp) && true && true, Fin.ret (V.sl (1 : Nat) (0 : Nat) (1 : Nat) (25 : Nat) (some (25 : Nat))),
    [Blk.b64 xs, Blk.b64 (permR (24 : Nat) xs)]) := by kernel_rfl
theorem rperm_fn (xs : List (BitVec 64)) (cp : Option Nat) (h1 : xs.length = 25) : LFn Pr 29 [.sl 0 0 1 25 cp] [.b64 xs] (.ret (.sl 1 0 1 25 (some 25))) [.b64 xs, .b64 (permR 24 xs)] := by
  refine execFD_sound OU_sound mixed (f := 29) (fn := Go.Proofs.Try.f29) (by kernel_rfl) (LoopsOk.of [(ro_s, ro_k)] (by kernel_rfl) (by intro p hp; simp only [List.mem_cons, List.not_mem_nil, or_false] at hp; rcases hp with rfl; exact ro_at)) ((rperm_x xs cp).trans ?_)
  refine stF ?_ ?_ ?_
  · simp [ro_ok, h1]
  · first | rfl | (simp (disch := omega) only [tmod_lit, tdiv_lit, mul_lit, add_lit, lit_mul, lit_add, add_nat, mul_nat, sub_lit, lit_sub, sub_nat, wrapI_nat, wrapI_in, Int.toNat_natCast, Nat.mul_one, Nat.zero_add, toNat_lit] <;> rfl) | (simp (disch := omega) only [tmod_lit, tdiv_lit, mul_lit, add_lit, lit_mul, lit_add, add_nat, mul_nat, sub_lit, lit_sub, sub_nat, wrapI_nat, wrapI_in, Int.toNat_natCast, Nat.mul_one, Nat.zero_add, toNat_lit]; done)
  · first | rfl | (simp (disch := omega) only [tmod_lit, tdiv_lit, mul_lit, add_lit, lit_mul, lit_add, add_nat, mul_nat, sub_lit, lit_sub, sub_nat, wrapI_nat, wrapI_in, Int.toNat_natCast, Nat.mul_one, Nat.zero_add, toNat_lit] <;> rfl) | (simp (disch := omega) only [tmod_lit, tdiv_lit, mul_lit, add_lit, lit_mul, lit_add, add_nat, mul_nat, sub_lit, lit_sub, sub_nat, wrapI_nat, wrapI_in, Int.toNat_natCast, Nat.mul_one, Nat.zero_add, toNat_lit]; done)
def rperm_read : List V → Heap → Option ((List (BitVec 64)) × (Option Nat)) := fun f h => match f, h with
  | [.sl 0 0 1 25 cp], [.b64 xs] => some (xs, cp)
  | _, _ => none
def rperm_g := ct rperm_read (fun ⟨xs, cp⟩ => decide (xs.length = 25)) (fun ⟨xs, cp⟩ => .ret (.sl 1 0 1 25 (some 25))) (fun ⟨xs, cp⟩ => [.b64 xs, .b64 (permR 24 xs)])
theorem rperm_ok : ∀ args h fin h', rperm_g args h = some (true, fin, h') → LFn Pr 29 args h fin h' := by
  refine ct_ok (fun ⟨xs, cp⟩ => [.sl 0 0 1 25 cp]) (fun ⟨xs, cp⟩ => [.b64 xs]) ?_ ?_
  · intro args h a e
    unfold rperm_read at e
    split at e <;> cases e
    exact ⟨rfl, rfl⟩
  · rintro ⟨xs, cp⟩ hok
    simp only [Bool.and_eq_true, decide_eq_true_eq] at hok
    have h1 := hok
    exact rperm_fn xs cp h1
theorem rperm_en : Enters Pr 29 := Enters.of (fn := Go.Proofs.Try.f29) (by kernel_rfl) (by kernel_rfl)
/-! ### it is the program's -/
theorem turn_eq (x : BitVec 64) (k : Nat) (h : k % 64 ≠ 0) : turn x (k % 64) = rotl x k := by
  unfold turn rotl
  have hk : k % 64 < 64 := Nat.mod_lt _ (by omega)
  have e1 : (64 - k % 64) % 64 = 64 - k % 64 := by omega
  have e2 : BitVec.ofInt 64 (if (1 : Int) < ((k % 64 : Nat) : Int) then (1 : Int) else ((k % 64 : Nat) : Int)) = 1#64 := by
    split
    · rfl
    · rw [show ((k % 64 : Nat) : Int) = 1 by omega]; rfl
  rw [Nat.mod_mod, e1, e2, BitVec.mul_one]
theorem turn_zero (x : BitVec 64) : turn x 0 = x := by
  unfold turn
  simp
def laneR (xs : List (BitVec 64)) (i : Nat) : BitVec 64 := col xs i ^^^ par xs ((i % 5 + 4) % 5) ^^^ turn (par xs ((i % 5 + 1) % 5)) 1
def bR (xs : List (BitVec 64)) : List (BitVec 64) := lanes 25 fun j => turn (laneR xs (moves.getD j (0, 0)).1) ((moves.getD j (0, 0)).2 % 64)
theorem osR_eq (xs : List (BitVec 64)) (h : xs.length = 25) : osR xs = chiL (bR xs) := by
  obtain ⟨x0, x1, x2, x3, x4, x5, x6, x7, x8, x9, x10, x11, x12, x13, x14, x15, x16, x17, x18, x19, x20, x21, x22, x23, x24, rfl⟩ := list25 xs h
  kernel_rfl
theorem moves_lt : ∀ j, j < 25 → (moves.getD j (0, 0)).1 < 25 ∧ (Nat.beq j 0 = true ∧ (moves.getD j (0, 0)) = (0, 0) ∨ Nat.beq j 0 = false ∧ (moves.getD j (0, 0)).2 % 64 ≠ 0) := by decide
theorem bR_eq (xs : List (BitVec 64)) : bR xs = rhoPiL (thetaL xs) := by
  have hl : ∀ i, i < 25 → laneR xs i = col (thetaL xs) i := by
    intro i hi
    unfold thetaL laneR
    rw [lanes_get _ _ _ hi, BitVec.xor_assoc, show turn (par xs ((i % 5 + 1) % 5)) 1 = rotl (par xs ((i % 5 + 1) % 5)) 1 from turn_eq _ 1 (by decide)]
    rw [show (i % 5 + 4) % 5 = (i + 4) % 5 by omega, show (i % 5 + 1) % 5 = (i + 1) % 5 by omega]
  refine col_ext (lanes_length _ _) (rhoPiL_length _) fun j hj => ?_
  unfold bR rhoPiL
  rw [lanes_get _ _ _ hj, lanes_get _ _ _ hj]
  obtain ⟨h1, h2⟩ := moves_lt j hj
  rw [hl _ h1]
  rcases h2 with ⟨h2, h3⟩ | ⟨h2, h3⟩
  · rw [h2, h3, if_pos rfl]; exact turn_zero _
  · rw [h2, turn_eq _ _ h3]; rfl
theorem rdR_eq (n : Nat) (xs : List (BitVec 64)) (h : xs.length = 25) : rdR n xs = roundL n xs := by
  unfold rdR roundL
  rw [osR_eq xs h, bR_eq]; rfl
theorem permR_eq (xs : List (BitVec 64)) (h : xs.length = 25) : permR 24 xs = permL xs := by
  have : ∀ n, permR n xs = permN n xs := by
    intro n
    induction n with
    | zero => rfl
    | succ n ih => simp only [permR, permN]; rw [ih, rdR_eq _ _ (permN_length n xs h)]
  exact this 24
end
end Go.Proofs.Ytklgiongdiojcaa.K
end
section
open Go Go.Lh
namespace Go.Proofs.Ytklgiongdiojcaa.K
noncomputable section
set_option maxRecDepth 100000
def byte8 (xs : List (BitVec 64)) (n : Nat) : BitVec 8 := (xs.getD (n / 8) 0 >>> (8 * (n % 8))).setWidth 8
def out8 (xs : List (BitVec 64)) (ys : List (BitVec 8)) : Nat → List (BitVec 8)
  | 0 => ys
  | n + 1 => (out8 xs ys n).set n (byte8 xs n)
theorem out8_eq (xs : List (BitVec 64)) (ys : List (BitVec 8)) : ∀ n, out8 xs ys n = outN xs ys n
  | 0 => rfl
  | n + 1 => by simp only [out8, outN, out8_eq xs ys n, byte8, byteOf, Nat.mul_comm]
structure PA where
  xs : List (BitVec 64)
  cp : Option Nat
def permRG_read : List V → Heap → Option PA := fun f h => match f, h with
  | [.sl 0 0 1 25 cp], [.b64 xs] => some ⟨xs, cp⟩
  | _, _ => none
def permRG_okf : PA → Bool := fun a => decide (a.xs.length = 25)
def permRG := ct permRG_read permRG_okf (fun _ => .ret (.sl 1 0 1 25 (some 25))) (fun a => [.b64 a.xs, .b64 (permL a.xs)])
theorem permRG_ok : ∀ args h fin h', permRG args h = some (true, fin, h') → LFn Pr 29 args h fin h' := by
  refine ct_ok (fun a => [.sl 0 0 1 25 a.cp]) (fun a => [.b64 a.xs]) ?_ ?_
  · intro args h a e
    unfold permRG_read at e
    split at e <;> cases e
    exact ⟨rfl, rfl⟩
  · rintro ⟨xs, cp⟩ hok
    have h1 : xs.length = 25 := of_decide_eq_true hok
    have := rperm_fn xs cp h1
    rw [permR_eq xs h1] at this
    exact this
def OV : Orc := auto Pr noExt [(29, permRG)] [] 3
theorem OV_sound : OrcSound Pr OV := auto_sound mixed noExt_ok (KOk.cons rperm_en permRG_ok KOk.nil) (by kernel_rfl) 3
/-- zeros behind -/
def padN (bs : List (BitVec 8)) : Nat → List (BitVec 8)
  | 0 => bs
  | n + 1 => padN bs n ++ [0#8]
theorem padN_length (bs : List (BitVec 8)) : ∀ n, (padN bs n).length = bs.length + n
  | 0 => rfl
  | n + 1 => by simp [padN, padN_length bs n]; omega
theorem padN_eq (bs : List (BitVec 8)) : ∀ n, padN bs n = bs ++ List.replicate n 0#8
  | 0 => by simp [padN]
  | n + 1 => by rw [padN, padN_eq bs n, List.append_assoc, List.replicate_succ']
theorem rs0_on (l : Nat) (bs : List (BitVec 8)) (n : Nat) :
  execN Pr noOrc noLoops [((16 : Nat), true)] (100 : Nat) (0 : Nat) [(3 : Nat)] (loopBody Go.Proofs.Try.f26 (0 : Nat))
  [((3 : Nat), V.sl (0 : Nat) (0 : Nat) (1 : Nat) l none)] [Blk.b8 bs] =
  some
  ((if true = true then (↑l : Int).tmod (136 : Int) != (0 : Int) else !(↑l : Int).tmod (136 : Int) != (0 : Int)) &&
        true &&
      (decide ((0 : Nat) + l * (1 : Nat) ≤ bs.length) &&
            (decide (l + (1 : Nat) ≤ (281474976710656 : Nat)) &&
                decide (((2 : Nat) * (l + (1 : Nat)) + (1024 : Nat)) * (1 : Nat) ≤ (281474976710656 : Nat)) &&
              true) &&
          true &&
        true),
    X.normal, [((3 : Nat), V.sl (0 : Nat) (0 : Nat) (1 : Nat) (l + (1 : Nat)) none)],
    [Blk.b8
        (List.take (l * (1 : Nat)) (List.drop (0 : Nat) bs) ++
          List.take (1 : Nat) (List.drop (0 : Nat) [BitVec.ofInt (8 : Nat) (0 : Int)]))]) := by kernel_rfl
theorem rs0_off (l : Nat) (bs : List (BitVec 8)) (n : Nat) :
  execN Pr noOrc noLoops [((16 : Nat), false)] (100 : Nat) (0 : Nat) [(3 : Nat)] (loopBody Go.Proofs.Try.f26 (0 : Nat))
  [((3 : Nat), V.sl (0 : Nat) (0 : Nat) (1 : Nat) l none)] [Blk.b8 bs] =
  some
  ((if false = true then (↑l : Int).tmod (136 : Int) != (0 : Int) else !(↑l : Int).tmod (136 : Int) != (0 : Int)) &&
      true,
    X.exit (0 : Nat), [((3 : Nat), V.sl (0 : Nat) (0 : Nat) (1 : Nat) l none)], [Blk.b8 bs]) := by kernel_rfl
def rs0_S : Nat × (List (BitVec 8)) → Nat → Fr × Heap := fun ⟨l, bs⟩ n => ([(3, .sl 0 0 1 (l + n) none)], [.b8 (padN bs n)])
def rs0_read : Fr → Heap → Option (Nat × (List (BitVec 8))) := fun f h => match f, h with
  | [(3, .sl 0 0 1 l none)], [.b8 bs] => some (l, bs)
  | _, _ => none
def rs0_ok : Nat × (List (BitVec 8)) → Bool := fun ⟨l, bs⟩ => decide (bs.length = l) && decide (l ≤ 140737488351233)
def rs0_E : Nat × (List (BitVec 8)) → X × Fr × Heap := fun ⟨l, bs⟩ => (.exit 0, [(3, .sl 0 0 1 (l + ((136 - l % 136) % 136)) none)], [.b8 (padN bs ((136 - l % 136) % 136))])
def rs0_m : Nat × (List (BitVec 8)) → Nat := fun ⟨l, bs⟩ => (136 - l % 136) % 136
def rs0_k : Nat := 0
def rs0_s : Sm := whS 2 [3] rs0_read rs0_ok rs0_E
theorem rs0_at : SmAt Pr Go.Proofs.Try.f26 0 rs0_s rs0_k := by
  refine cnt_at rs0_S rs0_m (by kernel_rfl) (by kernel_rfl) ?_ ?_ ?_ ?_
  · intro f g a h
    unfold rs0_read at h
    split at h <;> cases h
    rfl
  · intro a h; cases h
  · rintro ⟨l, bs⟩ hok n hn
    simp only [rs0_m] at hn
    simp only [rs0_ok] at hok
    simp only [Bool.and_eq_true, decide_eq_true_eq] at hok
    obtain ⟨h1, h2⟩ := hok
    have hl := padN_length bs n
    have e1 : ((l + n : Nat) : Int).tmod 136 = (((l + n) % 136 : Nat) : Int) := tmod_lit _ 136
    refine execN_sound (noOrc_sound _) mixed (LoopsOk.innerAt LoopsOk.none 0) (by kernel_rfl) (by intro v h; cases h) ((rs0_on ((l + n)) ((padN bs n)) (n)).trans ?_)
    refine stX ?_ ?_ ?_
    · have e2 : (l + n) % 136 ≠ 0 := by omega
      have e3 : (((l + n) % 136 : Nat) : Int) ≠ 0 := by omega
      rw [e1]; simp [hl, h1, e3]; omega
    · first | rfl | (simp (disch := omega) only [tmod_lit, tdiv_lit, mul_lit, add_lit, lit_mul, lit_add, add_nat, mul_nat, sub_lit, lit_sub, sub_nat, wrapI_nat, wrapI_in, Int.toNat_natCast, Nat.mul_one, Nat.zero_add, toNat_lit] <;> rfl) | (simp (disch := omega) only [tmod_lit, tdiv_lit, mul_lit, add_lit, lit_mul, lit_add, add_nat, mul_nat, sub_lit, lit_sub, sub_nat, wrapI_nat, wrapI_in, Int.toNat_natCast, Nat.mul_one, Nat.zero_add, toNat_lit]; done)
    · have : List.take ((l + n) * 1) (List.drop 0 (padN bs n)) = padN bs n := by rw [List.drop_zero, Nat.mul_one, List.take_of_length_le (by omega)]
      rw [this]; rfl
  · rintro ⟨l, bs⟩ hok
    simp only [rs0_ok] at hok
    simp only [Bool.and_eq_true, decide_eq_true_eq] at hok
    obtain ⟨h1, h2⟩ := hok
    have hl := padN_length bs ((136 - l % 136) % 136)
    have e1 : ((l + (136 - l % 136) % 136 : Nat) : Int).tmod 136 = (((l + (136 - l % 136) % 136) % 136 : Nat) : Int) := tmod_lit _ 136
    have e2 : (l + (136 - l % 136) % 136) % 136 = 0 := by omega
    refine execN_sound (noOrc_sound _) mixed (LoopsOk.innerAt LoopsOk.none 0) (by kernel_rfl) (by intro v h; cases h) ((rs0_off ((l + ((136 - l % 136) % 136))) ((padN bs ((136 - l % 136) % 136))) (((136 - l % 136) % 136))).trans ?_)
    refine stX ?_ ?_ ?_
    · rw [e1, e2]; simp
    · first | rfl | (simp (disch := omega) only [tmod_lit, tdiv_lit, mul_lit, add_lit, lit_mul, lit_add, add_nat, mul_nat, sub_lit, lit_sub, sub_nat, wrapI_nat, wrapI_in, Int.toNat_natCast, Nat.mul_one, Nat.zero_add, toNat_lit] <;> rfl) | (simp (disch := omega) only [tmod_lit, tdiv_lit, mul_lit, add_lit, lit_mul, lit_add, add_nat, mul_nat, sub_lit, lit_sub, sub_nat, wrapI_nat, wrapI_in, Int.toNat_natCast, Nat.mul_one, Nat.zero_add, toNat_lit]; done)
    · rfl
theorem rs2_on (l : Nat) (bs : List (BitVec 8)) (xs : List (BitVec 64)) (cp : Option Nat) (at_ : Int) (n : Nat) :
  execN Pr noOrc noLoops [((40 : Nat), true)] (100 : Nat) (0 : Nat) [(3 : Nat), (4 : Nat), (5 : Nat), (6 : Nat)]
  (loopBody Go.Proofs.Try.f26 (2 : Nat))
  [((3 : Nat), V.sl (0 : Nat) (0 : Nat) (1 : Nat) l cp),
    ((4 : Nat), V.sl (1 : Nat) (0 : Nat) (1 : Nat) (25 : Nat) (some (25 : Nat))), ((5 : Nat), V.int IntKind.i64 at_),
    ((6 : Nat), V.int IntKind.i64 (↑n : Int))]
  [Blk.b8 bs, Blk.b64 xs] =
  some
  ((if true = true then decide ((↑n : Int) < (136 : Int)) else !decide ((↑n : Int) < (136 : Int))) && true &&
      (decide ((0 : Int) ≤ wrapI IntKind.i64 ((↑n : Int).tdiv (8 : Int))) &&
            decide (wrapI IntKind.i64 ((↑n : Int).tdiv (8 : Int)) < (25 : Int)) &&
          (decide ((0 : Nat) + (wrapI IntKind.i64 ((↑n : Int).tdiv (8 : Int))).toNat * (1 : Nat) < xs.length) &&
            (decide ((0 : Int) ≤ wrapI IntKind.i64 (at_ + (↑n : Int))) &&
                decide (wrapI IntKind.i64 (at_ + (↑n : Int)) < (↑l : Int)) &&
              (decide ((0 : Nat) + (wrapI IntKind.i64 (at_ + (↑n : Int))).toNat * (1 : Nat) < bs.length) &&
                (decide ((0 : Int) ≤ wrapI IntKind.i64 ((8 : Int) * (↑n : Int).tmod (8 : Int))) &&
                  (decide ((0 : Int) ≤ wrapI IntKind.i64 ((↑n : Int).tdiv (8 : Int))) &&
                      decide (wrapI IntKind.i64 ((↑n : Int).tdiv (8 : Int)) < (25 : Int)) &&
                    (decide
                        ((0 : Nat) + (wrapI IntKind.i64 ((↑n : Int).tdiv (8 : Int))).toNat * (1 : Nat) +
                            [V.u64
                                  (xs.getD
                                      ((0 : Nat) + (wrapI IntKind.i64 ((↑n : Int).tdiv (8 : Int))).toNat * (1 : Nat))
                                      (OfNat.ofNat (0 : Nat)) ^^^
                                    BitVec.setWidth (64 : Nat)
                                        (bs.getD ((0 : Nat) + (wrapI IntKind.i64 (at_ + (↑n : Int))).toNat * (1 : Nat))
                                          (OfNat.ofNat (0 : Nat))) <<<
                                      (wrapI IntKind.i64 ((8 : Int) * (↑n : Int).tmod (8 : Int))).toNat)].length ≤
                          xs.length) &&
                      true)))))) &&
        true),
    X.normal,
    [((3 : Nat), V.sl (0 : Nat) (0 : Nat) (1 : Nat) l cp),
      ((4 : Nat), V.sl (1 : Nat) (0 : Nat) (1 : Nat) (25 : Nat) (some (25 : Nat))), ((5 : Nat), V.int IntKind.i64 at_),
      ((6 : Nat), V.int IntKind.i64 (wrapI IntKind.i64 ((↑n : Int) + (1 : Int))))],
    [Blk.b8 bs,
      Blk.b64
        (xs.set ((0 : Nat) + (wrapI IntKind.i64 ((↑n : Int).tdiv (8 : Int))).toNat * (1 : Nat))
          (xs.getD ((0 : Nat) + (wrapI IntKind.i64 ((↑n : Int).tdiv (8 : Int))).toNat * (1 : Nat))
              (OfNat.ofNat (0 : Nat)) ^^^
            BitVec.setWidth (64 : Nat)
                (bs.getD ((0 : Nat) + (wrapI IntKind.i64 (at_ + (↑n : Int))).toNat * (1 : Nat))
                  (OfNat.ofNat (0 : Nat))) <<<
              (wrapI IntKind.i64 ((8 : Int) * (↑n : Int).tmod (8 : Int))).toNat))]) := by kernel_rfl
theorem rs2_off (l : Nat) (bs : List (BitVec 8)) (xs : List (BitVec 64)) (cp : Option Nat) (at_ : Int) (n : Nat) :
  execN Pr noOrc noLoops [((40 : Nat), false)] (100 : Nat) (0 : Nat) [(3 : Nat), (4 : Nat), (5 : Nat)]
  (loopBody Go.Proofs.Try.f26 (2 : Nat))
  [((3 : Nat), V.sl (0 : Nat) (0 : Nat) (1 : Nat) l cp),
    ((4 : Nat), V.sl (1 : Nat) (0 : Nat) (1 : Nat) (25 : Nat) (some (25 : Nat))), ((5 : Nat), V.int IntKind.i64 at_),
    ((6 : Nat), V.int IntKind.i64 (↑n : Int))]
  [Blk.b8 bs, Blk.b64 xs] =
  some
  ((if false = true then decide ((↑n : Int) < (136 : Int)) else !decide ((↑n : Int) < (136 : Int))) && true,
    X.exit (4 : Nat),
    [((3 : Nat), V.sl (0 : Nat) (0 : Nat) (1 : Nat) l cp),
      ((4 : Nat), V.sl (1 : Nat) (0 : Nat) (1 : Nat) (25 : Nat) (some (25 : Nat))), ((5 : Nat), V.int IntKind.i64 at_)],
    [Blk.b8 bs, Blk.b64 xs]) := by kernel_rfl
def rs2_S : Nat × (List (BitVec 8)) × (List (BitVec 64)) × (Option Nat) × Int → Nat → Fr × Heap := fun ⟨l, bs, xs, cp, at_⟩ n => ([(3, .sl 0 0 1 l cp), (4, .sl 1 0 1 25 (some 25)), (5, .int .i64 at_), (6, .int .i64 n)], [.b8 bs, .b64 (absN at_.toNat bs n xs)])
def rs2_read : Fr → Heap → Option (Nat × (List (BitVec 8)) × (List (BitVec 64)) × (Option Nat) × Int) := fun f h => match f, h with
  | [(3, .sl 0 0 1 l cp), (4, .sl 1 0 1 25 (some 25)), (5, .int .i64 at_), (6, .int .i64 0)], [.b8 bs, .b64 xs] => some (l, bs, xs, cp, at_)
  | _, _ => none
def rs2_ok : Nat × (List (BitVec 8)) × (List (BitVec 64)) × (Option Nat) × Int → Bool := fun ⟨l, bs, xs, cp, at_⟩ => decide (xs.length = 25) && decide (0 ≤ at_) && decide (at_.toNat + 136 ≤ l) && decide (bs.length = l) && decide (l ≤ 281474976710656)
def rs2_E : Nat × (List (BitVec 8)) × (List (BitVec 64)) × (Option Nat) × Int → X × Fr × Heap := fun ⟨l, bs, xs, cp, at_⟩ => (.exit 4, [(3, .sl 0 0 1 l cp), (4, .sl 1 0 1 25 (some 25)), (5, .int .i64 at_)], [.b8 bs, .b64 (absN at_.toNat bs (136) xs)])
def rs2_m : Nat × (List (BitVec 8)) × (List (BitVec 64)) × (Option Nat) × Int → Nat := fun ⟨l, bs, xs, cp, at_⟩ => 136
def rs2_k : Nat := 2
def rs2_s : Sm := whS 10 [3,4,5,6] rs2_read rs2_ok rs2_E
theorem rs2_at : SmAt Pr Go.Proofs.Try.f26 0 rs2_s rs2_k := by
  refine cnt_at rs2_S rs2_m (by kernel_rfl) (by kernel_rfl) ?_ ?_ ?_ ?_
  · intro f g a h
    unfold rs2_read at h
    split at h <;> cases h
    rfl
  · intro a h; cases h
  · rintro ⟨l, bs, xs, cp, at_⟩ hok n hn
    simp only [rs2_m] at hn
    simp only [rs2_ok] at hok
    simp only [Bool.and_eq_true, decide_eq_true_eq] at hok
    obtain ⟨⟨⟨⟨h1, h2⟩, h3⟩, h4⟩, h5⟩ := hok
    obtain ⟨u, rfl⟩ : ∃ u : Nat, at_ = u := ⟨at_.toNat, by omega⟩
    have hx := absN_length u bs xs n
    refine execN_sound (noOrc_sound _) mixed (LoopsOk.innerAt LoopsOk.none 2) (by kernel_rfl) (by intro v h; cases h) ((rs2_on l bs ((absN ((u : Nat) : Int).toNat bs n xs)) cp ((u : Nat) : Int) (n)).trans ?_)
    refine stX ?_ ?_ ?_
    · (try simp (disch := omega) only [tmod_lit, tdiv_lit, mul_lit, add_lit, lit_mul, lit_add, add_nat, mul_nat, sub_lit, lit_sub, sub_nat, wrapI_nat, wrapI_in, Int.toNat_natCast, Nat.mul_one, Nat.zero_add, toNat_lit])
      (try simp only [Bool.and_eq_true, Bool.and_true, Bool.true_and, decide_eq_true_eq, Bool.not_eq_true', decide_eq_false_iff_not, if_true, Bool.false_eq_true, if_false, List.length_set, List.length_append, List.length_replicate, List.length_cons, List.length_nil, Blk.len])
      (repeat' apply And.intro) <;> first | omega | trivial | rfl | decide
    · first | rfl | (simp (disch := omega) only [tmod_lit, tdiv_lit, mul_lit, add_lit, lit_mul, lit_add, add_nat, mul_nat, sub_lit, lit_sub, sub_nat, wrapI_nat, wrapI_in, Int.toNat_natCast, Nat.mul_one, Nat.zero_add, toNat_lit] <;> rfl) | (simp (disch := omega) only [tmod_lit, tdiv_lit, mul_lit, add_lit, lit_mul, lit_add, add_nat, mul_nat, sub_lit, lit_sub, sub_nat, wrapI_nat, wrapI_in, Int.toNat_natCast, Nat.mul_one, Nat.zero_add, toNat_lit]; done)
    · simp (disch := omega) only [tmod_lit, tdiv_lit, mul_lit, lit_mul, add_nat, wrapI_nat, Int.toNat_natCast, Nat.mul_one, Nat.zero_add]
      rw [Nat.mul_comm 8]; rfl
  · rintro ⟨l, bs, xs, cp, at_⟩ hok
    simp only [rs2_ok] at hok
    simp only [Bool.and_eq_true, decide_eq_true_eq] at hok
    obtain ⟨⟨⟨⟨h1, h2⟩, h3⟩, h4⟩, h5⟩ := hok
    have hx := absN_length at_.toNat bs xs 136
    refine execN_sound (noOrc_sound _) mixed (LoopsOk.innerAt LoopsOk.none 2) (by kernel_rfl) (by intro v h; cases h) ((rs2_off l bs ((absN at_.toNat bs 136 xs)) cp at_ (136)).trans ?_)
    refine stX ?_ ?_ ?_
    · (try simp (disch := omega) only [tmod_lit, tdiv_lit, mul_lit, add_lit, lit_mul, lit_add, add_nat, mul_nat, sub_lit, lit_sub, sub_nat, wrapI_nat, wrapI_in, Int.toNat_natCast, Nat.mul_one, Nat.zero_add, toNat_lit])
      (try simp only [Bool.and_eq_true, Bool.and_true, Bool.true_and, decide_eq_true_eq, Bool.not_eq_true', decide_eq_false_iff_not, if_true, Bool.false_eq_true, if_false, List.length_set, List.length_append, List.length_replicate, List.length_cons, List.length_nil, Blk.len])
      (repeat' apply And.intro) <;> first | omega | trivial | rfl | decide
    · first | rfl | (simp (disch := omega) only [tmod_lit, tdiv_lit, mul_lit, add_lit, lit_mul, lit_add, add_nat, mul_nat, sub_lit, lit_sub, sub_nat, wrapI_nat, wrapI_in, Int.toNat_natCast, Nat.mul_one, Nat.zero_add, toNat_lit] <;> rfl) | (simp (disch := omega) only [tmod_lit, tdiv_lit, mul_lit, add_lit, lit_mul, lit_add, add_nat, mul_nat, sub_lit, lit_sub, sub_nat, wrapI_nat, wrapI_in, Int.toNat_natCast, Nat.mul_one, Nat.zero_add, toNat_lit]; done)
    · first | rfl | (simp (disch := omega) only [tmod_lit, tdiv_lit, mul_lit, add_lit, lit_mul, lit_add, add_nat, mul_nat, sub_lit, lit_sub, sub_nat, wrapI_nat, wrapI_in, Int.toNat_natCast, Nat.mul_one, Nat.zero_add, toNat_lit] <;> rfl) | (simp (disch := omega) only [tmod_lit, tdiv_lit, mul_lit, add_lit, lit_mul, lit_add, add_nat, mul_nat, sub_lit, lit_sub, sub_nat, wrapI_nat, wrapI_in, Int.toNat_natCast, Nat.mul_one, Nat.zero_add, toNat_lit]; done)
theorem rs1_on (l : Nat) (bs : List (BitVec 8)) (xs : List (BitVec 64)) (cp : Option Nat) (n : Nat) :
  execN Pr OV (smL (0 : Nat) [rs2_s]) [((36 : Nat), true)] (100 : Nat) (0 : Nat) [(3 : Nat), (4 : Nat), (5 : Nat)]
  (loopBody Go.Proofs.Try.f26 (1 : Nat))
  [((3 : Nat), V.sl (0 : Nat) (0 : Nat) (1 : Nat) l cp),
    ((4 : Nat), V.sl (1 : Nat) (0 : Nat) (1 : Nat) (25 : Nat) (some (25 : Nat))),
    ((5 : Nat), V.int IntKind.i64 (↑((136 : Nat) * n) : Int))]
  [Blk.b8 bs, Blk.b64 xs] =
  some
  ((if true = true then decide ((↑((136 : Nat) * n) : Int) < (↑l : Int))
        else !decide ((↑((136 : Nat) * n) : Int) < (↑l : Int))) &&
        true &&
      (rs2_ok (l, bs, xs, cp, (↑((136 : Nat) * n) : Int)) &&
          (permRG_okf (PA.mk (absN (↑((136 : Nat) * n) : Int).toNat bs (136 : Nat) xs) (some (25 : Nat))) && true) &&
        true),
    X.normal,
    [((3 : Nat), V.sl (0 : Nat) (0 : Nat) (1 : Nat) l cp),
      ((4 : Nat), V.sl (1 : Nat) (0 : Nat) (1 : Nat) (25 : Nat) (some (25 : Nat))),
      ((5 : Nat), V.int IntKind.i64 (wrapI IntKind.i64 ((↑((136 : Nat) * n) : Int) + (136 : Int))))],
    [Blk.b8 bs,
      Blk.b64
        (permL
          (PA.mk (absN (↑((136 : Nat) * n) : Int).toNat bs (136 : Nat) xs) (some (25 : Nat))).xs)]) := by kernel_rfl
theorem rs1_off (l : Nat) (bs : List (BitVec 8)) (xs : List (BitVec 64)) (cp : Option Nat) (n : Nat) :
  execN Pr OV (smL (0 : Nat) [rs2_s]) [((36 : Nat), false)] (100 : Nat) (0 : Nat) [(4 : Nat)]
  (loopBody Go.Proofs.Try.f26 (1 : Nat))
  [((3 : Nat), V.sl (0 : Nat) (0 : Nat) (1 : Nat) l cp),
    ((4 : Nat), V.sl (1 : Nat) (0 : Nat) (1 : Nat) (25 : Nat) (some (25 : Nat))),
    ((5 : Nat), V.int IntKind.i64 (↑((136 : Nat) * n) : Int))]
  [Blk.b8 bs, Blk.b64 xs] =
  some
  ((if false = true then decide ((↑((136 : Nat) * n) : Int) < (↑l : Int))
      else !decide ((↑((136 : Nat) * n) : Int) < (↑l : Int))) &&
      true,
    X.exit (2 : Nat), [((4 : Nat), V.sl (0 : Nat) (0 : Nat) (1 : Nat) (25 : Nat) (some (25 : Nat)))],
    [Blk.b64 xs]) := by kernel_rfl
def rs1_S : Nat × (List (BitVec 8)) × (List (BitVec 64)) × (Option Nat) → Nat → Fr × Heap := fun ⟨l, bs, xs, cp⟩ n => ([(3, .sl 0 0 1 l cp), (4, .sl 1 0 1 25 (some 25)), (5, .int .i64 ((136 * n : Nat) : Int))], [.b8 bs, .b64 (takeAll bs 0 n xs)])
def rs1_read : Fr → Heap → Option (Nat × (List (BitVec 8)) × (List (BitVec 64)) × (Option Nat)) := fun f h => match f, h with
  | [(3, .sl 0 0 1 l cp), (4, .sl 1 0 1 25 (some 25)), (5, .int .i64 ((136 * 0 : Nat) : Int))], [.b8 bs, .b64 xs] => some (l, bs, xs, cp)
  | _, _ => none
def rs1_ok : Nat × (List (BitVec 8)) × (List (BitVec 64)) × (Option Nat) → Bool := fun ⟨l, bs, xs, cp⟩ => decide (xs.length = 25) && decide (l % 136 = 0) && decide (bs.length = l) && decide (l ≤ 281474976710656)
def rs1_E : Nat × (List (BitVec 8)) × (List (BitVec 64)) × (Option Nat) → X × Fr × Heap := fun ⟨l, bs, xs, cp⟩ => (.exit 2, [(4, .sl 0 0 1 25 (some 25))], [.b64 (takeAll bs 0 (l / 136) xs)])
def rs1_m : Nat × (List (BitVec 8)) × (List (BitVec 64)) × (Option Nat) → Nat := fun ⟨l, bs, xs, cp⟩ => l / 136
def rs1_k : Nat := 1
def rs1_s : Sm := whS 7 [3,4,5] rs1_read rs1_ok rs1_E
theorem rs1_at : SmAt Pr Go.Proofs.Try.f26 0 rs1_s rs1_k := by
  refine cnt_at rs1_S rs1_m (by kernel_rfl) (by kernel_rfl) ?_ ?_ ?_ ?_
  · intro f g a h
    unfold rs1_read at h
    split at h <;> cases h
    rfl
  · intro a h; cases h
  · rintro ⟨l, bs, xs, cp⟩ hok n hn
    simp only [rs1_m] at hn
    simp only [rs1_ok] at hok
    simp only [Bool.and_eq_true, decide_eq_true_eq] at hok
    obtain ⟨⟨⟨h1, h2⟩, h3⟩, h4⟩ := hok
    have hx := takeAll_length bs 0 xs h1 n
    have hn' : 136 * n + 136 ≤ l := by omega
    have hy := absN_length (136 * n) bs (takeAll bs 0 n xs)
    have e0 : ((0 : Int)).toNat = 0 := rfl
    refine execN_sound OV_sound mixed (LoopsOk.innerAt (LoopsOk.of [(rs2_s, rs2_k)] (by kernel_rfl) (by intro p hp; simp only [List.mem_cons, List.not_mem_nil, or_false] at hp; rcases hp with rfl; exact rs2_at)) 1) (by kernel_rfl) (by intro v h; cases h) ((rs1_on l bs ((takeAll bs 0 n xs)) cp (n)).trans ?_)
    refine stX ?_ ?_ ?_
    · simp only [rs2_ok, permRG_okf, Int.toNat_natCast, hy, hx, Bool.and_eq_true, Bool.and_true, Bool.true_and, decide_eq_true_eq, if_true]
      
      refine ⟨by omega, ⟨⟨⟨⟨trivial, by omega⟩, by omega⟩, h3⟩, h4⟩, trivial⟩
    · simp (disch := omega) only [add_lit, wrapI_nat]
      rfl
    · simp only [Int.toNat_natCast]
      show _ = [Blk.b8 bs, Blk.b64 (takeIn (0 + 136 * n) bs (takeAll bs 0 n xs))]
      rw [Nat.zero_add]; rfl
  · rintro ⟨l, bs, xs, cp⟩ hok
    simp only [rs1_ok] at hok
    simp only [Bool.and_eq_true, decide_eq_true_eq] at hok
    obtain ⟨⟨⟨h1, h2⟩, h3⟩, h4⟩ := hok
    have hx := takeAll_length bs 0 xs h1 (l / 136)
    refine execN_sound OV_sound mixed (LoopsOk.innerAt (LoopsOk.of [(rs2_s, rs2_k)] (by kernel_rfl) (by intro p hp; simp only [List.mem_cons, List.not_mem_nil, or_false] at hp; rcases hp with rfl; exact rs2_at)) 1) (by kernel_rfl) (by intro v h; cases h) ((rs1_off l bs ((takeAll bs 0 (l / 136) xs)) cp ((l / 136))).trans ?_)
    refine stX ?_ ?_ ?_
    · simp only [Bool.and_true, Bool.false_eq_true, if_false, Bool.not_eq_true', decide_eq_false_iff_not]
      omega
    · first | rfl | (simp (disch := omega) only [tmod_lit, tdiv_lit, mul_lit, add_lit, lit_mul, lit_add, add_nat, mul_nat, sub_lit, lit_sub, sub_nat, wrapI_nat, wrapI_in, Int.toNat_natCast, Nat.mul_one, Nat.zero_add, toNat_lit] <;> rfl) | (simp (disch := omega) only [tmod_lit, tdiv_lit, mul_lit, add_lit, lit_mul, lit_add, add_nat, mul_nat, sub_lit, lit_sub, sub_nat, wrapI_nat, wrapI_in, Int.toNat_natCast, Nat.mul_one, Nat.zero_add, toNat_lit]; done)
    · first | rfl | (simp (disch := omega) only [tmod_lit, tdiv_lit, mul_lit, add_lit, lit_mul, lit_add, add_nat, mul_nat, sub_lit, lit_sub, sub_nat, wrapI_nat, wrapI_in, Int.toNat_natCast, Nat.mul_one, Nat.zero_add, toNat_lit] <;> rfl) | (simp (disch := omega) only [tmod_lit, tdiv_lit, mul_lit, add_lit, lit_mul, lit_add, add_nat, mul_nat, sub_lit, lit_sub, sub_nat, wrapI_nat, wrapI_in, Int.toNat_natCast, Nat.mul_one, Nat.zero_add, toNat_lit]; done)
theorem rs3_on (xs : List (BitVec 64)) (ys : List (BitVec 8)) (n : Nat) :
  execN Pr noOrc noLoops [((68 : Nat), true)] (100 : Nat) (0 : Nat) [(4 : Nat), (7 : Nat), (8 : Nat)]
  (loopBody Go.Proofs.Try.f26 (3 : Nat))
  [((4 : Nat), V.sl (0 : Nat) (0 : Nat) (1 : Nat) (25 : Nat) (some (25 : Nat))),
    ((7 : Nat), V.sl (1 : Nat) (0 : Nat) (1 : Nat) (32 : Nat) (some (32 : Nat))),
    ((8 : Nat), V.int IntKind.i64 (↑n : Int))]
  [Blk.b64 xs, Blk.b8 ys] =
  some
  ((if true = true then decide ((↑n : Int) < (32 : Int)) else !decide ((↑n : Int) < (32 : Int))) && true &&
      (decide ((0 : Int) ≤ wrapI IntKind.i64 ((↑n : Int).tdiv (8 : Int))) &&
            decide (wrapI IntKind.i64 ((↑n : Int).tdiv (8 : Int)) < (25 : Int)) &&
          (decide ((0 : Nat) + (wrapI IntKind.i64 ((↑n : Int).tdiv (8 : Int))).toNat * (1 : Nat) < xs.length) &&
            (decide ((0 : Int) ≤ wrapI IntKind.i64 ((8 : Int) * (↑n : Int).tmod (8 : Int))) &&
              (decide ((0 : Int) ≤ (↑n : Int)) && decide ((↑n : Int) < (32 : Int)) &&
                (decide
                    ((0 : Nat) + (↑n : Int).toNat * (1 : Nat) +
                        [V.u8
                              (BitVec.setWidth (8 : Nat)
                                (xs.getD ((0 : Nat) + (wrapI IntKind.i64 ((↑n : Int).tdiv (8 : Int))).toNat * (1 : Nat))
                                    (OfNat.ofNat (0 : Nat)) >>>
                                  (wrapI IntKind.i64 ((8 : Int) * (↑n : Int).tmod (8 : Int))).toNat))].length ≤
                      ys.length) &&
                  true)))) &&
        true),
    X.normal,
    [((4 : Nat), V.sl (0 : Nat) (0 : Nat) (1 : Nat) (25 : Nat) (some (25 : Nat))),
      ((7 : Nat), V.sl (1 : Nat) (0 : Nat) (1 : Nat) (32 : Nat) (some (32 : Nat))),
      ((8 : Nat), V.int IntKind.i64 (wrapI IntKind.i64 ((↑n : Int) + (1 : Int))))],
    [Blk.b64 xs,
      Blk.b8
        (ys.set ((0 : Nat) + (↑n : Int).toNat * (1 : Nat))
          (BitVec.setWidth (8 : Nat)
            (xs.getD ((0 : Nat) + (wrapI IntKind.i64 ((↑n : Int).tdiv (8 : Int))).toNat * (1 : Nat))
                (OfNat.ofNat (0 : Nat)) >>>
              (wrapI IntKind.i64 ((8 : Int) * (↑n : Int).tmod (8 : Int))).toNat)))]) := by kernel_rfl
theorem rs3_off (xs : List (BitVec 64)) (ys : List (BitVec 8)) (n : Nat) :
  execN Pr noOrc noLoops [((68 : Nat), false)] (100 : Nat) (0 : Nat) [(7 : Nat)] (loopBody Go.Proofs.Try.f26 (3 : Nat))
  [((4 : Nat), V.sl (0 : Nat) (0 : Nat) (1 : Nat) (25 : Nat) (some (25 : Nat))),
    ((7 : Nat), V.sl (1 : Nat) (0 : Nat) (1 : Nat) (32 : Nat) (some (32 : Nat))),
    ((8 : Nat), V.int IntKind.i64 (↑n : Int))]
  [Blk.b64 xs, Blk.b8 ys] =
  some
  ((if false = true then decide ((↑n : Int) < (32 : Int)) else !decide ((↑n : Int) < (32 : Int))) && true,
    X.exit (6 : Nat), [((7 : Nat), V.sl (0 : Nat) (0 : Nat) (1 : Nat) (32 : Nat) (some (32 : Nat)))],
    [Blk.b8 ys]) := by kernel_rfl
def rs3_S : (List (BitVec 64)) × (List (BitVec 8)) → Nat → Fr × Heap := fun ⟨xs, ys⟩ n => ([(4, .sl 0 0 1 25 (some 25)), (7, .sl 1 0 1 32 (some 32)), (8, .int .i64 n)], [.b64 xs, .b8 (out8 xs ys n)])
def rs3_read : Fr → Heap → Option ((List (BitVec 64)) × (List (BitVec 8))) := fun f h => match f, h with
  | [(4, .sl 0 0 1 25 (some 25)), (7, .sl 1 0 1 32 (some 32)), (8, .int .i64 0)], [.b64 xs, .b8 ys] => some (xs, ys)
  | _, _ => none
def rs3_ok : (List (BitVec 64)) × (List (BitVec 8)) → Bool := fun ⟨xs, ys⟩ => decide (xs.length = 25) && decide (ys.length = 32)
def rs3_E : (List (BitVec 64)) × (List (BitVec 8)) → X × Fr × Heap := fun ⟨xs, ys⟩ => (.exit 6, [(7, .sl 0 0 1 32 (some 32))], [.b8 (out8 xs ys (32))])
def rs3_m : (List (BitVec 64)) × (List (BitVec 8)) → Nat := fun ⟨xs, ys⟩ => 32
def rs3_k : Nat := 3
def rs3_s : Sm := whS 16 [4,7,8] rs3_read rs3_ok rs3_E
theorem rs3_at : SmAt Pr Go.Proofs.Try.f26 0 rs3_s rs3_k := by
  refine cnt_at rs3_S rs3_m (by kernel_rfl) (by kernel_rfl) ?_ ?_ ?_ ?_
  · intro f g a h
    unfold rs3_read at h
    split at h <;> cases h
    rfl
  · intro a h; cases h
  · rintro ⟨xs, ys⟩ hok n hn
    simp only [rs3_m] at hn
    simp only [rs3_ok] at hok
    simp only [Bool.and_eq_true, decide_eq_true_eq] at hok
    obtain ⟨h1, h2⟩ := hok
    have hl : (out8 xs ys n).length = 32 := by rw [out8_eq, outN_length, h2]
    refine execN_sound (noOrc_sound _) mixed (LoopsOk.innerAt LoopsOk.none 3) (by kernel_rfl) (by intro v h; cases h) ((rs3_on xs ((out8 xs ys n)) (n)).trans ?_)
    refine stX ?_ ?_ ?_
    · (try simp (disch := omega) only [tmod_lit, tdiv_lit, mul_lit, add_lit, lit_mul, lit_add, add_nat, mul_nat, sub_lit, lit_sub, sub_nat, wrapI_nat, wrapI_in, Int.toNat_natCast, Nat.mul_one, Nat.zero_add, toNat_lit])
      (try simp only [Bool.and_eq_true, Bool.and_true, Bool.true_and, decide_eq_true_eq, Bool.not_eq_true', decide_eq_false_iff_not, if_true, Bool.false_eq_true, if_false, List.length_set, List.length_append, List.length_replicate, List.length_cons, List.length_nil, Blk.len])
      (repeat' apply And.intro) <;> first | omega | trivial | rfl | decide
    · first | rfl | (simp (disch := omega) only [tmod_lit, tdiv_lit, mul_lit, add_lit, lit_mul, lit_add, add_nat, mul_nat, sub_lit, lit_sub, sub_nat, wrapI_nat, wrapI_in, Int.toNat_natCast, Nat.mul_one, Nat.zero_add, toNat_lit] <;> rfl) | (simp (disch := omega) only [tmod_lit, tdiv_lit, mul_lit, add_lit, lit_mul, lit_add, add_nat, mul_nat, sub_lit, lit_sub, sub_nat, wrapI_nat, wrapI_in, Int.toNat_natCast, Nat.mul_one, Nat.zero_add, toNat_lit]; done)
    · first | rfl | (simp (disch := omega) only [tmod_lit, tdiv_lit, mul_lit, add_lit, lit_mul, lit_add, add_nat, mul_nat, sub_lit, lit_sub, sub_nat, wrapI_nat, wrapI_in, Int.toNat_natCast, Nat.mul_one, Nat.zero_add, toNat_lit] <;> rfl) | (simp (disch := omega) only [tmod_lit, tdiv_lit, mul_lit, add_lit, lit_mul, lit_add, add_nat, mul_nat, sub_lit, lit_sub, sub_nat, wrapI_nat, wrapI_in, Int.toNat_natCast, Nat.mul_one, Nat.zero_add, toNat_lit]; done)
  · rintro ⟨xs, ys⟩ hok
    simp only [rs3_ok] at hok
    simp only [Bool.and_eq_true, decide_eq_true_eq] at hok
    obtain ⟨h1, h2⟩ := hok
    have hl : (out8 xs ys 32).length = 32 := by rw [out8_eq, outN_length, h2]
    refine execN_sound (noOrc_sound _) mixed (LoopsOk.innerAt LoopsOk.none 3) (by kernel_rfl) (by intro v h; cases h) ((rs3_off xs ((out8 xs ys 32)) (32)).trans ?_)
    refine stX ?_ ?_ ?_
    · (try simp (disch := omega) only [tmod_lit, tdiv_lit, mul_lit, add_lit, lit_mul, lit_add, add_nat, mul_nat, sub_lit, lit_sub, sub_nat, wrapI_nat, wrapI_in, Int.toNat_natCast, Nat.mul_one, Nat.zero_add, toNat_lit])
      (try simp only [Bool.and_eq_true, Bool.and_true, Bool.true_and, decide_eq_true_eq, Bool.not_eq_true', decide_eq_false_iff_not, if_true, Bool.false_eq_true, if_false, List.length_set, List.length_append, List.length_replicate, List.length_cons, List.length_nil, Blk.len])
      (repeat' apply And.intro) <;> first | omega | trivial | rfl | decide
    · first | rfl | (simp (disch := omega) only [tmod_lit, tdiv_lit, mul_lit, add_lit, lit_mul, lit_add, add_nat, mul_nat, sub_lit, lit_sub, sub_nat, wrapI_nat, wrapI_in, Int.toNat_natCast, Nat.mul_one, Nat.zero_add, toNat_lit] <;> rfl) | (simp (disch := omega) only [tmod_lit, tdiv_lit, mul_lit, add_lit, lit_mul, lit_add, add_nat, mul_nat, sub_lit, lit_sub, sub_nat, wrapI_nat, wrapI_in, Int.toNat_natCast, Nat.mul_one, Nat.zero_add, toNat_lit]; done)
    · first | rfl | (simp (disch := omega) only [tmod_lit, tdiv_lit, mul_lit, add_lit, lit_mul, lit_add, add_nat, mul_nat, sub_lit, lit_sub, sub_nat, wrapI_nat, wrapI_in, Int.toNat_natCast, Nat.mul_one, Nat.zero_add, toNat_lit] <;> rfl) | (simp (disch := omega) only [tmod_lit, tdiv_lit, mul_lit, add_lit, lit_mul, lit_add, add_nat, mul_nat, sub_lit, lit_sub, sub_nat, wrapI_nat, wrapI_in, Int.toNat_natCast, Nat.mul_one, Nat.zero_add, toNat_lit]; done)

def padT (s : List (BitVec 8)) : List (BitVec 8) := padN (padB1 s) ((136 - (s.length + 1) % 136) % 136)
def padU (s : List (BitVec 8)) : List (BitVec 8) := (padT s).set (s.length + padM s) ((padT s).getD (s.length + padM s) 0 ^^^ BitVec.ofInt 8 128)
theorem rsum_x (s : List (BitVec 8)) :
  execF Pr OV (smL (0 : Nat) [rs0_s, rs1_s, rs3_s]) (100 : Nat) Go.Proofs.Try.f26 [V.str s] [] =
  some
  (decide ((0 : Nat) + s.length * (1 : Nat) ≤ s.length) &&
              (decide (s.length + (1 : Nat) ≤ (281474976710656 : Nat)) &&
                  decide (((2 : Nat) * (s.length + (1 : Nat)) + (1024 : Nat)) * (1 : Nat) ≤ (281474976710656 : Nat)) &&
                true) &&
            true &&
          true &&
        (rs0_ok (s.length + (1 : Nat), padB1 s) &&
          (decide
                  ((0 : Int) ≤
                    wrapI IntKind.i64
                      ((↑(s.length + (1 : Nat) + ((136 : Nat) - (s.length + (1 : Nat)) % (136 : Nat)) % (136 : Nat)) :
                          Int) -
                        (1 : Int))) &&
                decide
                  (wrapI IntKind.i64
                      ((↑(s.length + (1 : Nat) + ((136 : Nat) - (s.length + (1 : Nat)) % (136 : Nat)) % (136 : Nat)) :
                          Int) -
                        (1 : Int)) <
                    (↑(s.length + (1 : Nat) + ((136 : Nat) - (s.length + (1 : Nat)) % (136 : Nat)) % (136 : Nat)) :
                      Int)) &&
              (decide
                  ((0 : Nat) +
                      (wrapI IntKind.i64
                            ((↑(s.length + (1 : Nat) +
                                    ((136 : Nat) - (s.length + (1 : Nat)) % (136 : Nat)) % (136 : Nat)) :
                                Int) -
                              (1 : Int))).toNat *
                        (1 : Nat) <
                    (padN (padB1 s) (((136 : Nat) - (s.length + (1 : Nat)) % (136 : Nat)) % (136 : Nat))).length) &&
                (decide
                      ((0 : Int) ≤
                        wrapI IntKind.i64
                          ((↑(s.length + (1 : Nat) +
                                  ((136 : Nat) - (s.length + (1 : Nat)) % (136 : Nat)) % (136 : Nat)) :
                              Int) -
                            (1 : Int))) &&
                    decide
                      (wrapI IntKind.i64
                          ((↑(s.length + (1 : Nat) +
                                  ((136 : Nat) - (s.length + (1 : Nat)) % (136 : Nat)) % (136 : Nat)) :
                              Int) -
                            (1 : Int)) <
                        (↑(s.length + (1 : Nat) + ((136 : Nat) - (s.length + (1 : Nat)) % (136 : Nat)) % (136 : Nat)) :
                          Int)) &&
                  (decide
                      ((0 : Nat) +
                            (wrapI IntKind.i64
                                  ((↑(s.length + (1 : Nat) +
                                          ((136 : Nat) - (s.length + (1 : Nat)) % (136 : Nat)) % (136 : Nat)) :
                                      Int) -
                                    (1 : Int))).toNat *
                              (1 : Nat) +
                          [V.u8
                                ((padN (padB1 s)
                                        (((136 : Nat) - (s.length + (1 : Nat)) % (136 : Nat)) % (136 : Nat))).getD
                                    ((0 : Nat) +
                                      (wrapI IntKind.i64
                                            ((↑(s.length + (1 : Nat) +
                                                    ((136 : Nat) - (s.length + (1 : Nat)) % (136 : Nat)) %
                                                      (136 : Nat)) :
                                                Int) -
                                              (1 : Int))).toNat *
                                        (1 : Nat))
                                    (OfNat.ofNat (0 : Nat)) ^^^
                                  BitVec.ofInt (8 : Nat) (128 : Int))].length ≤
                        (padN (padB1 s) (((136 : Nat) - (s.length + (1 : Nat)) % (136 : Nat)) % (136 : Nat))).length) &&
                    true))) &&
            (rs1_ok
                (s.length + (1 : Nat) + ((136 : Nat) - (s.length + (1 : Nat)) % (136 : Nat)) % (136 : Nat),
                  (padN (padB1 s) (((136 : Nat) - (s.length + (1 : Nat)) % (136 : Nat)) % (136 : Nat))).set
                    ((0 : Nat) +
                      (wrapI IntKind.i64
                            ((↑(s.length + (1 : Nat) +
                                    ((136 : Nat) - (s.length + (1 : Nat)) % (136 : Nat)) % (136 : Nat)) :
                                Int) -
                              (1 : Int))).toNat *
                        (1 : Nat))
                    ((padN (padB1 s) (((136 : Nat) - (s.length + (1 : Nat)) % (136 : Nat)) % (136 : Nat))).getD
                        ((0 : Nat) +
                          (wrapI IntKind.i64
                                ((↑(s.length + (1 : Nat) +
                                        ((136 : Nat) - (s.length + (1 : Nat)) % (136 : Nat)) % (136 : Nat)) :
                                    Int) -
                                  (1 : Int))).toNat *
                            (1 : Nat))
                        (OfNat.ofNat (0 : Nat)) ^^^
                      BitVec.ofInt (8 : Nat) (128 : Int)),
                  List.replicate (25 : Nat) (BitVec.ofInt (64 : Nat) (0 : Int)), none) &&
              (rs3_ok
                  (takeAll
                      ((padN (padB1 s) (((136 : Nat) - (s.length + (1 : Nat)) % (136 : Nat)) % (136 : Nat))).set
                        ((0 : Nat) +
                          (wrapI IntKind.i64
                                ((↑(s.length + (1 : Nat) +
                                        ((136 : Nat) - (s.length + (1 : Nat)) % (136 : Nat)) % (136 : Nat)) :
                                    Int) -
                                  (1 : Int))).toNat *
                            (1 : Nat))
                        ((padN (padB1 s) (((136 : Nat) - (s.length + (1 : Nat)) % (136 : Nat)) % (136 : Nat))).getD
                            ((0 : Nat) +
                              (wrapI IntKind.i64
                                    ((↑(s.length + (1 : Nat) +
                                            ((136 : Nat) - (s.length + (1 : Nat)) % (136 : Nat)) % (136 : Nat)) :
                                        Int) -
                                      (1 : Int))).toNat *
                                (1 : Nat))
                            (OfNat.ofNat (0 : Nat)) ^^^
                          BitVec.ofInt (8 : Nat) (128 : Int)))
                      (0 : Nat)
                      ((s.length + (1 : Nat) + ((136 : Nat) - (s.length + (1 : Nat)) % (136 : Nat)) % (136 : Nat)) /
                        (136 : Nat))
                      (List.replicate (25 : Nat) (BitVec.ofInt (64 : Nat) (0 : Int))),
                    List.replicate (32 : Nat) (BitVec.ofInt (8 : Nat) (0 : Int))) &&
                (decide
                      ((32 : Nat) ≤
                        (out8
                            (takeAll
                              ((padN (padB1 s) (((136 : Nat) - (s.length + (1 : Nat)) % (136 : Nat)) % (136 : Nat))).set
                                ((0 : Nat) +
                                  (wrapI IntKind.i64
                                        ((↑(s.length + (1 : Nat) +
                                                ((136 : Nat) - (s.length + (1 : Nat)) % (136 : Nat)) % (136 : Nat)) :
                                            Int) -
                                          (1 : Int))).toNat *
                                    (1 : Nat))
                                ((padN (padB1 s)
                                        (((136 : Nat) - (s.length + (1 : Nat)) % (136 : Nat)) % (136 : Nat))).getD
                                    ((0 : Nat) +
                                      (wrapI IntKind.i64
                                            ((↑(s.length + (1 : Nat) +
                                                    ((136 : Nat) - (s.length + (1 : Nat)) % (136 : Nat)) %
                                                      (136 : Nat)) :
                                                Int) -
                                              (1 : Int))).toNat *
                                        (1 : Nat))
                                    (OfNat.ofNat (0 : Nat)) ^^^
                                  BitVec.ofInt (8 : Nat) (128 : Int)))
                              (0 : Nat)
                              ((s.length + (1 : Nat) +
                                  ((136 : Nat) - (s.length + (1 : Nat)) % (136 : Nat)) % (136 : Nat)) /
                                (136 : Nat))
                              (List.replicate (25 : Nat) (BitVec.ofInt (64 : Nat) (0 : Int))))
                            (List.replicate (32 : Nat) (BitVec.ofInt (8 : Nat) (0 : Int))) (32 : Nat)).length) &&
                    true &&
                  true))))) &&
      true,
    Fin.ret
      (V.str
        (List.take (32 : Nat)
          (List.drop (0 : Nat)
            (out8
              (takeAll
                ((padN (padB1 s) (((136 : Nat) - (s.length + (1 : Nat)) % (136 : Nat)) % (136 : Nat))).set
                  ((0 : Nat) +
                    (wrapI IntKind.i64
                          ((↑(s.length + (1 : Nat) +
                                  ((136 : Nat) - (s.length + (1 : Nat)) % (136 : Nat)) % (136 : Nat)) :
                              Int) -
                            (1 : Int))).toNat *
                      (1 : Nat))
                  ((padN (padB1 s) (((136 : Nat) - (s.length + (1 : Nat)) % (136 : Nat)) % (136 : Nat))).getD
                      ((0 : Nat) +
                        (wrapI IntKind.i64
                              ((↑(s.length + (1 : Nat) +
                                      ((136 : Nat) - (s.length + (1 : Nat)) % (136 : Nat)) % (136 : Nat)) :
                                  Int) -
                                (1 : Int))).toNat *
                          (1 : Nat))
                      (OfNat.ofNat (0 : Nat)) ^^^
                    BitVec.ofInt (8 : Nat) (128 : Int)))
                (0 : Nat)
                ((s.length + (1 : Nat) + ((136 : Nat) - (s.length + (1 : Nat)) % (136 : Nat)) % (136 : Nat)) /
                  (136 : Nat))
                (List.replicate (25 : Nat) (BitVec.ofInt (64 : Nat) (0 : Int))))
              (List.replicate (32 : Nat) (BitVec.ofInt (8 : Nat) (0 : Int))) (32 : Nat))))),
    []) := by kernel_rfl
end
end Go.Proofs.Ytklgiongdiojcaa.K
end
section
open Go Go.Lh
namespace Go.Proofs.Ytklgiongdiojcaa.K
noncomputable section
set_option maxRecDepth 100000
theorem rsum_exec (s : List (BitVec 8)) (h : s.length ≤ 140737488351232) : execF Pr OV (smL 0 [rs0_s, rs1_s, rs3_s]) 100 Go.Proofs.Try.f26 [.str s] [] = some (true, .ret (.str (sumO s)), []) := by
  rw [rsum_x]
  obtain ⟨hk, _⟩ := padM_eq s h
  rw [← hk]
  have e : wrapI .i64 (((s.length + 1 + padM s : Nat) : Int) - 1) = ((s.length + padM s : Nat) : Int) := by rw [show (((s.length + 1 + padM s : Nat) : Int) - 1) = ((s.length + padM s : Nat) : Int) by omega]; exact wrapI_nat (by omega)
  have e2 : padAt s = s.length + padM s := by unfold padAt; rw [e, Int.toNat_natCast, Nat.mul_one]
  have e3 : padN (padB1 s) (padM s) = padB2 s := by
    rw [padN_eq]; unfold padB2
    rw [List.drop_zero, List.take_of_length_le (by rw [padB1_length]; omega)]; rfl
  have e4 : (padB2 s).set (0 + (s.length + padM s) * 1) ((padB2 s).getD (0 + (s.length + padM s) * 1) 0 ^^^ BitVec.ofInt 8 128) = padB3 s := by
    unfold padB3; rw [e2, Nat.mul_one]
  have e5 : List.replicate 25 (BitVec.ofInt 64 0) = z25 s := rfl
  have e6 : List.replicate 32 (BitVec.ofInt 8 0) = z32 s := rfl
  have e7 : takeAll (padB3 s) 0 ((s.length + 1 + padM s) / 136) (z25 s) = sumA s := rfl
  have e8 : out8 (sumA s) (z32 s) 32 = sumO s := by rw [out8_eq]; rfl
  have l1 : (sumA s).length = 25 := takeAll_length _ _ _ rfl _
  have l2 : (sumO s).length = 32 := by unfold sumO; rw [outN_length]; rfl
  have l3 : (z25 s).length = 25 := rfl
  have l4 : (z32 s).length = 32 := rfl
  rw [e, Int.toNat_natCast, e3]
  have e9 : (OfNat.ofNat 0 : BitVec 8) = 0 := rfl
  rw [e9, e4, e5, e6, e7, e8]
  have e10 : (s.length + 1 + padM s) % 136 = 0 := by rw [hk]; omega
  simp only [rs0_ok, rs1_ok, rs3_ok, l1, l2, l3, l4, padB1_length, padB2_length, padB3_length, e10]
  refine stF ?_ ?_ rfl
  · simp only [Bool.and_eq_true, Bool.and_true, Bool.true_and, decide_eq_true_eq, List.length_cons, List.length_nil]
    (repeat' apply And.intro) <;> first | omega | trivial
  · rw [List.drop_zero, List.take_of_length_le (by omega)]
def rsumG := ct (fun (args : List V) (h : Heap) => match args, h with | [.str s], [] => some s | _, _ => none) (fun s => decide (s.length ≤ 140737488351232)) (fun s => .ret (.str (sumO s))) (fun _ => [])
theorem rsumG_ok : ∀ args h fin h', rsumG args h = some (true, fin, h') → LFn Pr 26 args h fin h' := by
  refine ct_ok (fun s => [.str s]) (fun _ => []) ?_ ?_
  · intro args h a e
    split at e <;> cases e
    exact ⟨rfl, rfl⟩
  · intro s hok
    refine execF_sound (fn := Go.Proofs.Try.f26) OV_sound mixed (by kernel_rfl) (LoopsOk.of [(rs0_s, rs0_k), (rs1_s, rs1_k), (rs3_s, rs3_k)] (by kernel_rfl) ?_) (rsum_exec s (of_decide_eq_true hok))
    intro p hp
    simp only [List.mem_cons, List.not_mem_nil, or_false] at hp
    rcases hp with rfl | rfl | rfl
    · exact rs0_at
    · exact rs1_at
    · exact rs3_at
end
end Go.Proofs.Ytklgiongdiojcaa.K
end
section
open Go Go.Lh Go.Lh.Bl
namespace Go.Proofs.Ytklgiongdiojcaa.K
noncomputable section
set_option maxRecDepth 100000
/-- a bloom with a text's bits; is a text there: told by name (the kernel looks no further) -/
def addB (xs s : List (BitVec 8)) : List (BitVec 8) := @ite _ True (Classical.propDecidable True) (setL xs (sumO s)) []
theorem addB_eq (xs s : List (BitVec 8)) : addB xs s = setL xs (sumO s) := if_pos trivial
def hasB (xs s : List (BitVec 8)) : Bool := @ite _ True (Classical.propDecidable True) (hasV xs (sumO s)) false
theorem hasB_eq (xs s : List (BitVec 8)) : hasB xs s = hasV xs (sumO s) := if_pos trivial
theorem addB_length (xs s : List (BitVec 8)) : (addB xs s).length = xs.length := by rw [addB_eq, lenL]
def is256 (xs : List (BitVec 8)) : Bool := @decide (xs.length = 256) (Classical.propDecidable _)
def isTxt (s : List (BitVec 8)) : Bool := @decide (s.length ≤ 140737488351232) (Classical.propDecidable _)
theorem is256_iff {xs : List (BitVec 8)} : is256 xs = true ↔ xs.length = 256 := by simp [is256]
theorem isTxt_iff {xs : List (BitVec 8)} : isTxt xs = true ↔ xs.length ≤ 140737488351232 := by simp [isTxt]
structure SX where
  xs : List (BitVec 8)
  s : List (BitVec 8)
def set_read : List V → Heap → Option SX := fun a h => match a, h with | [.ptr 0 0, .str s], [.b8 xs] => some ⟨xs, s⟩ | _, _ => none
def set_g := ctT set_read fun a => .chk (isTxt a.s) (.chk (is256 a.xs) (.leaf (.ret (.tup []), [.b8 (addB a.xs a.s)])))
theorem set_ok : ∀ args h r, (set_g args h).is r → LFn Pr 18 args h r.1 r.2 := by
  refine ctT_ok (fun a => [.ptr 0 0, .str a.s]) (fun a => [.b8 a.xs]) ?_ ?_
  · intro args h a e
    unfold set_read at e
    split at e <;> cases e
    exact ⟨rfl, rfl⟩
  · intro a r h
    rw [Tr.is_chk, Tr.is_chk, Tr.is_leaf] at h
    obtain ⟨h1, h2, rfl⟩ := h
    rw [addB_eq]
    exact set_fn a.s a.xs (isTxt_iff.1 h1) (is256_iff.1 h2)
def two_read : List V → Heap → Option SX := fun a h => match a, h with | [.str xs, .str s], [] => some ⟨xs, s⟩ | _, _ => none
def has_g := ctT two_read fun a => .chk (isTxt a.s) (.leaf (.ret (.bool (hasB a.xs a.s)), []))
theorem two_ok {f : SX → Tr (Fin × Heap)} {i : FuncId} (H : ∀ a r, (f a).is r → LFn Pr i [.str a.xs, .str a.s] [] r.1 r.2) : ∀ args h r, (ctT two_read f args h).is r → LFn Pr i args h r.1 r.2 := by
  refine ctT_ok (fun a => [.str a.xs, .str a.s]) (fun a => []) ?_ H
  intro args h a e
  unfold two_read at e
  split at e <;> cases e
  exact ⟨rfl, rfl⟩
theorem has_ok : ∀ args h r, (has_g args h).is r → LFn Pr 10 args h r.1 r.2 := by
  refine two_ok ?_
  intro a r h
  rw [Tr.is_chk, Tr.is_leaf] at h
  obtain ⟨h1, rfl⟩ := h
  rw [hasB_eq]
  exact has_fn a.s a.xs (isTxt_iff.1 h1)
def KB0 : KnownT := (18, set_g) :: (10, has_g) :: (26, old rsumG) :: KS
theorem KB0_ok : KOkT Pr KB0 := KOkT.cons (Enters.of (fn := Go.Proofs.Try.f18) (by kernel_rfl) (by kernel_rfl)) set_ok (KOkT.cons (Enters.of (fn := Go.Proofs.Try.f10) (by kernel_rfl) (by kernel_rfl)) has_ok
  (KOkT.cons (Enters.of (fn := Go.Proofs.Try.f26) (by kernel_rfl) (by kernel_rfl)) (old_ok rsumG_ok) KS_ok))
def OB0 : OrcT := autoT Pr noExt KB0 [] 2
theorem OB0_sound : OrcSound Pr OB0.o := autoT_sound mixed noExt_ok KB0_ok (by kernel_rfl) 2
def e256 (xs : List (BitVec 8)) : List (BitVec 8) := (upto 256).map fun k => xs.getD k 0
def KBb : KnownT := KB0
theorem emp_x : Tr.prune (Tr.Sh.any)
  (execBF Pr OB0 noLoopsT (100 : Nat) Go.Proofs.Try.f11 [] []) =
  Tr.chk true
  (Tr.leaf
    (Fin.ret (V.str (List.take (256 : Nat) (List.replicate (256 : Nat) (BitVec.ofInt (8 : Nat) (0 : Int))))),
      [])) := by kernel_rfl
theorem remp_x : Tr.prune (Tr.Sh.any)
  (execBF Pr OB0 noLoopsT (100 : Nat) Go.Proofs.Try.f21 [] []) =
  Tr.chk true
  (Tr.leaf
    (Fin.ret (V.str (List.take (256 : Nat) (List.replicate (256 : Nat) (BitVec.ofInt (8 : Nat) (0 : Int))))),
      [])) := by kernel_rfl
theorem add_x (xs : List (BitVec 8)) (s : List (BitVec 8)) : Tr.prune (Tr.Sh.any.both Tr.Sh.any)
  (execBF Pr OB0 noLoopsT (100 : Nat) Go.Proofs.Try.f8 [V.str xs, V.str s] []) =
  Tr.chk true
  (Tr.br ((↑xs.length : Int) != (256 : Int))
    (Tr.chk true (Tr.leaf (Fin.ret (V.tup [V.str (bytesOf (ByteArray.mk #[])), V.bool false]), [])))
    (Tr.chk
      (decide ((256 : Nat) ≤ xs.length) && true && (decide ((256 : Nat) ≤ xs.length) && true) &&
          (isTxt s &&
              is256
                (e256 xs) &&
            (decide
                ((256 : Nat) ≤
                  (addB
                      (e256 xs)
                      s).length) &&
              (decide
                  ((256 : Nat) ≤
                    (addB
                        (e256 xs)
                        s).length) &&
                true))) &&
        true)
      (Tr.leaf
        (Fin.ret
            (V.tup
              [V.str
                  (List.take (256 : Nat)
                    (addB
                      (e256 xs)
                      s)),
                V.bool true]),
          [])))) := by kernel_rfl
theorem bit_x (s : List (BitVec 8)) (i : Nat) : Tr.prune (Tr.Sh.any)
  (execBF Pr OB0 noLoopsT (100 : Nat) Go.Proofs.Try.f20 [V.str s, V.int IntKind.i64 (↑i : Int)] []) =
  Tr.chk
  (decide (s.length ≤ (140737488351232 : Nat)) && true &&
      (decide ((0 : Int) ≤ wrapI IntKind.i64 ((2 : Int) * (↑i : Int))) &&
          decide (wrapI IntKind.i64 ((2 : Int) * (↑i : Int)) < (↑(32 : Nat) : Int)) &&
        (decide ((0 : Int) ≤ wrapI IntKind.i64 (wrapI IntKind.i64 ((2 : Int) * (↑i : Int)) + (1 : Int))) &&
            decide (wrapI IntKind.i64 (wrapI IntKind.i64 ((2 : Int) * (↑i : Int)) + (1 : Int)) < (↑(32 : Nat) : Int)) &&
          true)) &&
    true)
  (Tr.leaf
    (Fin.ret
        (V.int IntKind.i64
          ((wrapI IntKind.i64
                (wrapI IntKind.i64
                    ((↑((sumO s).getD (wrapI IntKind.i64 ((2 : Int) * (↑i : Int))).toNat
                              (OfNat.ofNat (0 : Nat))).toNat :
                        Int) *
                      (256 : Int)) +
                  (↑((sumO s).getD (wrapI IntKind.i64 (wrapI IntKind.i64 ((2 : Int) * (↑i : Int)) + (1 : Int))).toNat
                          (OfNat.ofNat (0 : Nat))).toNat :
                    Int))).tmod
            (2048 : Int))),
      [])) := by kernel_rfl
theorem jn_x (a : List (BitVec 8)) (b : List (BitVec 8)) (i : Nat) : Tr.prune (Tr.Sh.any.both Tr.Sh.any)
  (execBN Pr OB0 noLoopsT (100 : Nat) (0 : Nat) [(1 : Nat), (6 : Nat), (20 : Nat)] [(6 : Nat)]
  (Lh.loopBody Go.Proofs.Try.f9 (0 : Nat))
  [((1 : Nat), V.str b), ((6 : Nat), V.ptr (0 : Nat) (0 : Nat)), ((20 : Nat), V.int IntKind.i64 (↑i : Int))]
  [Blk.b8 a]) =
  Tr.chk true
  (Tr.br (decide ((↑i : Int) < (256 : Int)))
    (Tr.chk
      (decide ((↑i : Int) < (256 : Int)) &&
          (decide ((0 : Nat) + i * (1 : Nat) < a.length) &&
            (decide ((↑i : Int) < (↑b.length : Int)) &&
              (decide ((↑i : Int) < (256 : Int)) && decide ((0 : Nat) + i * (1 : Nat) + (1 : Nat) ≤ a.length)))) &&
        true)
      (Tr.leaf
        (X.normal,
          [((1 : Nat), V.str b), ((6 : Nat), V.ptr (0 : Nat) (0 : Nat)),
            ((20 : Nat), V.int IntKind.i64 (wrapI IntKind.i64 ((↑i : Int) + (1 : Int))))],
          [Blk.b8
              (a.set ((0 : Nat) + i * (1 : Nat))
                (a.getD ((0 : Nat) + i * (1 : Nat)) (OfNat.ofNat (0 : Nat)) ||| b.getD i (OfNat.ofNat (0 : Nat))))])))
    (Tr.leaf (X.exit (0 : Nat), [((6 : Nat), V.ptr (0 : Nat) (0 : Nat))], [Blk.b8 a]))) := by kernel_rfl
theorem rjn_x (a : List (BitVec 8)) (b : List (BitVec 8)) (i : Nat) : Tr.prune (Tr.Sh.any.both Tr.Sh.any)
  (execBN Pr OB0 noLoopsT (100 : Nat) (0 : Nat) [(1 : Nat), (6 : Nat), (7 : Nat)] [(6 : Nat)]
  (Lh.loopBody Go.Proofs.Try.f13 (0 : Nat))
  [((1 : Nat), V.str b), ((6 : Nat), V.sl (0 : Nat) (0 : Nat) (1 : Nat) (256 : Nat) none),
    ((7 : Nat), V.int IntKind.i64 (↑i : Int))]
  [Blk.b8 a]) =
  Tr.chk true
  (Tr.br (decide ((↑i : Int) < (256 : Int)))
    (Tr.chk
      (decide ((↑i : Int) < (256 : Int)) &&
          (decide ((0 : Nat) + i * (1 : Nat) < a.length) &&
            (decide ((↑i : Int) < (↑b.length : Int)) &&
              (decide ((↑i : Int) < (256 : Int)) && decide ((0 : Nat) + i * (1 : Nat) + (1 : Nat) ≤ a.length)))) &&
        true)
      (Tr.leaf
        (X.normal,
          [((1 : Nat), V.str b), ((6 : Nat), V.sl (0 : Nat) (0 : Nat) (1 : Nat) (256 : Nat) none),
            ((7 : Nat), V.int IntKind.i64 (wrapI IntKind.i64 ((↑i : Int) + (1 : Int))))],
          [Blk.b8
              (a.set ((0 : Nat) + i * (1 : Nat))
                (a.getD ((0 : Nat) + i * (1 : Nat)) (OfNat.ofNat (0 : Nat)) ||| b.getD i (OfNat.ofNat (0 : Nat))))])))
    (Tr.leaf
      (X.exit (0 : Nat), [((6 : Nat), V.sl (0 : Nat) (0 : Nat) (1 : Nat) (256 : Nat) none)],
        [Blk.b8 a]))) := by kernel_rfl
end
end Go.Proofs.Ytklgiongdiojcaa.K
end
section
open Go Go.Lh Go.Lh.Bl
namespace Go.Proofs.Ytklgiongdiojcaa.K
noncomputable section
set_option maxRecDepth 100000
theorem e256_eq (xs : List (BitVec 8)) (h : xs.length = 256) : e256 xs = xs := by
  refine ext256 (by rfl) h fun j => ?_
  unfold e256
  have hu : upto 256 = List.range 256 := by decide +kernel
  rw [hu]
  rcases Nat.lt_or_ge j 256 with h1 | h1
  · simp [h1]
  · simp [h1, h]
def addS (xs s : List (BitVec 8)) : List (BitVec 8) := @ite _ (xs.length = 256) (Classical.propDecidable _) (addB xs s) []
def zer : List (BitVec 8) := List.replicate 256 (BitVec.ofInt 8 0)
theorem zer_eq : zer = zeros := rfl
theorem take256 (xs : List (BitVec 8)) (h : xs.length = 256) : List.take 256 xs = xs := List.take_of_length_le (by omega)
theorem emp_fn : LFn Pr 11 [] [] (.ret (.str zeros)) [] := by
  refine fnT OB0_sound mixed (by kernel_rfl) LoopsOk.noneT emp_x (tr1 rfl ?_)
  rw [take256 _ List.length_replicate]; rfl
theorem remp_fn : LFn Pr 21 [] [] (.ret (.str zeros)) [] := by
  refine fnT OB0_sound mixed (by kernel_rfl) LoopsOk.noneT remp_x (tr1 rfl ?_)
  rw [take256 _ List.length_replicate]; rfl
theorem add_fn (xs s : List (BitVec 8)) (hs : s.length ≤ 140737488351232) : LFn Pr 8 [.str xs, .str s] [] (.ret (.tup [.str (addS xs s), .bool (is256 xs)])) [] := by
  refine fnT OB0_sound mixed (by kernel_rfl) LoopsOk.noneT (add_x xs s) ?_
  have h1 : isTxt s = true := isTxt_iff.2 hs
  refine wp_chk_true.2 (wp_br.2 ⟨fun h => ?_, fun h => ?_⟩)
  · have hx : xs.length ≠ 256 := by intro e; rw [e] at h; exact absurd h (by decide)
    have h2 : is256 xs = false := by rw [← Bool.not_eq_true, is256_iff]; exact hx
    have h3 : addS xs s = [] := if_neg hx
    rw [h2, h3]; exact ⟨rfl, rfl⟩
  · have hx : xs.length = 256 := by
      have : ((xs.length : Int) != 256) = false := h
      simp at this; omega
    have h2 : is256 xs = true := is256_iff.2 hx
    have h3 : addS xs s = addB xs s := if_pos hx
    have h4 : (addB xs s).length = 256 := by rw [addB_length, hx]
    rw [e256_eq xs hx, h1, h2, h3, take256 _ h4, h4, hx]
    exact ⟨rfl, rfl⟩
def nB (s : List (BitVec 8)) (i : Nat) : Nat := @ite _ True (Classical.propDecidable True) (nOf (sumO s) i) 0
theorem nB_eq (s : List (BitVec 8)) (i : Nat) : nB s i = nOf (sumO s) i := if_pos trivial
theorem bit_fn (s : List (BitVec 8)) (i : Nat) (hs : s.length ≤ 140737488351232) (hi : i < 3) : LFn Pr 20 [.str s, .int .i64 (i : Int)] [] (.ret (.int .i64 (nB s i : Int))) [] := by
  have e1 : wrapI .i64 ((2 : Int) * (i : Int)) = ((2 * i : Nat) : Int) := by rw [show (2 : Int) * (i : Int) = ((2 * i : Nat) : Int) by omega]; exact wrapI_nat (by omega)
  have e2 : wrapI .i64 (((2 * i : Nat) : Int) + 1) = ((2 * i + 1 : Nat) : Int) := by rw [show ((2 * i : Nat) : Int) + 1 = ((2 * i + 1 : Nat) : Int) by omega]; exact wrapI_nat (by omega)
  refine fnT OB0_sound mixed (by kernel_rfl) LoopsOk.noneT (bit_x s i) (tr1 ?_ ?_)
  · rw [e1, e2]
    simp only [Bool.and_true, Bool.and_eq_true, decide_eq_true_eq]
    omega
  · rw [e1, e2, Int.toNat_natCast, Int.toNat_natCast, nB_eq]
    unfold nOf
    generalize hx : (sumO s).getD (2 * i) 0 = x
    generalize hy : (sumO s).getD (2 * i + 1) 0 = y
    have hx' : (sumO s).getD (2 * i) (OfNat.ofNat 0) = x := hx
    have hy' : (sumO s).getD (2 * i + 1) (OfNat.ofNat 0) = y := hy
    have := x.isLt; have := y.isLt
    have e3 : wrapI .i64 ((x.toNat : Int) * 256) = ((x.toNat * 256 : Nat) : Int) := by rw [show (x.toNat : Int) * 256 = ((x.toNat * 256 : Nat) : Int) by omega]; exact wrapI_nat (by omega)
    have e4 : wrapI .i64 (((x.toNat * 256 : Nat) : Int) + (y.toNat : Int)) = ((x.toNat * 256 + y.toNat : Nat) : Int) := by rw [show ((x.toNat * 256 : Nat) : Int) + (y.toNat : Int) = ((x.toNat * 256 + y.toNat : Nat) : Int) by omega]; exact wrapI_nat (by omega)
    rw [e3, e4, tmod_lit]
structure SI where
  s : List (BitVec 8)
  i : Int
def bit_read : List V → Heap → Option SI := fun a h => match a, h with | [.str s, .int .i64 i], [] => some ⟨s, i⟩ | _, _ => none
def bit_g := ctT bit_read fun a => .chk (isTxt a.s) (.chk (decide (0 ≤ a.i) && decide (a.i < 3)) (.leaf (.ret (.int .i64 (nB a.s a.i.toNat : Int)), [])))
theorem bit_ok : ∀ args h r, (bit_g args h).is r → LFn Pr 20 args h r.1 r.2 := by
  refine ctT_ok (fun a => [.str a.s, .int .i64 a.i]) (fun a => []) ?_ ?_
  · intro args h a e
    unfold bit_read at e
    split at e <;> cases e
    exact ⟨rfl, rfl⟩
  · rintro ⟨s, i⟩ r h
    rw [Tr.is_chk, Tr.is_chk, Tr.is_leaf] at h
    obtain ⟨h1, h2, rfl⟩ := h
    simp only [Bool.and_eq_true, decide_eq_true_eq] at h2
    obtain ⟨n, rfl⟩ : ∃ n : Nat, i = n := ⟨i.toNat, by omega⟩
    exact bit_fn s n (isTxt_iff.1 h1) (by omega)
def orN (a b : List (BitVec 8)) : Nat → List (BitVec 8)
  | 0 => a
  | n + 1 => (orN a b n).set n ((orN a b n).getD n 0 ||| b.getD n 0)
theorem orN_length (a b : List (BitVec 8)) : ∀ n, (orN a b n).length = a.length
  | 0 => rfl
  | n + 1 => by simp [orN, orN_length a b n]
theorem orN_get (a b : List (BitVec 8)) : ∀ n, n ≤ a.length → ∀ j, (orN a b n).getD j 0 = if j < n then a.getD j 0 ||| b.getD j 0 else a.getD j 0
  | 0, _, j => by simp [orN]
  | n + 1, h, j => by
    have ih := orN_get a b n (by omega)
    by_cases e : j = n
    · subst e
      have h0 := ih j
      rw [if_neg (Nat.lt_irrefl j)] at h0
      rw [if_pos (Nat.lt_succ_self j)]
      show ((orN a b j).set j ((orN a b j).getD j 0 ||| b.getD j 0)).getD j 0 = _
      rw [h0, List.getD_eq_getElem?_getD, List.getElem?_set_self (by rw [orN_length]; omega)]
      rfl
    · show ((orN a b n).set n ((orN a b n).getD n 0 ||| b.getD n 0)).getD j 0 = _
      rw [List.getD_eq_getElem?_getD, List.getElem?_set_ne (Ne.symm e), ← List.getD_eq_getElem?_getD, ih j]
      by_cases h3 : j < n
      · rw [if_pos h3, if_pos (by omega)]
      · rw [if_neg h3, if_neg (by omega)]
theorem orN_256 (a b : List (BitVec 8)) (ha : a.length = 256) (hb : b.length = 256) : orN a b 256 = orL a b := by
  refine ext256 (by rw [orN_length, ha]) (by rw [len_or, ha, hb]; rfl) fun j => ?_
  rw [orN_get a b 256 (by omega), get_or _ _ (by omega)]
  split
  · rfl
  · rename_i h
    have h1 : a.getD j 0 = 0#8 := by rw [List.getD_eq_getElem?_getD, List.getElem?_eq_none (by omega)]; rfl
    have h2 : b.getD j 0 = 0#8 := by rw [List.getD_eq_getElem?_getD, List.getElem?_eq_none (by omega)]; rfl
    rw [h1, h2]; rfl
structure AB where
  a : List (BitVec 8)
  b : List (BitVec 8)
def joinL (a b : List (BitVec 8)) : List (BitVec 8) := @ite _ True (Classical.propDecidable True) (orL a b) []
theorem joinL_eq (a b : List (BitVec 8)) : joinL a b = orL a b := if_pos trivial
def jn_S (x : AB) (i : Nat) : Fr × Heap := ([(1,.str x.b),(6,.ptr 0 0),(20,.int .i64 (i : Nat))], [.b8 (orN x.a x.b i)])
def jn_read : Fr → Heap → Option AB := fun f h => match f, h with
  | [(1,.str b),(6,.ptr 0 0),(20,.int .i64 0)], [.b8 a] => some ⟨a, b⟩
  | _, _ => none
def jn_ok (x : AB) : Bool := is256 x.a && is256 x.b
def jn_E (x : AB) : Tr (X × Fr × Heap) := .leaf (.exit 0, [(6,.ptr 0 0)], [.b8 (joinL x.a x.b)])
def jn_s : SmT := whT 5 [1,6,20] jn_read jn_ok jn_E
theorem jn_at : SmAtT Pr Go.Proofs.Try.f9 0 jn_s 0 := by
  refine cntT_x OB0_sound mixed jn_S (fun _ => 256) (fun x i => jn_x (orN x.a x.b i) x.b i) (by kernel_rfl) (by kernel_rfl) (by kernel_rfl) LoopsOk.noneT ?_ ?_
  · intro f g a h
    unfold jn_read at h
    split at h <;> cases h
    rfl
  · rintro ⟨a, b⟩ q hok hq i hi
    simp only [jn_ok, Bool.and_eq_true, is256_iff] at hok
    obtain ⟨ha, hb⟩ := hok
    rw [jn_E, Tr.is_leaf] at hq
    simp only at hq hi ⊢
    simp only [wp_chk, wp_leaf, wp_br, orN_length, ha, hb, Bool.and_eq_true, decide_eq_true_eq, decide_eq_false_iff_not, Bool.and_true, true_and]
    refine ⟨fun h => ⟨by omega, .inl ⟨by omega, ?_⟩⟩, fun h => .inr ⟨fun h => (by cases h), ?_⟩⟩
    · rw [jn_S, show ((i : Int) + 1) = ((i + 1 : Nat) : Int) by omega, wrapI_nat (by omega), Nat.zero_add, Nat.mul_one]
      rfl
    · have e : i = 256 := by omega
      rw [← hq, e, orN_256 a b ha hb, joinL_eq]
theorem jn_Ls : LoopsOk Pr Go.Proofs.Try.f9 0 (smLT 0 [jn_s]).o := LoopsOk.one (by kernel_rfl) jn_at
theorem rjn2_x (a : List (BitVec 8)) (b : List (BitVec 8)) (l : Nat) (i : Nat) : Tr.prune (Tr.Sh.any.both
  Tr.Sh.any)
  (execBN Pr OB0 noLoopsT (100 : Nat) (0 : Nat) [(1 : Nat), (6 : Nat), (7 : Nat)] [(6 : Nat)]
  (Lh.loopBody Go.Proofs.Try.f13 (0 : Nat))
  [((1 : Nat), V.str b), ((6 : Nat), V.sl (0 : Nat) (0 : Nat) (1 : Nat) l none),
    ((7 : Nat), V.int IntKind.i64 (↑i : Int))]
  [Blk.b8 a]) =
  Tr.chk true
  (Tr.br (decide ((↑i : Int) < (256 : Int)))
    (Tr.chk
      (decide ((↑i : Int) < (↑l : Int)) &&
          (decide ((0 : Nat) + i * (1 : Nat) < a.length) &&
            (decide ((↑i : Int) < (↑b.length : Int)) &&
              (decide ((↑i : Int) < (↑l : Int)) && decide ((0 : Nat) + i * (1 : Nat) + (1 : Nat) ≤ a.length)))) &&
        true)
      (Tr.leaf
        (X.normal,
          [((1 : Nat), V.str b), ((6 : Nat), V.sl (0 : Nat) (0 : Nat) (1 : Nat) l none),
            ((7 : Nat), V.int IntKind.i64 (wrapI IntKind.i64 ((↑i : Int) + (1 : Int))))],
          [Blk.b8
              (a.set ((0 : Nat) + i * (1 : Nat))
                (a.getD ((0 : Nat) + i * (1 : Nat)) (OfNat.ofNat (0 : Nat)) ||| b.getD i (OfNat.ofNat (0 : Nat))))])))
    (Tr.leaf (X.exit (0 : Nat), [((6 : Nat), V.sl (0 : Nat) (0 : Nat) (1 : Nat) l none)], [Blk.b8 a]))) := by kernel_rfl
structure ABL where
  a : List (BitVec 8)
  b : List (BitVec 8)
  l : Nat
def rjn_S (x : ABL) (i : Nat) : Fr × Heap := ([(1,.str x.b),(6,.sl 0 0 1 x.l none),(7,.int .i64 (i : Nat))], [.b8 (orN x.a x.b i)])
def rjn_read : Fr → Heap → Option ABL := fun f h => match f, h with
  | [(1,.str b),(6,.sl 0 0 1 l none),(7,.int .i64 0)], [.b8 a] => some ⟨a, b, l⟩
  | _, _ => none
def rjn_ok (x : ABL) : Bool := @decide (x.a.length = 256 ∧ x.b.length = 256 ∧ x.l = 256) (Classical.propDecidable _)
def rjn_E (x : ABL) : Tr (X × Fr × Heap) := .leaf (.exit 0, [(6,.sl 0 0 1 x.l none)], [.b8 (joinL x.a x.b)])
def rjn_s : SmT := whT 5 [1,6,7] rjn_read rjn_ok rjn_E
theorem rjn_at : SmAtT Pr Go.Proofs.Try.f13 0 rjn_s 0 := by
  refine cntT_x OB0_sound mixed rjn_S (fun _ => 256) (fun x i => rjn2_x (orN x.a x.b i) x.b x.l i) (by kernel_rfl) (by kernel_rfl) (by kernel_rfl) LoopsOk.noneT ?_ ?_
  · intro f g a h
    unfold rjn_read at h
    split at h <;> cases h
    rfl
  · rintro ⟨a, b, l⟩ q hok hq i hi
    have hok := @of_decide_eq_true _ (Classical.propDecidable _) hok
    simp only at hok
    obtain ⟨ha, hb, rfl⟩ := hok
    rw [rjn_E, Tr.is_leaf] at hq
    simp only at hq hi ⊢
    simp only [wp_chk, wp_leaf, wp_br, orN_length, ha, hb, Bool.and_eq_true, decide_eq_true_eq, decide_eq_false_iff_not, Bool.and_true, true_and]
    refine ⟨fun h => ⟨by omega, .inl ⟨by omega, ?_⟩⟩, fun h => .inr ⟨fun h => (by cases h), ?_⟩⟩
    · rw [rjn_S, show ((i : Int) + 1) = ((i + 1 : Nat) : Int) by omega, wrapI_nat (by omega), Nat.zero_add, Nat.mul_one]
      rfl
    · have e : i = 256 := by omega
      rw [← hq, e, orN_256 a b ha hb, joinL_eq]
theorem rjn_Ls : LoopsOk Pr Go.Proofs.Try.f13 0 (smLT 0 [rjn_s]).o := LoopsOk.one (by kernel_rfl) rjn_at
def KB1 : KnownT := (20, bit_g) :: KB0
theorem KB1_ok : KOkT Pr KB1 := KOkT.cons (Enters.of (fn := Go.Proofs.Try.f20) (by kernel_rfl) (by kernel_rfl)) bit_ok KB0_ok
def OB1 : OrcT := autoT Pr noExt KB1 [] 2
theorem OB1_sound : OrcSound Pr OB1.o := autoT_sound mixed noExt_ok KB1_ok (by kernel_rfl) 2
theorem jnf_x (a : List (BitVec 8)) (b : List (BitVec 8)) : Tr.prune (Tr.Sh.any.l.l.l.both
  (Tr.Sh.any.both Tr.Sh.any).r.r)
  (execBF Pr OB0 (smLT (0 : Nat) [jn_s]) (100 : Nat) Go.Proofs.Try.f9 [V.str a, V.str b] []) =
  Tr.chk true
  (Tr.br ((↑a.length : Int) != (256 : Int))
    (Tr.chk true (Tr.leaf (Fin.ret (V.tup [V.str (bytesOf (ByteArray.mk #[])), V.bool false]), [])))
    (Tr.chk true
      (Tr.br ((↑b.length : Int) != (256 : Int))
        (Tr.chk true (Tr.leaf (Fin.ret (V.tup [V.str (bytesOf (ByteArray.mk #[])), V.bool false]), [])))
        (Tr.chk
          (decide ((256 : Nat) ≤ a.length) && true && (decide ((256 : Nat) ≤ a.length) && true) &&
              (jn_ok
                  (AB.mk
                    (e256 a)
                    b) &&
                (decide
                    ((256 : Nat) ≤
                      (joinL
                          (e256 a)
                          b).length) &&
                  (decide
                      ((256 : Nat) ≤
                        (joinL
                            (e256 a)
                            b).length) &&
                    true))) &&
            true)
          (Tr.leaf
            (Fin.ret
                (V.tup
                  [V.str
                      (List.take (256 : Nat)
                        (joinL
                          (e256 a)
                          b)),
                    V.bool true]),
              [])))))) := by kernel_rfl
theorem rjnf_x (a : List (BitVec 8)) (b : List (BitVec 8)) : Tr.prune (Tr.Sh.any.l.l.l.both
  (Tr.Sh.any.both Tr.Sh.any).r.r)
  (execBF Pr OB0 (smLT (0 : Nat) [rjn_s]) (100 : Nat) Go.Proofs.Try.f13 [V.str a, V.str b] []) =
  Tr.chk true
  (Tr.br ((↑a.length : Int) != (256 : Int))
    (Tr.chk true (Tr.leaf (Fin.ret (V.tup [V.str (bytesOf (ByteArray.mk #[])), V.bool false]), [])))
    (Tr.chk true
      (Tr.br ((↑b.length : Int) != (256 : Int))
        (Tr.chk true (Tr.leaf (Fin.ret (V.tup [V.str (bytesOf (ByteArray.mk #[])), V.bool false]), [])))
        (Tr.chk (rjn_ok (ABL.mk a b a.length) && (decide ((0 : Nat) + a.length ≤ (joinL a b).length) && true) && true)
          (Tr.leaf (Fin.ret (V.tup [V.str (List.take a.length (joinL a b)), V.bool true]), [])))))) := by kernel_rfl
theorem radd_x (xs : List (BitVec 8)) (s : List (BitVec 8)) : Tr.prune (Tr.Sh.any.both Tr.Sh.any.r.l.l.l)
  (execBF Pr OB1 noLoopsT (100 : Nat) Go.Proofs.Try.f12 [V.str xs, V.str s] []) =
  Tr.chk true
  (Tr.br ((↑xs.length : Int) != (256 : Int))
    (Tr.chk true (Tr.leaf (Fin.ret (V.tup [V.str (bytesOf (ByteArray.mk #[])), V.bool false]), [])))
    (Tr.chk
      (isTxt s && true && true &&
              (decide
                    ((0 : Int) ≤
                      wrapI IntKind.i64
                        ((255 : Int) - wrapI IntKind.i64 ((↑(nB s (Int.toNat (0 : Int))) : Int).tdiv (8 : Int)))) &&
                  decide
                    (wrapI IntKind.i64
                        ((255 : Int) - wrapI IntKind.i64 ((↑(nB s (Int.toNat (0 : Int))) : Int).tdiv (8 : Int))) <
                      (↑xs.length : Int)) &&
                (decide
                    ((0 : Nat) +
                        (wrapI IntKind.i64
                              ((255 : Int) -
                                wrapI IntKind.i64 ((↑(nB s (Int.toNat (0 : Int))) : Int).tdiv (8 : Int)))).toNat *
                          (1 : Nat) <
                      xs.length) &&
                  (decide
                        ((0 : Int) ≤
                          wrapI IntKind.i64
                            ((255 : Int) - wrapI IntKind.i64 ((↑(nB s (Int.toNat (0 : Int))) : Int).tdiv (8 : Int)))) &&
                      decide
                        (wrapI IntKind.i64
                            ((255 : Int) - wrapI IntKind.i64 ((↑(nB s (Int.toNat (0 : Int))) : Int).tdiv (8 : Int))) <
                          (↑xs.length : Int)) &&
                    decide
                      ((0 : Nat) +
                            (wrapI IntKind.i64
                                  ((255 : Int) -
                                    wrapI IntKind.i64 ((↑(nB s (Int.toNat (0 : Int))) : Int).tdiv (8 : Int)))).toNat *
                              (1 : Nat) +
                          (1 : Nat) ≤
                        xs.length)))) &&
            true &&
          true &&
        (isTxt s && true && true &&
                (decide
                      ((0 : Int) ≤
                        wrapI IntKind.i64
                          ((255 : Int) - wrapI IntKind.i64 ((↑(nB s (Int.toNat (1 : Int))) : Int).tdiv (8 : Int)))) &&
                    decide
                      (wrapI IntKind.i64
                          ((255 : Int) - wrapI IntKind.i64 ((↑(nB s (Int.toNat (1 : Int))) : Int).tdiv (8 : Int))) <
                        (↑xs.length : Int)) &&
                  (decide
                      ((0 : Nat) +
                          (wrapI IntKind.i64
                                ((255 : Int) -
                                  wrapI IntKind.i64 ((↑(nB s (Int.toNat (1 : Int))) : Int).tdiv (8 : Int)))).toNat *
                            (1 : Nat) <
                        (xs.set
                            ((0 : Nat) +
                              (wrapI IntKind.i64
                                    ((255 : Int) -
                                      wrapI IntKind.i64 ((↑(nB s (0 : Nat)) : Int).tdiv (8 : Int)))).toNat *
                                (1 : Nat))
                            (xs.getD
                                ((0 : Nat) +
                                  (wrapI IntKind.i64
                                        ((255 : Int) -
                                          wrapI IntKind.i64 ((↑(nB s (0 : Nat)) : Int).tdiv (8 : Int)))).toNat *
                                    (1 : Nat))
                                (OfNat.ofNat (0 : Nat)) |||
                              BitVec.ofInt (8 : Nat) (1 : Int) <<<
                                ((↑(nB s (0 : Nat)) : Int).tmod (8 : Int)).toNat)).length) &&
                    (decide
                          ((0 : Int) ≤
                            wrapI IntKind.i64
                              ((255 : Int) -
                                wrapI IntKind.i64 ((↑(nB s (Int.toNat (1 : Int))) : Int).tdiv (8 : Int)))) &&
                        decide
                          (wrapI IntKind.i64
                              ((255 : Int) - wrapI IntKind.i64 ((↑(nB s (Int.toNat (1 : Int))) : Int).tdiv (8 : Int))) <
                            (↑xs.length : Int)) &&
                      decide
                        ((0 : Nat) +
                              (wrapI IntKind.i64
                                    ((255 : Int) -
                                      wrapI IntKind.i64 ((↑(nB s (Int.toNat (1 : Int))) : Int).tdiv (8 : Int)))).toNat *
                                (1 : Nat) +
                            (1 : Nat) ≤
                          (xs.set
                              ((0 : Nat) +
                                (wrapI IntKind.i64
                                      ((255 : Int) -
                                        wrapI IntKind.i64 ((↑(nB s (0 : Nat)) : Int).tdiv (8 : Int)))).toNat *
                                  (1 : Nat))
                              (xs.getD
                                  ((0 : Nat) +
                                    (wrapI IntKind.i64
                                          ((255 : Int) -
                                            wrapI IntKind.i64 ((↑(nB s (0 : Nat)) : Int).tdiv (8 : Int)))).toNat *
                                      (1 : Nat))
                                  (OfNat.ofNat (0 : Nat)) |||
                                BitVec.ofInt (8 : Nat) (1 : Int) <<<
                                  ((↑(nB s (0 : Nat)) : Int).tmod (8 : Int)).toNat)).length)))) &&
              true &&
            true &&
          (isTxt s && true && true &&
                  (decide
                        ((0 : Int) ≤
                          wrapI IntKind.i64
                            ((255 : Int) - wrapI IntKind.i64 ((↑(nB s (Int.toNat (2 : Int))) : Int).tdiv (8 : Int)))) &&
                      decide
                        (wrapI IntKind.i64
                            ((255 : Int) - wrapI IntKind.i64 ((↑(nB s (Int.toNat (2 : Int))) : Int).tdiv (8 : Int))) <
                          (↑xs.length : Int)) &&
                    (decide
                        ((0 : Nat) +
                            (wrapI IntKind.i64
                                  ((255 : Int) -
                                    wrapI IntKind.i64 ((↑(nB s (Int.toNat (2 : Int))) : Int).tdiv (8 : Int)))).toNat *
                              (1 : Nat) <
                          ((xs.set
                                  ((0 : Nat) +
                                    (wrapI IntKind.i64
                                          ((255 : Int) -
                                            wrapI IntKind.i64 ((↑(nB s (0 : Nat)) : Int).tdiv (8 : Int)))).toNat *
                                      (1 : Nat))
                                  (xs.getD
                                      ((0 : Nat) +
                                        (wrapI IntKind.i64
                                              ((255 : Int) -
                                                wrapI IntKind.i64 ((↑(nB s (0 : Nat)) : Int).tdiv (8 : Int)))).toNat *
                                          (1 : Nat))
                                      (OfNat.ofNat (0 : Nat)) |||
                                    BitVec.ofInt (8 : Nat) (1 : Int) <<<
                                      ((↑(nB s (0 : Nat)) : Int).tmod (8 : Int)).toNat)).set
                              ((0 : Nat) +
                                (wrapI IntKind.i64
                                      ((255 : Int) -
                                        wrapI IntKind.i64 ((↑(nB s (1 : Nat)) : Int).tdiv (8 : Int)))).toNat *
                                  (1 : Nat))
                              ((xs.set
                                      ((0 : Nat) +
                                        (wrapI IntKind.i64
                                              ((255 : Int) -
                                                wrapI IntKind.i64 ((↑(nB s (0 : Nat)) : Int).tdiv (8 : Int)))).toNat *
                                          (1 : Nat))
                                      (xs.getD
                                          ((0 : Nat) +
                                            (wrapI IntKind.i64
                                                  ((255 : Int) -
                                                    wrapI IntKind.i64
                                                      ((↑(nB s (0 : Nat)) : Int).tdiv (8 : Int)))).toNat *
                                              (1 : Nat))
                                          (OfNat.ofNat (0 : Nat)) |||
                                        BitVec.ofInt (8 : Nat) (1 : Int) <<<
                                          ((↑(nB s (0 : Nat)) : Int).tmod (8 : Int)).toNat)).getD
                                  ((0 : Nat) +
                                    (wrapI IntKind.i64
                                          ((255 : Int) -
                                            wrapI IntKind.i64 ((↑(nB s (1 : Nat)) : Int).tdiv (8 : Int)))).toNat *
                                      (1 : Nat))
                                  (OfNat.ofNat (0 : Nat)) |||
                                BitVec.ofInt (8 : Nat) (1 : Int) <<<
                                  ((↑(nB s (1 : Nat)) : Int).tmod (8 : Int)).toNat)).length) &&
                      (decide
                            ((0 : Int) ≤
                              wrapI IntKind.i64
                                ((255 : Int) -
                                  wrapI IntKind.i64 ((↑(nB s (Int.toNat (2 : Int))) : Int).tdiv (8 : Int)))) &&
                          decide
                            (wrapI IntKind.i64
                                ((255 : Int) -
                                  wrapI IntKind.i64 ((↑(nB s (Int.toNat (2 : Int))) : Int).tdiv (8 : Int))) <
                              (↑xs.length : Int)) &&
                        decide
                          ((0 : Nat) +
                                (wrapI IntKind.i64
                                      ((255 : Int) -
                                        wrapI IntKind.i64
                                          ((↑(nB s (Int.toNat (2 : Int))) : Int).tdiv (8 : Int)))).toNat *
                                  (1 : Nat) +
                              (1 : Nat) ≤
                            ((xs.set
                                    ((0 : Nat) +
                                      (wrapI IntKind.i64
                                            ((255 : Int) -
                                              wrapI IntKind.i64 ((↑(nB s (0 : Nat)) : Int).tdiv (8 : Int)))).toNat *
                                        (1 : Nat))
                                    (xs.getD
                                        ((0 : Nat) +
                                          (wrapI IntKind.i64
                                                ((255 : Int) -
                                                  wrapI IntKind.i64 ((↑(nB s (0 : Nat)) : Int).tdiv (8 : Int)))).toNat *
                                            (1 : Nat))
                                        (OfNat.ofNat (0 : Nat)) |||
                                      BitVec.ofInt (8 : Nat) (1 : Int) <<<
                                        ((↑(nB s (0 : Nat)) : Int).tmod (8 : Int)).toNat)).set
                                ((0 : Nat) +
                                  (wrapI IntKind.i64
                                        ((255 : Int) -
                                          wrapI IntKind.i64 ((↑(nB s (1 : Nat)) : Int).tdiv (8 : Int)))).toNat *
                                    (1 : Nat))
                                ((xs.set
                                        ((0 : Nat) +
                                          (wrapI IntKind.i64
                                                ((255 : Int) -
                                                  wrapI IntKind.i64 ((↑(nB s (0 : Nat)) : Int).tdiv (8 : Int)))).toNat *
                                            (1 : Nat))
                                        (xs.getD
                                            ((0 : Nat) +
                                              (wrapI IntKind.i64
                                                    ((255 : Int) -
                                                      wrapI IntKind.i64
                                                        ((↑(nB s (0 : Nat)) : Int).tdiv (8 : Int)))).toNat *
                                                (1 : Nat))
                                            (OfNat.ofNat (0 : Nat)) |||
                                          BitVec.ofInt (8 : Nat) (1 : Int) <<<
                                            ((↑(nB s (0 : Nat)) : Int).tmod (8 : Int)).toNat)).getD
                                    ((0 : Nat) +
                                      (wrapI IntKind.i64
                                            ((255 : Int) -
                                              wrapI IntKind.i64 ((↑(nB s (1 : Nat)) : Int).tdiv (8 : Int)))).toNat *
                                        (1 : Nat))
                                    (OfNat.ofNat (0 : Nat)) |||
                                  BitVec.ofInt (8 : Nat) (1 : Int) <<<
                                    ((↑(nB s (1 : Nat)) : Int).tmod (8 : Int)).toNat)).length)))) &&
                true &&
              true &&
            (decide
                  ((0 : Nat) + xs.length ≤
                    (((xs.set
                                ((0 : Nat) +
                                  (wrapI IntKind.i64
                                        ((255 : Int) -
                                          wrapI IntKind.i64
                                            ((↑(nB s (Int.toNat (0 : Int))) : Int).tdiv (8 : Int)))).toNat *
                                    (1 : Nat))
                                (xs.getD
                                    ((0 : Nat) +
                                      (wrapI IntKind.i64
                                            ((255 : Int) -
                                              wrapI IntKind.i64
                                                ((↑(nB s (Int.toNat (0 : Int))) : Int).tdiv (8 : Int)))).toNat *
                                        (1 : Nat))
                                    (OfNat.ofNat (0 : Nat)) |||
                                  BitVec.ofInt (8 : Nat) (1 : Int) <<<
                                    ((↑(nB s (Int.toNat (0 : Int))) : Int).tmod (8 : Int)).toNat)).set
                            ((0 : Nat) +
                              (wrapI IntKind.i64
                                    ((255 : Int) -
                                      wrapI IntKind.i64 ((↑(nB s (Int.toNat (1 : Int))) : Int).tdiv (8 : Int)))).toNat *
                                (1 : Nat))
                            ((xs.set
                                    ((0 : Nat) +
                                      (wrapI IntKind.i64
                                            ((255 : Int) -
                                              wrapI IntKind.i64
                                                ((↑(nB s (Int.toNat (0 : Int))) : Int).tdiv (8 : Int)))).toNat *
                                        (1 : Nat))
                                    (xs.getD
                                        ((0 : Nat) +
                                          (wrapI IntKind.i64
                                                ((255 : Int) -
                                                  wrapI IntKind.i64
                                                    ((↑(nB s (Int.toNat (0 : Int))) : Int).tdiv (8 : Int)))).toNat *
                                            (1 : Nat))
                                        (OfNat.ofNat (0 : Nat)) |||
                                      BitVec.ofInt (8 : Nat) (1 : Int) <<<
                                        ((↑(nB s (Int.toNat (0 : Int))) : Int).tmod (8 : Int)).toNat)).getD
                                ((0 : Nat) +
                                  (wrapI IntKind.i64
                                        ((255 : Int) -
                                          wrapI IntKind.i64
                                            ((↑(nB s (Int.toNat (1 : Int))) : Int).tdiv (8 : Int)))).toNat *
                                    (1 : Nat))
                                (OfNat.ofNat (0 : Nat)) |||
                              BitVec.ofInt (8 : Nat) (1 : Int) <<<
                                ((↑(nB s (Int.toNat (1 : Int))) : Int).tmod (8 : Int)).toNat)).set
                        ((0 : Nat) +
                          (wrapI IntKind.i64
                                ((255 : Int) -
                                  wrapI IntKind.i64 ((↑(nB s (Int.toNat (2 : Int))) : Int).tdiv (8 : Int)))).toNat *
                            (1 : Nat))
                        (((xs.set
                                    ((0 : Nat) +
                                      (wrapI IntKind.i64
                                            ((255 : Int) -
                                              wrapI IntKind.i64
                                                ((↑(nB s (Int.toNat (0 : Int))) : Int).tdiv (8 : Int)))).toNat *
                                        (1 : Nat))
                                    (xs.getD
                                        ((0 : Nat) +
                                          (wrapI IntKind.i64
                                                ((255 : Int) -
                                                  wrapI IntKind.i64
                                                    ((↑(nB s (Int.toNat (0 : Int))) : Int).tdiv (8 : Int)))).toNat *
                                            (1 : Nat))
                                        (OfNat.ofNat (0 : Nat)) |||
                                      BitVec.ofInt (8 : Nat) (1 : Int) <<<
                                        ((↑(nB s (Int.toNat (0 : Int))) : Int).tmod (8 : Int)).toNat)).set
                                ((0 : Nat) +
                                  (wrapI IntKind.i64
                                        ((255 : Int) -
                                          wrapI IntKind.i64
                                            ((↑(nB s (Int.toNat (1 : Int))) : Int).tdiv (8 : Int)))).toNat *
                                    (1 : Nat))
                                ((xs.set
                                        ((0 : Nat) +
                                          (wrapI IntKind.i64
                                                ((255 : Int) -
                                                  wrapI IntKind.i64
                                                    ((↑(nB s (Int.toNat (0 : Int))) : Int).tdiv (8 : Int)))).toNat *
                                            (1 : Nat))
                                        (xs.getD
                                            ((0 : Nat) +
                                              (wrapI IntKind.i64
                                                    ((255 : Int) -
                                                      wrapI IntKind.i64
                                                        ((↑(nB s (Int.toNat (0 : Int))) : Int).tdiv (8 : Int)))).toNat *
                                                (1 : Nat))
                                            (OfNat.ofNat (0 : Nat)) |||
                                          BitVec.ofInt (8 : Nat) (1 : Int) <<<
                                            ((↑(nB s (Int.toNat (0 : Int))) : Int).tmod (8 : Int)).toNat)).getD
                                    ((0 : Nat) +
                                      (wrapI IntKind.i64
                                            ((255 : Int) -
                                              wrapI IntKind.i64
                                                ((↑(nB s (Int.toNat (1 : Int))) : Int).tdiv (8 : Int)))).toNat *
                                        (1 : Nat))
                                    (OfNat.ofNat (0 : Nat)) |||
                                  BitVec.ofInt (8 : Nat) (1 : Int) <<<
                                    ((↑(nB s (Int.toNat (1 : Int))) : Int).tmod (8 : Int)).toNat)).getD
                            ((0 : Nat) +
                              (wrapI IntKind.i64
                                    ((255 : Int) -
                                      wrapI IntKind.i64 ((↑(nB s (Int.toNat (2 : Int))) : Int).tdiv (8 : Int)))).toNat *
                                (1 : Nat))
                            (OfNat.ofNat (0 : Nat)) |||
                          BitVec.ofInt (8 : Nat) (1 : Int) <<<
                            ((↑(nB s (Int.toNat (2 : Int))) : Int).tmod (8 : Int)).toNat)).length) &&
                true &&
              true))))
      (Tr.leaf
        (Fin.ret
            (V.tup
              [V.str
                  (List.take xs.length
                    (((xs.set
                              ((0 : Nat) +
                                (wrapI IntKind.i64
                                      ((255 : Int) -
                                        wrapI IntKind.i64
                                          ((↑(nB s (Int.toNat (0 : Int))) : Int).tdiv (8 : Int)))).toNat *
                                  (1 : Nat))
                              (xs.getD
                                  ((0 : Nat) +
                                    (wrapI IntKind.i64
                                          ((255 : Int) -
                                            wrapI IntKind.i64
                                              ((↑(nB s (Int.toNat (0 : Int))) : Int).tdiv (8 : Int)))).toNat *
                                      (1 : Nat))
                                  (OfNat.ofNat (0 : Nat)) |||
                                BitVec.ofInt (8 : Nat) (1 : Int) <<<
                                  ((↑(nB s (Int.toNat (0 : Int))) : Int).tmod (8 : Int)).toNat)).set
                          ((0 : Nat) +
                            (wrapI IntKind.i64
                                  ((255 : Int) -
                                    wrapI IntKind.i64 ((↑(nB s (Int.toNat (1 : Int))) : Int).tdiv (8 : Int)))).toNat *
                              (1 : Nat))
                          ((xs.set
                                  ((0 : Nat) +
                                    (wrapI IntKind.i64
                                          ((255 : Int) -
                                            wrapI IntKind.i64
                                              ((↑(nB s (Int.toNat (0 : Int))) : Int).tdiv (8 : Int)))).toNat *
                                      (1 : Nat))
                                  (xs.getD
                                      ((0 : Nat) +
                                        (wrapI IntKind.i64
                                              ((255 : Int) -
                                                wrapI IntKind.i64
                                                  ((↑(nB s (Int.toNat (0 : Int))) : Int).tdiv (8 : Int)))).toNat *
                                          (1 : Nat))
                                      (OfNat.ofNat (0 : Nat)) |||
                                    BitVec.ofInt (8 : Nat) (1 : Int) <<<
                                      ((↑(nB s (Int.toNat (0 : Int))) : Int).tmod (8 : Int)).toNat)).getD
                              ((0 : Nat) +
                                (wrapI IntKind.i64
                                      ((255 : Int) -
                                        wrapI IntKind.i64
                                          ((↑(nB s (Int.toNat (1 : Int))) : Int).tdiv (8 : Int)))).toNat *
                                  (1 : Nat))
                              (OfNat.ofNat (0 : Nat)) |||
                            BitVec.ofInt (8 : Nat) (1 : Int) <<<
                              ((↑(nB s (Int.toNat (1 : Int))) : Int).tmod (8 : Int)).toNat)).set
                      ((0 : Nat) +
                        (wrapI IntKind.i64
                              ((255 : Int) -
                                wrapI IntKind.i64 ((↑(nB s (Int.toNat (2 : Int))) : Int).tdiv (8 : Int)))).toNat *
                          (1 : Nat))
                      (((xs.set
                                  ((0 : Nat) +
                                    (wrapI IntKind.i64
                                          ((255 : Int) -
                                            wrapI IntKind.i64
                                              ((↑(nB s (Int.toNat (0 : Int))) : Int).tdiv (8 : Int)))).toNat *
                                      (1 : Nat))
                                  (xs.getD
                                      ((0 : Nat) +
                                        (wrapI IntKind.i64
                                              ((255 : Int) -
                                                wrapI IntKind.i64
                                                  ((↑(nB s (Int.toNat (0 : Int))) : Int).tdiv (8 : Int)))).toNat *
                                          (1 : Nat))
                                      (OfNat.ofNat (0 : Nat)) |||
                                    BitVec.ofInt (8 : Nat) (1 : Int) <<<
                                      ((↑(nB s (Int.toNat (0 : Int))) : Int).tmod (8 : Int)).toNat)).set
                              ((0 : Nat) +
                                (wrapI IntKind.i64
                                      ((255 : Int) -
                                        wrapI IntKind.i64
                                          ((↑(nB s (Int.toNat (1 : Int))) : Int).tdiv (8 : Int)))).toNat *
                                  (1 : Nat))
                              ((xs.set
                                      ((0 : Nat) +
                                        (wrapI IntKind.i64
                                              ((255 : Int) -
                                                wrapI IntKind.i64
                                                  ((↑(nB s (Int.toNat (0 : Int))) : Int).tdiv (8 : Int)))).toNat *
                                          (1 : Nat))
                                      (xs.getD
                                          ((0 : Nat) +
                                            (wrapI IntKind.i64
                                                  ((255 : Int) -
                                                    wrapI IntKind.i64
                                                      ((↑(nB s (Int.toNat (0 : Int))) : Int).tdiv (8 : Int)))).toNat *
                                              (1 : Nat))
                                          (OfNat.ofNat (0 : Nat)) |||
                                        BitVec.ofInt (8 : Nat) (1 : Int) <<<
                                          ((↑(nB s (Int.toNat (0 : Int))) : Int).tmod (8 : Int)).toNat)).getD
                                  ((0 : Nat) +
                                    (wrapI IntKind.i64
                                          ((255 : Int) -
                                            wrapI IntKind.i64
                                              ((↑(nB s (Int.toNat (1 : Int))) : Int).tdiv (8 : Int)))).toNat *
                                      (1 : Nat))
                                  (OfNat.ofNat (0 : Nat)) |||
                                BitVec.ofInt (8 : Nat) (1 : Int) <<<
                                  ((↑(nB s (Int.toNat (1 : Int))) : Int).tmod (8 : Int)).toNat)).getD
                          ((0 : Nat) +
                            (wrapI IntKind.i64
                                  ((255 : Int) -
                                    wrapI IntKind.i64 ((↑(nB s (Int.toNat (2 : Int))) : Int).tdiv (8 : Int)))).toNat *
                              (1 : Nat))
                          (OfNat.ofNat (0 : Nat)) |||
                        BitVec.ofInt (8 : Nat) (1 : Int) <<<
                          ((↑(nB s (Int.toNat (2 : Int))) : Int).tmod (8 : Int)).toNat))),
                V.bool true]),
          [])))) := by kernel_rfl
def joinS (a b : List (BitVec 8)) : List (BitVec 8) := @ite _ (a.length = 256 ∧ b.length = 256) (Classical.propDecidable _) (joinL a b) []
def joinO (a b : List (BitVec 8)) : Bool := @decide (a.length = 256 ∧ b.length = 256) (Classical.propDecidable _)
theorem joinO_iff {a b : List (BitVec 8)} : joinO a b = true ↔ a.length = 256 ∧ b.length = 256 := by simp [joinO]
theorem ne256 {xs : List (BitVec 8)} (h : ((xs.length : Int) != (256 : Int)) = true) : xs.length ≠ 256 := by intro e; rw [e] at h; exact absurd h (by decide)
theorem eq256 {xs : List (BitVec 8)} (h : ((xs.length : Int) != (256 : Int)) = false) : xs.length = 256 := by
  simp at h; omega
theorem joinO_no {a b : List (BitVec 8)} (h : ¬ (a.length = 256 ∧ b.length = 256)) : joinO a b = false ∧ joinS a b = [] := ⟨by rw [← Bool.not_eq_true, joinO_iff]; exact h, if_neg h⟩
theorem joinL_length {a b : List (BitVec 8)} (h : a.length = 256 ∧ b.length = 256) : (joinL a b).length = 256 := by rw [joinL_eq, len_or, h.1, h.2]; rfl
theorem join_fn (a b : List (BitVec 8)) : LFn Pr 9 [.str a, .str b] [] (.ret (.tup [.str (joinS a b), .bool (joinO a b)])) [] := by
  refine fnT OB0_sound mixed (by kernel_rfl) jn_Ls (jnf_x a b) ?_
  refine wp_chk_true.2 (wp_br.2 ⟨fun h => ?_, fun h => wp_chk_true.2 (wp_br.2 ⟨fun h' => ?_, fun h' => ?_⟩)⟩)
  · obtain ⟨e1, e2⟩ := joinO_no (a := a) (b := b) (fun e => ne256 h e.1)
    rw [e1, e2]; exact ⟨rfl, rfl⟩
  · obtain ⟨e1, e2⟩ := joinO_no (a := a) (b := b) (fun e => ne256 h' e.2)
    rw [e1, e2]; exact ⟨rfl, rfl⟩
  · have ha := eq256 h
    have hb := eq256 h'
    have e1 : joinO a b = true := joinO_iff.2 ⟨ha, hb⟩
    have e2 : joinS a b = joinL a b := if_pos ⟨ha, hb⟩
    have e3 := joinL_length ⟨ha, hb⟩
    have e4 : jn_ok ⟨a, b⟩ = true := by simp only [jn_ok, Bool.and_eq_true, is256_iff]; exact ⟨ha, hb⟩
    rw [e256_eq a ha, e1, e2, e4, take256 _ e3, e3, ha]
    exact ⟨rfl, rfl⟩
theorem rjoin_fn (a b : List (BitVec 8)) : LFn Pr 13 [.str a, .str b] [] (.ret (.tup [.str (joinS a b), .bool (joinO a b)])) [] := by
  refine fnT OB0_sound mixed (by kernel_rfl) rjn_Ls (rjnf_x a b) ?_
  refine wp_chk_true.2 (wp_br.2 ⟨fun h => ?_, fun h => wp_chk_true.2 (wp_br.2 ⟨fun h' => ?_, fun h' => ?_⟩)⟩)
  · obtain ⟨e1, e2⟩ := joinO_no (a := a) (b := b) (fun e => ne256 h e.1)
    rw [e1, e2]; exact ⟨rfl, rfl⟩
  · obtain ⟨e1, e2⟩ := joinO_no (a := a) (b := b) (fun e => ne256 h' e.2)
    rw [e1, e2]; exact ⟨rfl, rfl⟩
  · have ha := eq256 h
    have hb := eq256 h'
    have e1 : joinO a b = true := joinO_iff.2 ⟨ha, hb⟩
    have e2 : joinS a b = joinL a b := if_pos ⟨ha, hb⟩
    have e3 := joinL_length ⟨ha, hb⟩
    have e4 : rjn_ok ⟨a, b, a.length⟩ = true := @decide_eq_true _ (Classical.propDecidable _) ⟨ha, hb, ha⟩
    rw [e1, e2, e4, ha, take256 _ e3, e3]
    exact ⟨rfl, rfl⟩
theorem radd_fn (xs s : List (BitVec 8)) (hs : s.length ≤ 140737488351232) : LFn Pr 12 [.str xs, .str s] [] (.ret (.tup [.str (addS xs s), .bool (is256 xs)])) [] := by
  refine fnT OB1_sound mixed (by kernel_rfl) LoopsOk.noneT (radd_x xs s) ?_
  have h1 : isTxt s = true := isTxt_iff.2 hs
  refine wp_chk_true.2 (wp_br.2 ⟨fun h => ?_, fun h => ?_⟩)
  · have hx := ne256 h
    have h2 : is256 xs = false := by rw [← Bool.not_eq_true, is256_iff]; exact hx
    have h3 : addS xs s = [] := if_neg hx
    rw [h2, h3]; exact ⟨rfl, rfl⟩
  · have hx := eq256 h
    have h2 : is256 xs = true := is256_iff.2 hx
    have h3 : addS xs s = addB xs s := if_pos hx
    have lt : ∀ i, nB s i < 2048 := fun i => by rw [nB_eq]; exact nOf_lt _ _
    have q1 : ∀ i, wrapI .i64 ((nB s i : Int).tdiv 8) = ((nB s i / 8 : Nat) : Int) := fun i => by have := lt i; rw [tdiv_lit]; exact wrapI_nat (by omega)
    have q2 : ∀ i, wrapI .i64 ((255 : Int) - ((nB s i / 8 : Nat) : Int)) = ((255 - nB s i / 8 : Nat) : Int) := fun i => by have := lt i; rw [show (255 : Int) - ((nB s i / 8 : Nat) : Int) = ((255 - nB s i / 8 : Nat) : Int) by omega]; exact wrapI_nat (by omega)
    have q3 : ∀ i, (nB s i : Int).tmod 8 = ((nB s i % 8 : Nat) : Int) := fun i => by rw [tmod_lit]
    have t0 : Int.toNat 0 = 0 := rfl
    have t1 : Int.toNat 1 = 1 := rfl
    have t2 : Int.toNat 2 = 2 := rfl
    simp only [t0, t1, t2, q1, q2, q3, Int.toNat_natCast, Nat.zero_add, Nat.mul_one, h1, h2, h3, addB_eq, List.length_set, hx]
    refine wp_chk.2 ⟨?_, ?_⟩
    · simp only [Bool.and_eq_true, Bool.and_true, Bool.true_and, decide_eq_true_eq]
      (repeat' apply And.intro) <;> omega
    · rw [wp_leaf]
      unfold setL set1 atOf bitOf
      simp only [← nB_eq]

      rw [take256 _ (by simp [hx])]
      rfl
end
end Go.Proofs.Ytklgiongdiojcaa.K
end
