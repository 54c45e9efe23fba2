/- The laws of chapter 3. -/
import Derived.Test.YtggblpmijekemaaK12
set_option linter.unusedSimpArgs false
set_option linter.unusedVariables false
open Go Go.Lh
namespace Go.Proofs.Ytggblpmijekemaa.K
noncomputable section
set_option maxRecDepth 100000
theorem cutN (s : List (BitVec 8)) (k : Nat) : List.drop 0 (List.take ((some (if (k : Int) < (s.length : Int) then (k : Int) else (s.length : Int))).getD (s.length : Int)).toNat s) = s.take k := by
  simp only [List.drop_zero, Option.getD_some]
  split
  · rw [Int.toNat_natCast]
  · rw [Int.toNat_natCast, List.take_length, List.take_of_length_le (by omega)]
theorem sums_exec (s : List (BitVec 8)) : execF Pr (withAsm OZ [(15, true)]) noLoops 100 Go.Proofs.Try.f3 [.str s] [] = some (true, .ret (.bool true), []) := by
  rw [sums_x]
  have h := cutN s 600
  rw [show ((600 : Nat) : Int) = 600 from rfl] at h
  rw [h]
  have hl : (s.take 600).length ≤ 600 := by simp; omega
  refine stF ?_ rfl rfl
  simp only [Bool.and_eq_true, Bool.and_true, Bool.true_and, decide_eq_true_eq, Option.getD_some, if_true, beq_self_eq_true]
  (repeat' apply And.intro) <;> first | omega | trivial | (split <;> omega)
theorem sums_fn (s : List (BitVec 8)) : LFn Pr 3 [.str s] [] (.ret (.bool true)) [] :=
  execF_sound (fn := Go.Proofs.Try.f3) (withAsm_sound OZ_sound) mixed (by kernel_rfl) (fun _ _ _ _ => LoopOk.none) (sums_exec s)
theorem pads_exec (s : List (BitVec 8)) (n : BitVec 8) : execF Pr (withAsm OZ [(49, true), (55, true), (61, true)]) (smL 0 [pp_s]) 100 Go.Proofs.Try.f7 [.str s, .u8 n] [] = some (true, .ret (.bool true), []) := by
  rw [pads_x]
  have h := cutN s 140
  rw [show ((140 : Nat) : Int) = 140 from rfl] at h
  rw [h]
  have hl : (s.take 140).length ≤ 140 := by simp; omega
  obtain ⟨u, hu, hn⟩ : ∃ u, u < 5 ∧ (n % BitVec.ofInt 8 5).toNat = u := ⟨_, by rw [BitVec.toNat_umod]; exact Nat.mod_lt _ (by decide), rfl⟩
  have e : wrapI .i64 ((134 : Int) + ((n % BitVec.ofInt 8 5).toNat : Int)) = ((134 + u : Nat) : Int) := by rw [hn, lit_add, wrapI_nat (by omega)]
  have lo : ∀ t, (sumO t).length = 32 := fun t => by unfold sumO; rw [outN_length]; rfl
  have hb : (bytesOf { data := #[1] }).length = 1 := rfl
  have hb' : (bytesOf { data := #[OfNat.ofNat 1] }).length = 1 := rfl
  rw [e]
  simp only [hb, hb', Int.toNat_natCast, pp_ok, lo, copyF_length, List.length_replicate]
  refine stF ?_ rfl rfl
  simp only [Bool.and_eq_true, Bool.and_true, Bool.true_and, decide_eq_true_eq, Option.getD_some, if_true, beq_self_eq_true, List.length_append, List.length_take, List.length_drop, copyF_length, List.length_replicate, List.length_cons, List.length_nil, List.length_map]
  (repeat' apply And.intro) <;> first | omega | trivial | (split <;> omega)
theorem pads_fn (s : List (BitVec 8)) (n : BitVec 8) : LFn Pr 7 [.str s, .u8 n] [] (.ret (.bool true)) [] :=
  execF_sound (fn := Go.Proofs.Try.f7) (withAsm_sound OZ_sound) mixed (by kernel_rfl) (LoopsOk.of [(pp_s, pp_k)] (by kernel_rfl) (by
    intro p hp
    simp only [List.mem_cons, List.not_mem_nil, or_false] at hp
    subst hp
    exact pp_at)) (pads_exec s n)
theorem qc_on (bs : List (BitVec 64)) (cs : List (BitVec 64)) (hd : Bool) (cp : Option Nat) (n : Nat) :
  execN Pr noOrc noLoops [((34 : Nat), true), ((44 : Nat), false)] (100 : Nat) (0 : Nat)
  [(3 : Nat), (6 : Nat), (7 : Nat), (8 : Nat)] (loopBody Go.Proofs.Try.f4 (1 : Nat))
  [((3 : Nat), V.bool hd), ((6 : Nat), V.ptr (0 : Nat) (0 : Nat)),
    ((7 : Nat), V.sl (1 : Nat) (0 : Nat) (1 : Nat) (25 : Nat) cp), ((8 : Nat), V.int IntKind.i64 (↑n : Int))]
  [Blk.b64 bs, Blk.b64 cs] =
  some
  ((if true = true then decide ((↑n : Int) < (25 : Int)) else !decide ((↑n : Int) < (25 : Int))) && true &&
      (decide ((0 : Int) ≤ (↑n : Int)) && decide ((↑n : Int) < (25 : Int)) &&
            (decide ((0 : Nat) + (↑n : Int).toNat * (1 : Nat) < bs.length) &&
              (decide ((0 : Int) ≤ (↑n : Int)) && decide ((↑n : Int) < (25 : Int)) &&
                (decide ((0 : Nat) + (↑n : Int).toNat * (1 : Nat) < cs.length) && true))) &&
          ((if false = true then
              bs.getD ((0 : Nat) + (↑n : Int).toNat * (1 : Nat)) (OfNat.ofNat (0 : Nat)) !=
                cs.getD ((0 : Nat) + (↑n : Int).toNat * (1 : Nat)) (OfNat.ofNat (0 : Nat))
            else
              !bs.getD ((0 : Nat) + (↑n : Int).toNat * (1 : Nat)) (OfNat.ofNat (0 : Nat)) !=
                  cs.getD ((0 : Nat) + (↑n : Int).toNat * (1 : Nat)) (OfNat.ofNat (0 : Nat))) &&
            true) &&
        true),
    X.normal,
    [((3 : Nat), V.bool hd), ((6 : Nat), V.ptr (0 : Nat) (0 : Nat)),
      ((7 : Nat), V.sl (1 : Nat) (0 : Nat) (1 : Nat) (25 : Nat) cp),
      ((8 : Nat), V.int IntKind.i64 (wrapI IntKind.i64 ((↑n : Int) + (1 : Int))))],
    [Blk.b64 bs, Blk.b64 cs]) := by kernel_rfl
theorem qc_off (bs : List (BitVec 64)) (cs : List (BitVec 64)) (hd : Bool) (cp : Option Nat) (n : Nat) :
  execN Pr noOrc noLoops [((34 : Nat), false)] (100 : Nat) (0 : Nat) [(3 : Nat)] (loopBody Go.Proofs.Try.f4 (1 : Nat))
  [((3 : Nat), V.bool hd), ((6 : Nat), V.ptr (0 : Nat) (0 : Nat)),
    ((7 : Nat), V.sl (1 : Nat) (0 : Nat) (1 : Nat) (25 : Nat) cp), ((8 : Nat), V.int IntKind.i64 (↑n : Int))]
  [Blk.b64 bs, Blk.b64 cs] =
  some
  ((if false = true then decide ((↑n : Int) < (25 : Int)) else !decide ((↑n : Int) < (25 : Int))) && true,
    X.exit (2 : Nat), [((3 : Nat), V.bool hd)], []) := by kernel_rfl
def qc_S : (List (BitVec 64)) × (List (BitVec 64)) × Bool × (Option Nat) → Nat → Fr × Heap := fun ⟨bs, cs, hd, cp⟩ n => ([(3, .bool hd), (6, .ptr 0 0), (7, .sl 1 0 1 25 cp), (8, .int .i64 n)], [.b64 bs, .b64 cs])
def qc_read : Fr → Heap → Option ((List (BitVec 64)) × (List (BitVec 64)) × Bool × (Option Nat)) := fun f h => match f, h with
  | [(3, .bool hd), (6, .ptr 0 0), (7, .sl 1 0 1 25 cp), (8, .int .i64 0)], [.b64 bs, .b64 cs] => some (bs, cs, hd, cp)
  | _, _ => none
def qc_ok : (List (BitVec 64)) × (List (BitVec 64)) × Bool × (Option Nat) → Bool := fun ⟨bs, cs, hd, cp⟩ => decide (bs.length = 25) && decide (bs = cs)
def qc_E : (List (BitVec 64)) × (List (BitVec 64)) × Bool × (Option Nat) → X × Fr × Heap := fun ⟨bs, cs, hd, cp⟩ => (.exit 2, [(3, .bool hd)], [])
def qc_m : (List (BitVec 64)) × (List (BitVec 64)) × Bool × (Option Nat) → Nat := fun ⟨bs, cs, hd, cp⟩ => 25
def qc_k : Nat := 1
def qc_s : Sm := whS 12 [3,6,7,8] qc_read qc_ok qc_E
theorem qc_at : SmAt Pr Go.Proofs.Try.f4 0 qc_s qc_k := by
  refine cnt_at qc_S qc_m (by kernel_rfl) (by kernel_rfl) ?_ ?_ ?_ ?_
  · intro f g a h
    unfold qc_read at h
    split at h <;> cases h
    rfl
  · intro a h; cases h
  · rintro ⟨bs, cs, hd, cp⟩ hok n hn
    simp only [qc_m] at hn
    simp only [qc_ok] at hok
    simp only [Bool.and_eq_true, decide_eq_true_eq] at hok
    obtain ⟨h1, h2⟩ := hok
    subst h2
    refine execN_sound (noOrc_sound _) mixed (LoopsOk.innerAt LoopsOk.none 1) (by kernel_rfl) (by intro v h; cases h) ((qc_on bs bs hd cp (n)).trans ?_)
    refine stX ?_ ?_ ?_
    · simp [h1]; omega
    · first | rfl | (simp (disch := omega) only [tmod_lit, tdiv_lit, mul_lit, add_lit, lit_mul, lit_add, add_nat, mul_nat, sub_lit, lit_sub, sub_nat, wrapI_nat, wrapI_in, Int.toNat_natCast, Nat.mul_one, Nat.zero_add, toNat_lit] <;> rfl) | (simp (disch := omega) only [tmod_lit, tdiv_lit, mul_lit, add_lit, lit_mul, lit_add, add_nat, mul_nat, sub_lit, lit_sub, sub_nat, wrapI_nat, wrapI_in, Int.toNat_natCast, Nat.mul_one, Nat.zero_add, toNat_lit]; done)
    · first | rfl | (simp (disch := omega) only [tmod_lit, tdiv_lit, mul_lit, add_lit, lit_mul, lit_add, add_nat, mul_nat, sub_lit, lit_sub, sub_nat, wrapI_nat, wrapI_in, Int.toNat_natCast, Nat.mul_one, Nat.zero_add, toNat_lit] <;> rfl) | (simp (disch := omega) only [tmod_lit, tdiv_lit, mul_lit, add_lit, lit_mul, lit_add, add_nat, mul_nat, sub_lit, lit_sub, sub_nat, wrapI_nat, wrapI_in, Int.toNat_natCast, Nat.mul_one, Nat.zero_add, toNat_lit]; done)
  · rintro ⟨bs, cs, hd, cp⟩ hok
    simp only [qc_ok] at hok
    simp only [Bool.and_eq_true, decide_eq_true_eq] at hok
    obtain ⟨h1, h2⟩ := hok
    subst h2
    refine execN_sound (noOrc_sound _) mixed (LoopsOk.innerAt LoopsOk.none 1) (by kernel_rfl) (by intro v h; cases h) ((qc_off bs bs hd cp 25).trans ?_)
    refine stX ?_ ?_ ?_
    · simp
    · first | rfl | (simp (disch := omega) only [tmod_lit, tdiv_lit, mul_lit, add_lit, lit_mul, lit_add, add_nat, mul_nat, sub_lit, lit_sub, sub_nat, wrapI_nat, wrapI_in, Int.toNat_natCast, Nat.mul_one, Nat.zero_add, toNat_lit] <;> rfl) | (simp (disch := omega) only [tmod_lit, tdiv_lit, mul_lit, add_lit, lit_mul, lit_add, add_nat, mul_nat, sub_lit, lit_sub, sub_nat, wrapI_nat, wrapI_in, Int.toNat_natCast, Nat.mul_one, Nat.zero_add, toNat_lit]; done)
    · first | rfl | (simp (disch := omega) only [tmod_lit, tdiv_lit, mul_lit, add_lit, lit_mul, lit_add, add_nat, mul_nat, sub_lit, lit_sub, sub_nat, wrapI_nat, wrapI_in, Int.toNat_natCast, Nat.mul_one, Nat.zero_add, toNat_lit] <;> rfl) | (simp (disch := omega) only [tmod_lit, tdiv_lit, mul_lit, add_lit, lit_mul, lit_add, add_nat, mul_nat, sub_lit, lit_sub, sub_nat, wrapI_nat, wrapI_in, Int.toNat_natCast, Nat.mul_one, Nat.zero_add, toNat_lit]; done)
def zP : List (BitVec 64) := [BitVec.ofInt (64 : Nat) (0 : Int), BitVec.ofInt (64 : Nat) (0 : Int), BitVec.ofInt (64 : Nat) (0 : Int), BitVec.ofInt (64 : Nat) (0 : Int), BitVec.ofInt (64 : Nat) (0 : Int), BitVec.ofInt (64 : Nat) (0 : Int), BitVec.ofInt (64 : Nat) (0 : Int), BitVec.ofInt (64 : Nat) (0 : Int), BitVec.ofInt (64 : Nat) (0 : Int), BitVec.ofInt (64 : Nat) (0 : Int), BitVec.ofInt (64 : Nat) (0 : Int), BitVec.ofInt (64 : Nat) (0 : Int), BitVec.ofInt (64 : Nat) (0 : Int), BitVec.ofInt (64 : Nat) (0 : Int), BitVec.ofInt (64 : Nat) (0 : Int), BitVec.ofInt (64 : Nat) (0 : Int), BitVec.ofInt (64 : Nat) (0 : Int), BitVec.ofInt (64 : Nat) (0 : Int), BitVec.ofInt (64 : Nat) (0 : Int), BitVec.ofInt (64 : Nat) (0 : Int), BitVec.ofInt (64 : Nat) (0 : Int), BitVec.ofInt (64 : Nat) (0 : Int), BitVec.ofInt (64 : Nat) (0 : Int), BitVec.ofInt (64 : Nat) (0 : Int), BitVec.ofInt (64 : Nat) (0 : Int)]
def aP (f : Nat → BitVec 64) (len : Nat) : List (BitVec 64) := copyG (fun i _ => .u64 (f i)) zP (min 25 len)
def eP (f : Nat → BitVec 64) (len : Nat) : List (BitVec 64) := [(aP f len).getD 0 (0 : BitVec 64), (aP f len).getD 1 (0 : BitVec 64), (aP f len).getD 2 (0 : BitVec 64), (aP f len).getD 3 (0 : BitVec 64), (aP f len).getD 4 (0 : BitVec 64), (aP f len).getD 5 (0 : BitVec 64), (aP f len).getD 6 (0 : BitVec 64), (aP f len).getD 7 (0 : BitVec 64), (aP f len).getD 8 (0 : BitVec 64), (aP f len).getD 9 (0 : BitVec 64), (aP f len).getD 10 (0 : BitVec 64), (aP f len).getD 11 (0 : BitVec 64), (aP f len).getD 12 (0 : BitVec 64), (aP f len).getD 13 (0 : BitVec 64), (aP f len).getD 14 (0 : BitVec 64), (aP f len).getD 15 (0 : BitVec 64), (aP f len).getD 16 (0 : BitVec 64), (aP f len).getD 17 (0 : BitVec 64), (aP f len).getD 18 (0 : BitVec 64), (aP f len).getD 19 (0 : BitVec 64), (aP f len).getD 20 (0 : BitVec 64), (aP f len).getD 21 (0 : BitVec 64), (aP f len).getD 22 (0 : BitVec 64), (aP f len).getD 23 (0 : BitVec 64), (aP f len).getD 24 (0 : BitVec 64)]
def xP (f : Nat → BitVec 64) (len : Nat) : List (BitVec 64) := (((((((((((((((((((((((((zP).set 0 ((permL (eP f len)).getD 0 (0 : BitVec 64))).set 1 ((permL (eP f len)).getD 1 (0 : BitVec 64))).set 2 ((permL (eP f len)).getD 2 (0 : BitVec 64))).set 3 ((permL (eP f len)).getD 3 (0 : BitVec 64))).set 4 ((permL (eP f len)).getD 4 (0 : BitVec 64))).set 5 ((permL (eP f len)).getD 5 (0 : BitVec 64))).set 6 ((permL (eP f len)).getD 6 (0 : BitVec 64))).set 7 ((permL (eP f len)).getD 7 (0 : BitVec 64))).set 8 ((permL (eP f len)).getD 8 (0 : BitVec 64))).set 9 ((permL (eP f len)).getD 9 (0 : BitVec 64))).set 10 ((permL (eP f len)).getD 10 (0 : BitVec 64))).set 11 ((permL (eP f len)).getD 11 (0 : BitVec 64))).set 12 ((permL (eP f len)).getD 12 (0 : BitVec 64))).set 13 ((permL (eP f len)).getD 13 (0 : BitVec 64))).set 14 ((permL (eP f len)).getD 14 (0 : BitVec 64))).set 15 ((permL (eP f len)).getD 15 (0 : BitVec 64))).set 16 ((permL (eP f len)).getD 16 (0 : BitVec 64))).set 17 ((permL (eP f len)).getD 17 (0 : BitVec 64))).set 18 ((permL (eP f len)).getD 18 (0 : BitVec 64))).set 19 ((permL (eP f len)).getD 19 (0 : BitVec 64))).set 20 ((permL (eP f len)).getD 20 (0 : BitVec 64))).set 21 ((permL (eP f len)).getD 21 (0 : BitVec 64))).set 22 ((permL (eP f len)).getD 22 (0 : BitVec 64))).set 23 ((permL (eP f len)).getD 23 (0 : BitVec 64))).set 24 ((permL (eP f len)).getD 24 (0 : BitVec 64))
def xZ : List (BitVec 64) := (((((((((((((((((((((((((zP).set 0 ((permL zP).getD 0 (0 : BitVec 64))).set 1 ((permL zP).getD 1 (0 : BitVec 64))).set 2 ((permL zP).getD 2 (0 : BitVec 64))).set 3 ((permL zP).getD 3 (0 : BitVec 64))).set 4 ((permL zP).getD 4 (0 : BitVec 64))).set 5 ((permL zP).getD 5 (0 : BitVec 64))).set 6 ((permL zP).getD 6 (0 : BitVec 64))).set 7 ((permL zP).getD 7 (0 : BitVec 64))).set 8 ((permL zP).getD 8 (0 : BitVec 64))).set 9 ((permL zP).getD 9 (0 : BitVec 64))).set 10 ((permL zP).getD 10 (0 : BitVec 64))).set 11 ((permL zP).getD 11 (0 : BitVec 64))).set 12 ((permL zP).getD 12 (0 : BitVec 64))).set 13 ((permL zP).getD 13 (0 : BitVec 64))).set 14 ((permL zP).getD 14 (0 : BitVec 64))).set 15 ((permL zP).getD 15 (0 : BitVec 64))).set 16 ((permL zP).getD 16 (0 : BitVec 64))).set 17 ((permL zP).getD 17 (0 : BitVec 64))).set 18 ((permL zP).getD 18 (0 : BitVec 64))).set 19 ((permL zP).getD 19 (0 : BitVec 64))).set 20 ((permL zP).getD 20 (0 : BitVec 64))).set 21 ((permL zP).getD 21 (0 : BitVec 64))).set 22 ((permL zP).getD 22 (0 : BitVec 64))).set 23 ((permL zP).getD 23 (0 : BitVec 64))).set 24 ((permL zP).getD 24 (0 : BitVec 64))
theorem perms_x (f : Nat → BitVec 64) (len : Nat) :
  execF Pr OZ (smL (0 : Nat) [qp_s, qc_s]) (100 : Nat) Go.Proofs.Try.f4 [V.isl (1 : Nat) len fun i x ↦ V.u64 (f i)] [] =
  some
  (qp_ok (fun i x ↦ V.u64 (f i), len, true, zP) &&
        (decide ((25 : Nat) ≤ (aP f len).length) &&
            ((eP f len).length.beq (25 : Nat) &&
              (decide
                  ((0 : Nat) +
                      [V.u64 ((permL (eP f len)).getD (0 : Nat) (OfNat.ofNat (0 : Nat))),
                          V.u64 ((permL (eP f len)).getD (1 : Nat) (OfNat.ofNat (0 : Nat))),
                          V.u64 ((permL (eP f len)).getD (2 : Nat) (OfNat.ofNat (0 : Nat))),
                          V.u64 ((permL (eP f len)).getD (3 : Nat) (OfNat.ofNat (0 : Nat))),
                          V.u64 ((permL (eP f len)).getD (4 : Nat) (OfNat.ofNat (0 : Nat))),
                          V.u64 ((permL (eP f len)).getD (5 : Nat) (OfNat.ofNat (0 : Nat))),
                          V.u64 ((permL (eP f len)).getD (6 : Nat) (OfNat.ofNat (0 : Nat))),
                          V.u64 ((permL (eP f len)).getD (7 : Nat) (OfNat.ofNat (0 : Nat))),
                          V.u64 ((permL (eP f len)).getD (8 : Nat) (OfNat.ofNat (0 : Nat))),
                          V.u64 ((permL (eP f len)).getD (9 : Nat) (OfNat.ofNat (0 : Nat))),
                          V.u64 ((permL (eP f len)).getD (10 : Nat) (OfNat.ofNat (0 : Nat))),
                          V.u64 ((permL (eP f len)).getD (11 : Nat) (OfNat.ofNat (0 : Nat))),
                          V.u64 ((permL (eP f len)).getD (12 : Nat) (OfNat.ofNat (0 : Nat))),
                          V.u64 ((permL (eP f len)).getD (13 : Nat) (OfNat.ofNat (0 : Nat))),
                          V.u64 ((permL (eP f len)).getD (14 : Nat) (OfNat.ofNat (0 : Nat))),
                          V.u64 ((permL (eP f len)).getD (15 : Nat) (OfNat.ofNat (0 : Nat))),
                          V.u64 ((permL (eP f len)).getD (16 : Nat) (OfNat.ofNat (0 : Nat))),
                          V.u64 ((permL (eP f len)).getD (17 : Nat) (OfNat.ofNat (0 : Nat))),
                          V.u64 ((permL (eP f len)).getD (18 : Nat) (OfNat.ofNat (0 : Nat))),
                          V.u64 ((permL (eP f len)).getD (19 : Nat) (OfNat.ofNat (0 : Nat))),
                          V.u64 ((permL (eP f len)).getD (20 : Nat) (OfNat.ofNat (0 : Nat))),
                          V.u64 ((permL (eP f len)).getD (21 : Nat) (OfNat.ofNat (0 : Nat))),
                          V.u64 ((permL (eP f len)).getD (22 : Nat) (OfNat.ofNat (0 : Nat))),
                          V.u64 ((permL (eP f len)).getD (23 : Nat) (OfNat.ofNat (0 : Nat))),
                          V.u64 ((permL (eP f len)).getD (24 : Nat) (OfNat.ofNat (0 : Nat)))].length ≤
                    (25 : Nat)) &&
                true)) &&
          (decide ((25 : Nat) ≤ (aP f len).length) &&
              (decide ((25 : Nat) ≤ (aP f len).length) && true &&
                (permRG_okf (PA.mk (List.take (25 : Nat) (List.drop (0 : Nat) (aP f len))) none) && true)) &&
            (qc_ok
                (xP f len, permL (PA.mk (List.take (25 : Nat) (List.drop (0 : Nat) (aP f len))) none).xs, true,
                  some (25 : Nat)) &&
              true))) &&
      true,
    Fin.ret (V.bool true), []) := by kernel_rfl
theorem perms_n :
  execF Pr OZ (smL (0 : Nat) [qp_s, qc_s]) (100 : Nat) Go.Proofs.Try.f4 [V.nilSl] [] =
  some (true, Fin.ret (V.bool true), []) := by kernel_rfl
theorem zP_length : zP.length = 25 := rfl
theorem aP_length (f : Nat → BitVec 64) (len : Nat) : (aP f len).length = 25 := by unfold aP; rw [copyG_length]; rfl
theorem eP_eq (f : Nat → BitVec 64) (len : Nat) : eP f len = aP f len := each25 (aP f len) (aP_length f len)
theorem xP_eq (f : Nat → BitVec 64) (len : Nat) : xP f len = permL (aP f len) := by
  rw [← eP_eq]; exact setN25 zP (permL (eP f len)) rfl (permL_length _)
theorem perms_exec (f : Nat → BitVec 64) (len : Nat) (h : len < 100000000000000000000) : execF Pr OZ (smL 0 [qp_s, qc_s]) 100 Go.Proofs.Try.f4 [.isl 1 len (fun i _ => .u64 (f i))] [] = some (true, .ret (.bool true), []) := by
  rw [perms_x]
  have l1 := aP_length f len
  have e1 : List.take 25 (List.drop 0 (aP f len)) = aP f len := by rw [List.drop_zero, List.take_of_length_le (by omega)]
  have l2 : (permL (aP f len)).length = 25 := permL_length _
  have l3 : Nat.beq 25 25 = true := rfl
  have l4 : (fun (i : Nat) (_ : Nat) => V.u64 (f i)) = (fun i _ => V.u64 (toU (V.u64 (f i)))) := rfl
  rw [e1, xP_eq, eP_eq]
  refine stF ?_ rfl rfl
  simp only [qp_ok, qc_ok, permRG_okf, l1, l2, l3, zP_length, Bool.and_eq_true, Bool.and_true, Bool.true_and, decide_eq_true_eq, List.length_cons, List.length_nil]
  (repeat' apply And.intro) <;> first | omega | trivial | rfl
theorem permsL : LoopsOk Pr Go.Proofs.Try.f4 0 (smL 0 [qp_s, qc_s]) := LoopsOk.of [(qp_s, qp_k), (qc_s, qc_k)] (by kernel_rfl) (by
  intro p hp
  simp only [List.mem_cons, List.not_mem_nil, or_false] at hp
  rcases hp with rfl | rfl
  · exact qp_at
  · exact qc_at)
theorem perms_fn (f : Nat → BitVec 64) (len : Nat) (h : len < 100000000000000000000) : LFn Pr 4 [.isl 1 len (fun i _ => .u64 (f i))] [] (.ret (.bool true)) [] :=
  execF_sound (fn := Go.Proofs.Try.f4) OZ_sound mixed (by kernel_rfl) permsL (perms_exec f len h)
theorem permsn_fn : LFn Pr 4 [.nilSl] [] (.ret (.bool true)) [] :=
  execF_sound (fn := Go.Proofs.Try.f4) OZ_sound mixed (by kernel_rfl) permsL perms_n
end
end Go.Proofs.Ytggblpmijekemaa.K
