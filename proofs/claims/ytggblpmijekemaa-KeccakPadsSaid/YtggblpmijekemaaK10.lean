/- The document's Permute, whole. -/
import Derived.Test.YtggblpmijekemaaK9
set_option linter.unusedSimpArgs false
set_option linter.unusedVariables false
open Go Go.Lh
namespace Go.Proofs.Ytggblpmijekemaa.K
noncomputable section
set_option maxRecDepth 100000
def csR (xs : List (BitVec 64)) := cN xs (List.replicate 5 (BitVec.ofInt 64 0)) 25
def bsR (xs : List (BitVec 64)) := bX xs (csR xs) rotI (List.replicate 25 (BitVec.ofInt 64 0)) 5
def osR (xs : List (BitVec 64)) := oX (bsR xs) (List.replicate 25 (BitVec.ofInt 64 0)) 5
theorem csR_length (xs : List (BitVec 64)) : (csR xs).length = 5 := by simp [csR, cN_length]
theorem bsR_length (xs : List (BitVec 64)) : (bsR xs).length = 25 := by simp [bsR, bX_length]
theorem osR_length (xs : List (BitVec 64)) : (osR xs).length = 25 := by simp [osR, oX_length]
def rdR (n : Nat) (xs : List (BitVec 64)) : List (BitVec 64) := (osR xs).set 0 ((osR xs).getD 0 0 ^^^ rcs.getD n 0)
theorem rdR_length (n : Nat) (xs : List (BitVec 64)) : (rdR n xs).length = 25 := by simp [rdR, osR_length]
theorem rA_on (cp : Option Nat) (m : Nat) (xs : List (BitVec 64)) (rs : List (BitVec 64)) :
  execN Pr OT (smL (1 : Nat) [pcA_s, pxA_s, qxA_s]) [((18 : Nat), true)] (100 : Nat) (1 : Nat)
  [(0 : Nat), (3 : Nat), (4 : Nat), (5 : Nat)] (loopBody Go.Proofs.Try.f12 (0 : Nat))
  [((0 : Nat), V.sl (0 : Nat) (0 : Nat) (1 : Nat) (25 : Nat) cp),
    ((3 : Nat), V.sl (1 : Nat) (0 : Nat) (1 : Nat) (25 : Nat) (some (25 : Nat))),
    ((4 : Nat), V.sl (2 : Nat) (0 : Nat) (1 : Nat) m none), ((5 : Nat), V.int IntKind.i64 (0 : Int))]
  [Blk.b64 xs, Blk.ints rotI, Blk.b64 rs] =
  some
  (pcA_ok (List.replicate (5 : Nat) (BitVec.ofInt (64 : Nat) (0 : Int)), xs, rs, rotI, (0 : Int), cp, m) &&
        (pxA_ok
            (List.replicate (25 : Nat) (BitVec.ofInt (64 : Nat) (0 : Int)), csR xs, xs, rs, rotI, (0 : Int), cp, m) &&
          (qxA_ok
              (List.replicate (25 : Nat) (BitVec.ofInt (64 : Nat) (0 : Int)), bsR xs, xs, rs, rotI, (0 : Int), cp, m) &&
            (decide ((0 : Nat) < (osR xs).length) &&
                (decide ((0 : Int) < (↑m : Int)) &&
                  (decide ((0 : Nat) < rs.length) &&
                    (decide
                        ((0 : Nat) +
                            [V.u64
                                  ((osR xs).getD (0 : Nat) (OfNat.ofNat (0 : Nat)) ^^^
                                    rs.getD (0 : Nat) (OfNat.ofNat (0 : Nat)))].length ≤
                          (osR xs).length) &&
                      true))) &&
              true))) &&
      true,
    X.normal,
    [((0 : Nat), V.sl (1 : Nat) (0 : Nat) (1 : Nat) (25 : Nat) (some (25 : Nat))),
      ((3 : Nat), V.sl (2 : Nat) (0 : Nat) (1 : Nat) (25 : Nat) (some (25 : Nat))),
      ((4 : Nat), V.sl (3 : Nat) (0 : Nat) (1 : Nat) m none), ((5 : Nat), V.int IntKind.i64 (1 : Int))],
    [Blk.b64 xs,
      Blk.b64
        ((osR xs).set (0 : Nat)
          ((osR xs).getD (0 : Nat) (OfNat.ofNat (0 : Nat)) ^^^ rs.getD (0 : Nat) (OfNat.ofNat (0 : Nat)))),
      Blk.ints rotI, Blk.b64 rs]) := by kernel_rfl
theorem rB_on (cp : Option Nat) (n : Nat) (m : Nat) (x0 : List (BitVec 64)) (xs : List (BitVec 64)) (rs : List (BitVec 64)) :
  execN Pr OT (smL (1 : Nat) [pcB_s, pxB_s, qxB_s]) [((18 : Nat), true)] (100 : Nat) (1 : Nat)
  [(0 : Nat), (3 : Nat), (4 : Nat), (5 : Nat)] (loopBody Go.Proofs.Try.f12 (0 : Nat))
  [((0 : Nat), V.sl (1 : Nat) (0 : Nat) (1 : Nat) (25 : Nat) cp),
    ((3 : Nat), V.sl (2 : Nat) (0 : Nat) (1 : Nat) (25 : Nat) (some (25 : Nat))),
    ((4 : Nat), V.sl (3 : Nat) (0 : Nat) (1 : Nat) m none), ((5 : Nat), V.int IntKind.i64 (↑n : Int))]
  [Blk.b64 x0, Blk.b64 xs, Blk.ints rotI, Blk.b64 rs] =
  some
  ((if true = true then decide ((↑n : Int) < (24 : Int)) else !decide ((↑n : Int) < (24 : Int))) && true &&
      (pcB_ok (List.replicate (5 : Nat) (BitVec.ofInt (64 : Nat) (0 : Int)), xs, rs, rotI, (↑n : Int), cp, m, x0) &&
          (pxB_ok
              (List.replicate (25 : Nat) (BitVec.ofInt (64 : Nat) (0 : Int)), csR xs, xs, rs, rotI, (↑n : Int), cp, m,
                x0) &&
            (qxB_ok
                (List.replicate (25 : Nat) (BitVec.ofInt (64 : Nat) (0 : Int)), bsR xs, xs, rs, rotI, (↑n : Int), cp, m,
                  x0) &&
              (decide ((0 : Nat) < (osR xs).length) &&
                  (decide ((0 : Int) ≤ (↑n : Int)) && decide ((↑n : Int) < (↑m : Int)) &&
                    (decide ((0 : Nat) + (↑n : Int).toNat * (1 : Nat) < rs.length) &&
                      (decide
                          ((0 : Nat) +
                              [V.u64
                                    ((osR xs).getD (0 : Nat) (OfNat.ofNat (0 : Nat)) ^^^
                                      rs.getD ((0 : Nat) + (↑n : Int).toNat * (1 : Nat))
                                        (OfNat.ofNat (0 : Nat)))].length ≤
                            (osR xs).length) &&
                        true))) &&
                true))) &&
        true),
    X.normal,
    [((0 : Nat), V.sl (1 : Nat) (0 : Nat) (1 : Nat) (25 : Nat) (some (25 : Nat))),
      ((3 : Nat), V.sl (2 : Nat) (0 : Nat) (1 : Nat) (25 : Nat) (some (25 : Nat))),
      ((4 : Nat), V.sl (3 : Nat) (0 : Nat) (1 : Nat) m none),
      ((5 : Nat), V.int IntKind.i64 (wrapI IntKind.i64 ((↑n : Int) + (1 : Int))))],
    [Blk.b64 x0,
      Blk.b64
        ((osR xs).set (0 : Nat)
          ((osR xs).getD (0 : Nat) (OfNat.ofNat (0 : Nat)) ^^^
            rs.getD ((0 : Nat) + (↑n : Int).toNat * (1 : Nat)) (OfNat.ofNat (0 : Nat)))),
      Blk.ints rotI, Blk.b64 rs]) := by kernel_rfl
theorem rB_off (cp : Option Nat) (n : Nat) (m : Nat) (x0 : List (BitVec 64)) (xs : List (BitVec 64)) (rs : List (BitVec 64)) :
  execN Pr OT noLoops [((18 : Nat), false)] (100 : Nat) (1 : Nat) [(0 : Nat)] (loopBody Go.Proofs.Try.f12 (0 : Nat))
  [((0 : Nat), V.sl (1 : Nat) (0 : Nat) (1 : Nat) (25 : Nat) cp),
    ((3 : Nat), V.sl (2 : Nat) (0 : Nat) (1 : Nat) (25 : Nat) (some (25 : Nat))),
    ((4 : Nat), V.sl (3 : Nat) (0 : Nat) (1 : Nat) m none), ((5 : Nat), V.int IntKind.i64 (↑n : Int))]
  [Blk.b64 x0, Blk.b64 xs, Blk.ints rotI, Blk.b64 rs] =
  some
  ((if false = true then decide ((↑n : Int) < (24 : Int)) else !decide ((↑n : Int) < (24 : Int))) && true,
    X.exit (0 : Nat), [((0 : Nat), V.sl (1 : Nat) (0 : Nat) (1 : Nat) (25 : Nat) cp)],
    [Blk.b64 x0, Blk.b64 xs]) := by kernel_rfl
theorem rot_x : execF Pr noOrc noLoops 100 Go.Proofs.Try.f17 [] [] = some (true, .ret (.sl 0 0 1 25 (some 25)), [.ints rotI]) := by kernel_rfl
theorem con_x : execF Pr noOrc noLoops 100 Go.Proofs.Try.f18 [] [] = some (true, .ret (.sl 0 0 1 24 none), [.b64 rcs]) := by kernel_rfl
def rot_g := ct (fun args h => match args, h with | [], [] => some () | _, _ => none) (fun _ => true) (fun _ => .ret (.sl 0 0 1 25 (some 25))) (fun _ => [.ints rotI])
def con_g := ct (fun args h => match args, h with | [], [] => some () | _, _ => none) (fun _ => true) (fun _ => .ret (.sl 0 0 1 24 none)) (fun _ => [.b64 rcs])
theorem rot_ok : ∀ args h fin h', rot_g args h = some (true, fin, h') → LFn Pr 17 args h fin h' := by
  refine ct_ok (fun _ => []) (fun _ => []) ?_ ?_
  · intro args h a e
    split at e <;> cases e
    exact ⟨rfl, rfl⟩
  · intro a _
    exact execF_sound (fn := Go.Proofs.Try.f17) (noOrc_sound _) mixed (by kernel_rfl) (fun _ _ _ _ => LoopOk.none) rot_x
theorem con_ok : ∀ args h fin h', con_g args h = some (true, fin, h') → LFn Pr 18 args h fin h' := by
  refine ct_ok (fun _ => []) (fun _ => []) ?_ ?_
  · intro args h a e
    split at e <;> cases e
    exact ⟨rfl, rfl⟩
  · intro a _
    exact execF_sound (fn := Go.Proofs.Try.f18) (noOrc_sound _) mixed (by kernel_rfl) (fun _ _ _ _ => LoopOk.none) con_x
def OU : Orc := auto Pr noExt [(19, turned_g), (17, rot_g), (18, con_g)] [] 3
theorem OU_sound : OrcSound Pr OU := auto_sound mixed noExt_ok (KOk.cons turned_en turned_ok (KOk.cons (Enters.of (fn := Go.Proofs.Try.f17) (by kernel_rfl) (by kernel_rfl)) rot_ok (KOk.cons (Enters.of (fn := Go.Proofs.Try.f18) (by kernel_rfl) (by kernel_rfl)) con_ok KOk.nil))) (by kernel_rfl) 3
def permR : Nat → List (BitVec 64) → List (BitVec 64)
  | 0, xs => xs
  | n + 1, xs => rdR n (permR n xs)
theorem permR_length (xs : List (BitVec 64)) (h : xs.length = 25) : ∀ n, (permR n xs).length = 25
  | 0 => h
  | n + 1 => rdR_length _ _
def ro_S : List (BitVec 64) × Option Nat → Nat → Fr × Heap := fun ⟨xs, cp⟩ n => match n with
  | 0 => ([(0,.sl 0 0 1 25 cp),(3,.sl 1 0 1 25 (some 25)),(4,.sl 2 0 1 24 none),(5,.int .i64 0)], [.b64 xs, .ints rotI, .b64 rcs])
  | k + 1 => ([(0,.sl 1 0 1 25 (some 25)),(3,.sl 2 0 1 25 (some 25)),(4,.sl 3 0 1 24 none),(5,.int .i64 ((k + 1 : Nat) : Int))], [.b64 xs, .b64 (permR (k + 1) xs), .ints rotI, .b64 rcs])
def ro_ok : List (BitVec 64) × List Int × List (BitVec 64) × Option Nat → Bool := fun ⟨xs, is, rs, cp⟩ => decide (xs.length = 25) && decide (is = rotI) && decide (rs = rcs)
def ro_read : Fr → Heap → Option (List (BitVec 64) × List Int × List (BitVec 64) × Option Nat) := fun f h => match f, h with
  | [(0,.sl 0 0 1 25 cp),(3,.sl 1 0 1 25 (some 25)),(4,.sl 2 0 1 24 none),(5,.int .i64 0)], [.b64 xs, .ints is, .b64 rs] => some (xs, is, rs, cp)
  | _, _ => none
def ro_E : List (BitVec 64) × List Int × List (BitVec 64) × Option Nat → X × Fr × Heap := fun ⟨xs, is, rs, cp⟩ => (.exit 0, [(0,.sl 1 0 1 25 (some 25))], [.b64 xs, .b64 (permR 24 xs)])
def ro_S' : List (BitVec 64) × List Int × List (BitVec 64) × Option Nat → Nat → Fr × Heap := fun ⟨xs, is, rs, cp⟩ n => match n with
  | 0 => ([(0,.sl 0 0 1 25 cp),(3,.sl 1 0 1 25 (some 25)),(4,.sl 2 0 1 24 none),(5,.int .i64 0)], [.b64 xs, .ints is, .b64 rs])
  | k + 1 => ro_S (xs, cp) (k + 1)
def ro_s : Sm := whS 4 [0,3,4,5] ro_read ro_ok ro_E
theorem innerA : LoopsOk Pr Go.Proofs.Try.f12 1 (smL 1 [pcA_s, pxA_s, qxA_s]) := LoopsOk.of [(pcA_s, pcA_k), (pxA_s, pxA_k), (qxA_s, qxA_k)] (by kernel_rfl) (by
  intro p hp
  simp only [List.mem_cons, List.not_mem_nil, or_false] at hp
  rcases hp with rfl | rfl | rfl
  · exact pcA_at
  · exact pxA_at
  · exact qxA_at)
theorem innerB : LoopsOk Pr Go.Proofs.Try.f12 1 (smL 1 [pcB_s, pxB_s, qxB_s]) := LoopsOk.of [(pcB_s, pcB_k), (pxB_s, pxB_k), (qxB_s, qxB_k)] (by kernel_rfl) (by
  intro p hp
  simp only [List.mem_cons, List.not_mem_nil, or_false] at hp
  rcases hp with rfl | rfl | rfl
  · exact pcB_at
  · exact pxB_at
  · exact qxB_at)
theorem ro_at : SmAt Pr Go.Proofs.Try.f12 1 ro_s 0 := by
  refine cnt_at ro_S' (fun _ => 24) (by kernel_rfl) (by kernel_rfl) ?_ ?_ ?_ ?_
  · intro f g a h
    unfold ro_read at h
    split at h <;> cases h
    rfl
  · intro a h; cases h
  · rintro ⟨xs, is, rs, cp⟩ hok n hn
    simp only [ro_ok, Bool.and_eq_true, decide_eq_true_eq] at hok
    obtain ⟨⟨h1, h2⟩, h3⟩ := hok
    subst h2 h3
    have hr : rcs.length = 24 := rfl
    have l1 := csR_length xs
    cases n with
    | zero =>
      refine execN_sound OT_sound mixed (LoopsOk.innerAt innerA 0) (by kernel_rfl) (by intro v h; cases h) ((rA_on cp 24 xs rcs).trans ?_)
      have l2 := bsR_length xs
      have l3 := osR_length xs
      refine stX ?_ ?_ ?_
      · simp [pcA_ok, pxA_ok, qxA_ok, l1, l2, l3, h1, hr]
      · rfl
      · rfl
    | succ k =>
      have l0 := permR_length xs h1 (k + 1)
      have l1 := csR_length (permR (k + 1) xs)
      have l2 := bsR_length (permR (k + 1) xs)
      have l3 := osR_length (permR (k + 1) xs)
      refine execN_sound OT_sound mixed (LoopsOk.innerAt innerB 0) (by kernel_rfl) (by intro v h; cases h) ((rB_on (some 25) (k + 1) 24 xs (permR (k + 1) xs) rcs).trans ?_)
      refine stX ?_ ?_ ?_
      · simp [pcB_ok, pxB_ok, qxB_ok, l0, l1, l2, l3, hr]
        omega
      · rw [add_lit, wrapI_nat (by omega)]; rfl
      · simp only [Int.toNat_natCast, Nat.mul_one, Nat.zero_add]; rfl
  · rintro ⟨xs, is, rs, cp⟩ hok
    simp only [ro_ok, Bool.and_eq_true, decide_eq_true_eq] at hok
    obtain ⟨⟨h1, h2⟩, h3⟩ := hok
    subst h2 h3
    refine execN_sound OT_sound mixed (LoopsOk.innerAt (LoopsOk.none (P := Pr) (fn := Go.Proofs.Try.f12) (n0 := 1)) 0) (by kernel_rfl) (by intro v h; cases h) ((rB_off (some 25) 24 24 xs (permR 24 xs) rcs).trans ?_)
    refine stX ?_ rfl rfl
    simp
def ro_k : Nat := 0
theorem rperm_x (xs : List (BitVec 64)) (cp : Option Nat) :
  execFD Pr OU (smL (1 : Nat) [ro_s]) [] (100 : Nat) Go.Proofs.Try.f12 [V.sl (0 : Nat) (0 : Nat) (1 : Nat) (25 : Nat) cp]
  [Blk.b64 xs] =
  some
  (ro_ok (xs, rotI, rcs, cp) && true && true, Fin.ret (V.sl (1 : Nat) (0 : Nat) (1 : Nat) (25 : Nat) (some (25 : Nat))),
    [Blk.b64 xs, Blk.b64 (permR (24 : Nat) xs)]) := by kernel_rfl
theorem rperm_fn (xs : List (BitVec 64)) (cp : Option Nat) (h1 : xs.length = 25) : LFn Pr 12 [.sl 0 0 1 25 cp] [.b64 xs] (.ret (.sl 1 0 1 25 (some 25))) [.b64 xs, .b64 (permR 24 xs)] := by
  refine execFD_sound OU_sound mixed (f := 12) (fn := Go.Proofs.Try.f12) (by kernel_rfl) (LoopsOk.of [(ro_s, ro_k)] (by kernel_rfl) (by intro p hp; simp only [List.mem_cons, List.not_mem_nil, or_false] at hp; rcases hp with rfl; exact ro_at)) ((rperm_x xs cp).trans ?_)
  refine stF ?_ ?_ ?_
  · simp [ro_ok, h1]
  · first | rfl | (simp (disch := omega) only [tmod_lit, tdiv_lit, mul_lit, add_lit, lit_mul, lit_add, add_nat, mul_nat, sub_lit, lit_sub, sub_nat, wrapI_nat, wrapI_in, Int.toNat_natCast, Nat.mul_one, Nat.zero_add, toNat_lit] <;> rfl) | (simp (disch := omega) only [tmod_lit, tdiv_lit, mul_lit, add_lit, lit_mul, lit_add, add_nat, mul_nat, sub_lit, lit_sub, sub_nat, wrapI_nat, wrapI_in, Int.toNat_natCast, Nat.mul_one, Nat.zero_add, toNat_lit]; done)
  · first | rfl | (simp (disch := omega) only [tmod_lit, tdiv_lit, mul_lit, add_lit, lit_mul, lit_add, add_nat, mul_nat, sub_lit, lit_sub, sub_nat, wrapI_nat, wrapI_in, Int.toNat_natCast, Nat.mul_one, Nat.zero_add, toNat_lit] <;> rfl) | (simp (disch := omega) only [tmod_lit, tdiv_lit, mul_lit, add_lit, lit_mul, lit_add, add_nat, mul_nat, sub_lit, lit_sub, sub_nat, wrapI_nat, wrapI_in, Int.toNat_natCast, Nat.mul_one, Nat.zero_add, toNat_lit]; done)
def rperm_read : List V → Heap → Option ((List (BitVec 64)) × (Option Nat)) := fun f h => match f, h with
  | [.sl 0 0 1 25 cp], [.b64 xs] => some (xs, cp)
  | _, _ => none
def rperm_g := ct rperm_read (fun ⟨xs, cp⟩ => decide (xs.length = 25)) (fun ⟨xs, cp⟩ => .ret (.sl 1 0 1 25 (some 25))) (fun ⟨xs, cp⟩ => [.b64 xs, .b64 (permR 24 xs)])
theorem rperm_ok : ∀ args h fin h', rperm_g args h = some (true, fin, h') → LFn Pr 12 args h fin h' := by
  refine ct_ok (fun ⟨xs, cp⟩ => [.sl 0 0 1 25 cp]) (fun ⟨xs, cp⟩ => [.b64 xs]) ?_ ?_
  · intro args h a e
    unfold rperm_read at e
    split at e <;> cases e
    exact ⟨rfl, rfl⟩
  · rintro ⟨xs, cp⟩ hok
    simp only [Bool.and_eq_true, decide_eq_true_eq] at hok
    have h1 := hok
    exact rperm_fn xs cp h1
theorem rperm_en : Enters Pr 12 := Enters.of (fn := Go.Proofs.Try.f12) (by kernel_rfl) (by kernel_rfl)
/-! ### it is the program's -/
theorem turn_eq (x : BitVec 64) (k : Nat) (h : k % 64 ≠ 0) : turn x (k % 64) = rotl x k := by
  unfold turn rotl
  have hk : k % 64 < 64 := Nat.mod_lt _ (by omega)
  have e1 : (64 - k % 64) % 64 = 64 - k % 64 := by omega
  have e2 : BitVec.ofInt 64 (if (1 : Int) < ((k % 64 : Nat) : Int) then (1 : Int) else ((k % 64 : Nat) : Int)) = 1#64 := by
    split
    · rfl
    · rw [show ((k % 64 : Nat) : Int) = 1 by omega]; rfl
  rw [Nat.mod_mod, e1, e2, BitVec.mul_one]
theorem turn_zero (x : BitVec 64) : turn x 0 = x := by
  unfold turn
  simp
def laneR (xs : List (BitVec 64)) (i : Nat) : BitVec 64 := col xs i ^^^ par xs ((i % 5 + 4) % 5) ^^^ turn (par xs ((i % 5 + 1) % 5)) 1
def bR (xs : List (BitVec 64)) : List (BitVec 64) := lanes 25 fun j => turn (laneR xs (moves.getD j (0, 0)).1) ((moves.getD j (0, 0)).2 % 64)
theorem osR_eq (xs : List (BitVec 64)) (h : xs.length = 25) : osR xs = chiL (bR xs) := by
  obtain ⟨x0, x1, x2, x3, x4, x5, x6, x7, x8, x9, x10, x11, x12, x13, x14, x15, x16, x17, x18, x19, x20, x21, x22, x23, x24, rfl⟩ := list25 xs h
  kernel_rfl
theorem moves_lt : ∀ j, j < 25 → (moves.getD j (0, 0)).1 < 25 ∧ (Nat.beq j 0 = true ∧ (moves.getD j (0, 0)) = (0, 0) ∨ Nat.beq j 0 = false ∧ (moves.getD j (0, 0)).2 % 64 ≠ 0) := by decide
theorem bR_eq (xs : List (BitVec 64)) : bR xs = rhoPiL (thetaL xs) := by
  have hl : ∀ i, i < 25 → laneR xs i = col (thetaL xs) i := by
    intro i hi
    unfold thetaL laneR
    rw [lanes_get _ _ _ hi, BitVec.xor_assoc, show turn (par xs ((i % 5 + 1) % 5)) 1 = rotl (par xs ((i % 5 + 1) % 5)) 1 from turn_eq _ 1 (by decide)]
    rw [show (i % 5 + 4) % 5 = (i + 4) % 5 by omega, show (i % 5 + 1) % 5 = (i + 1) % 5 by omega]
  refine col_ext (lanes_length _ _) (rhoPiL_length _) fun j hj => ?_
  unfold bR rhoPiL
  rw [lanes_get _ _ _ hj, lanes_get _ _ _ hj]
  obtain ⟨h1, h2⟩ := moves_lt j hj
  rw [hl _ h1]
  rcases h2 with ⟨h2, h3⟩ | ⟨h2, h3⟩
  · rw [h2, h3, if_pos rfl]; exact turn_zero _
  · rw [h2, turn_eq _ _ h3]; rfl
theorem rdR_eq (n : Nat) (xs : List (BitVec 64)) (h : xs.length = 25) : rdR n xs = roundL n xs := by
  unfold rdR roundL
  rw [osR_eq xs h, bR_eq]; rfl
theorem permR_eq (xs : List (BitVec 64)) (h : xs.length = 25) : permR 24 xs = permL xs := by
  have : ∀ n, permR n xs = permN n xs := by
    intro n
    induction n with
    | zero => rfl
    | succ n ih => simp only [permR, permN]; rw [ih, rdR_eq _ _ (permN_length n xs h)]
  exact this 24
end
end Go.Proofs.Ytggblpmijekemaa.K
