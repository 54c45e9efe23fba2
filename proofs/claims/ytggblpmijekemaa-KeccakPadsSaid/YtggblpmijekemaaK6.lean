import Derived.Test.YtggblpmijekemaaK5
set_option linter.unusedSimpArgs false
set_option linter.unusedVariables false
open Go Go.Lh
namespace Go.Proofs.Ytggblpmijekemaa.K
noncomputable section
set_option maxRecDepth 100000
def copyN (s bs : List (BitVec 8)) : Nat → List (BitVec 8)
  | 0 => bs
  | n + 1 => (copyN s bs n).set n (s.getD n 0)
theorem copyN_length (s bs : List (BitVec 8)) : ∀ n, (copyN s bs n).length = bs.length
  | 0 => rfl
  | n + 1 => by simp [copyN, copyN_length s bs n]
theorem s1_on (hd : Bool) (n : Nat) (s : List (BitVec 8)) (bs : List (BitVec 8)) :
  execT Pr OE noLoops [((23 : Nat), true)] (100 : Nat) (0 : Nat) [(0 : Nat)]
  [(0 : Nat), (3 : Nat), (4 : Nat), (5 : Nat)] (loopBody Go.Proofs.Try.f6 (0 : Nat))
  [((0 : Nat), V.str s), ((3 : Nat), V.bool hd),
    ((4 : Nat), V.sl (0 : Nat) (0 : Nat) (1 : Nat) (136 : Nat) (some (136 : Nat))),
    ((5 : Nat), V.int IntKind.i64 (↑n : Int))]
  [Blk.b8 bs] =
  some
  ((if true = true then decide ((↑n : Int) < (↑s.length : Int)) else !decide ((↑n : Int) < (↑s.length : Int))) &&
        true &&
      (decide ((0 : Int) ≤ (↑n : Int)) && decide ((↑n : Int) < (↑s.length : Int)) &&
          (decide ((0 : Int) ≤ (↑n : Int)) && decide ((↑n : Int) < (136 : Int)) &&
            (decide
                ((0 : Nat) + (↑n : Int).toNat * (1 : Nat) +
                    [V.u8 (s.getD (↑n : Int).toNat (OfNat.ofNat (0 : Nat)))].length ≤
                  bs.length) &&
              true)) &&
        true),
    X.normal,
    [((0 : Nat), V.str s), ((3 : Nat), V.bool hd),
      ((4 : Nat), V.sl (0 : Nat) (0 : Nat) (1 : Nat) (136 : Nat) (some (136 : Nat))),
      ((5 : Nat), V.int IntKind.i64 (wrapI IntKind.i64 ((↑n : Int) + (1 : Int))))],
    [Blk.b8
        (bs.set ((0 : Nat) + (↑n : Int).toNat * (1 : Nat))
          (s.getD (↑n : Int).toNat (OfNat.ofNat (0 : Nat))))]) := by kernel_rfl
theorem s1_off (hd : Bool) (n : Nat) (s : List (BitVec 8)) (bs : List (BitVec 8)) :
  execT Pr OE noLoops [((23 : Nat), false)] (100 : Nat) (0 : Nat) [(0 : Nat)] [(0 : Nat), (3 : Nat), (4 : Nat)]
  (loopBody Go.Proofs.Try.f6 (0 : Nat))
  [((0 : Nat), V.str s), ((3 : Nat), V.bool hd),
    ((4 : Nat), V.sl (0 : Nat) (0 : Nat) (1 : Nat) (136 : Nat) (some (136 : Nat))),
    ((5 : Nat), V.int IntKind.i64 (↑n : Int))]
  [Blk.b8 bs] =
  some
  ((if false = true then decide ((↑n : Int) < (↑s.length : Int)) else !decide ((↑n : Int) < (↑s.length : Int))) && true,
    X.exit (0 : Nat),
    [((0 : Nat), V.str s), ((3 : Nat), V.bool hd),
      ((4 : Nat), V.sl (0 : Nat) (0 : Nat) (1 : Nat) (136 : Nat) (some (136 : Nat)))],
    [Blk.b8 bs]) := by kernel_rfl
theorem s1_step (hd : Bool) (n : Nat) (s bs : List (BitVec 8)) (hn : n < s.length) (h1 : s.length ≤ 136) (h2 : bs.length = 136) :
    execT Pr OE noLoops [(23,true)] 100 0 [0] [0,3,4,5] (loopBody Go.Proofs.Try.f6 0) [(0,.str s),(3,.bool hd),(4,.sl 0 0 1 136 (some 136)),(5,.int .i64 n)] [.b8 bs] =
      some (true, .normal, [(0,.str s),(3,.bool hd),(4,.sl 0 0 1 136 (some 136)),(5,.int .i64 ((n + 1 : Nat) : Int))], [.b8 (bs.set n (s.getD n 0))]) := by
  rw [s1_on]
  have e3 : wrapI .i64 ((n : Int) + (1 : Int)) = ((n + 1 : Nat) : Int) := by rw [add_lit]; exact wrapI_nat (by omega)
  simp only [e3, Int.toNat_natCast, Nat.mul_one, Nat.zero_add]
  simp [h2]
  omega
/-- what the law's loop does to the lanes -/
def orB (xs : List (BitVec 64)) (n : Nat) (b : BitVec 8) : List (BitVec 64) :=
  xs.set (n / 8) (xs.getD (n / 8) 0 ||| b.setWidth 64 <<< (8 * (n % 8)))
def orN (bs : List (BitVec 8)) (xs : List (BitVec 64)) : Nat → List (BitVec 64)
  | 0 => xs
  | n + 1 => orB (orN bs xs n) n (bs.getD n 0)
theorem orN_length (bs : List (BitVec 8)) (xs : List (BitVec 64)) : ∀ n, (orN bs xs n).length = xs.length
  | 0 => rfl
  | n + 1 => by simp [orN, orB, orN_length bs xs n]
theorem s2_on (hd : Bool) (n : Nat) (s : List (BitVec 8)) (bs : List (BitVec 8)) (xs : List (BitVec 64)) :
  execT Pr OE noLoops [((43 : Nat), true)] (100 : Nat) (0 : Nat) [(0 : Nat), (1 : Nat)]
  [(0 : Nat), (3 : Nat), (4 : Nat), (6 : Nat), (7 : Nat)] (loopBody Go.Proofs.Try.f6 (1 : Nat))
  [((0 : Nat), V.str s), ((3 : Nat), V.bool hd),
    ((4 : Nat), V.sl (0 : Nat) (0 : Nat) (1 : Nat) (136 : Nat) (some (136 : Nat))),
    ((6 : Nat), V.ptr (1 : Nat) (0 : Nat)), ((7 : Nat), V.int IntKind.i64 (↑n : Int))]
  [Blk.b8 bs, Blk.b64 xs] =
  some
  ((if true = true then decide ((↑n : Int) < (136 : Int)) else !decide ((↑n : Int) < (136 : Int))) && true &&
      (decide ((0 : Int) ≤ wrapI IntKind.i64 ((↑n : Int).tdiv (8 : Int))) &&
            decide (wrapI IntKind.i64 ((↑n : Int).tdiv (8 : Int)) < (25 : Int)) &&
          (decide ((0 : Nat) + (wrapI IntKind.i64 ((↑n : Int).tdiv (8 : Int))).toNat * (1 : Nat) < xs.length) &&
            (decide ((0 : Int) ≤ (↑n : Int)) && decide ((↑n : Int) < (136 : Int)) &&
              (decide ((0 : Nat) + (↑n : Int).toNat * (1 : Nat) < bs.length) &&
                (decide ((0 : Int) ≤ wrapI IntKind.i64 ((8 : Int) * (↑n : Int).tmod (8 : Int))) &&
                  (decide ((0 : Int) ≤ wrapI IntKind.i64 ((↑n : Int).tdiv (8 : Int))) &&
                      decide (wrapI IntKind.i64 ((↑n : Int).tdiv (8 : Int)) < (25 : Int)) &&
                    (decide
                        ((0 : Nat) + (wrapI IntKind.i64 ((↑n : Int).tdiv (8 : Int))).toNat * (1 : Nat) +
                            [V.u64
                                  (xs.getD
                                      ((0 : Nat) + (wrapI IntKind.i64 ((↑n : Int).tdiv (8 : Int))).toNat * (1 : Nat))
                                      (OfNat.ofNat (0 : Nat)) |||
                                    BitVec.setWidth (64 : Nat)
                                        (bs.getD ((0 : Nat) + (↑n : Int).toNat * (1 : Nat)) (OfNat.ofNat (0 : Nat))) <<<
                                      (wrapI IntKind.i64 ((8 : Int) * (↑n : Int).tmod (8 : Int))).toNat)].length ≤
                          xs.length) &&
                      true)))))) &&
        true),
    X.normal,
    [((0 : Nat), V.str s), ((3 : Nat), V.bool hd),
      ((4 : Nat), V.sl (0 : Nat) (0 : Nat) (1 : Nat) (136 : Nat) (some (136 : Nat))),
      ((6 : Nat), V.ptr (1 : Nat) (0 : Nat)),
      ((7 : Nat), V.int IntKind.i64 (wrapI IntKind.i64 ((↑n : Int) + (1 : Int))))],
    [Blk.b8 bs,
      Blk.b64
        (xs.set ((0 : Nat) + (wrapI IntKind.i64 ((↑n : Int).tdiv (8 : Int))).toNat * (1 : Nat))
          (xs.getD ((0 : Nat) + (wrapI IntKind.i64 ((↑n : Int).tdiv (8 : Int))).toNat * (1 : Nat))
              (OfNat.ofNat (0 : Nat)) |||
            BitVec.setWidth (64 : Nat) (bs.getD ((0 : Nat) + (↑n : Int).toNat * (1 : Nat)) (OfNat.ofNat (0 : Nat))) <<<
              (wrapI IntKind.i64 ((8 : Int) * (↑n : Int).tmod (8 : Int))).toNat))]) := by kernel_rfl
theorem s2_off (hd : Bool) (n : Nat) (s : List (BitVec 8)) (bs : List (BitVec 8)) (xs : List (BitVec 64)) :
  execT Pr OE noLoops [((43 : Nat), false)] (100 : Nat) (0 : Nat) [(1 : Nat)] [(0 : Nat), (3 : Nat), (6 : Nat)]
  (loopBody Go.Proofs.Try.f6 (1 : Nat))
  [((0 : Nat), V.str s), ((3 : Nat), V.bool hd),
    ((4 : Nat), V.sl (0 : Nat) (0 : Nat) (1 : Nat) (136 : Nat) (some (136 : Nat))),
    ((6 : Nat), V.ptr (1 : Nat) (0 : Nat)), ((7 : Nat), V.int IntKind.i64 (↑n : Int))]
  [Blk.b8 bs, Blk.b64 xs] =
  some
  ((if false = true then decide ((↑n : Int) < (136 : Int)) else !decide ((↑n : Int) < (136 : Int))) && true,
    X.exit (2 : Nat), [((0 : Nat), V.str s), ((3 : Nat), V.bool hd), ((6 : Nat), V.ptr (0 : Nat) (0 : Nat))],
    [Blk.b64 xs]) := by kernel_rfl
theorem s3_on (hd : Bool) (n : Nat) (s : List (BitVec 8)) (ys : List (BitVec 8)) (xs : List (BitVec 64)) :
  execT Pr OE noLoops [((67 : Nat), true)] (100 : Nat) (0 : Nat) [(0 : Nat), (1 : Nat)]
  [(0 : Nat), (3 : Nat), (8 : Nat), (9 : Nat), (10 : Nat)] (loopBody Go.Proofs.Try.f6 (2 : Nat))
  [((0 : Nat), V.str s), ((3 : Nat), V.bool hd), ((8 : Nat), V.ptr (0 : Nat) (0 : Nat)),
    ((9 : Nat), V.sl (1 : Nat) (0 : Nat) (1 : Nat) (32 : Nat) (some (32 : Nat))),
    ((10 : Nat), V.int IntKind.i64 (↑n : Int))]
  [Blk.b64 xs, Blk.b8 ys] =
  some
  ((if true = true then decide ((↑n : Int) < (32 : Int)) else !decide ((↑n : Int) < (32 : Int))) && true &&
      (decide ((0 : Int) ≤ wrapI IntKind.i64 ((↑n : Int).tdiv (8 : Int))) &&
            decide (wrapI IntKind.i64 ((↑n : Int).tdiv (8 : Int)) < (25 : Int)) &&
          (decide ((0 : Nat) + (wrapI IntKind.i64 ((↑n : Int).tdiv (8 : Int))).toNat * (1 : Nat) < xs.length) &&
            (decide ((0 : Int) ≤ wrapI IntKind.i64 ((8 : Int) * (↑n : Int).tmod (8 : Int))) &&
              (decide ((0 : Int) ≤ (↑n : Int)) && decide ((↑n : Int) < (32 : Int)) &&
                (decide
                    ((0 : Nat) + (↑n : Int).toNat * (1 : Nat) +
                        [V.u8
                              (BitVec.setWidth (8 : Nat)
                                (xs.getD ((0 : Nat) + (wrapI IntKind.i64 ((↑n : Int).tdiv (8 : Int))).toNat * (1 : Nat))
                                    (OfNat.ofNat (0 : Nat)) >>>
                                  (wrapI IntKind.i64 ((8 : Int) * (↑n : Int).tmod (8 : Int))).toNat))].length ≤
                      ys.length) &&
                  true)))) &&
        true),
    X.normal,
    [((0 : Nat), V.str s), ((3 : Nat), V.bool hd), ((8 : Nat), V.ptr (0 : Nat) (0 : Nat)),
      ((9 : Nat), V.sl (1 : Nat) (0 : Nat) (1 : Nat) (32 : Nat) (some (32 : Nat))),
      ((10 : Nat), V.int IntKind.i64 (wrapI IntKind.i64 ((↑n : Int) + (1 : Int))))],
    [Blk.b64 xs,
      Blk.b8
        (ys.set ((0 : Nat) + (↑n : Int).toNat * (1 : Nat))
          (BitVec.setWidth (8 : Nat)
            (xs.getD ((0 : Nat) + (wrapI IntKind.i64 ((↑n : Int).tdiv (8 : Int))).toNat * (1 : Nat))
                (OfNat.ofNat (0 : Nat)) >>>
              (wrapI IntKind.i64 ((8 : Int) * (↑n : Int).tmod (8 : Int))).toNat)))]) := by kernel_rfl
theorem s3_off (hd : Bool) (n : Nat) (s : List (BitVec 8)) (ys : List (BitVec 8)) (xs : List (BitVec 64)) :
  execT Pr OE noLoops [((67 : Nat), false)] (100 : Nat) (0 : Nat) [(1 : Nat)] [(0 : Nat), (3 : Nat), (9 : Nat)]
  (loopBody Go.Proofs.Try.f6 (2 : Nat))
  [((0 : Nat), V.str s), ((3 : Nat), V.bool hd), ((8 : Nat), V.ptr (0 : Nat) (0 : Nat)),
    ((9 : Nat), V.sl (1 : Nat) (0 : Nat) (1 : Nat) (32 : Nat) (some (32 : Nat))),
    ((10 : Nat), V.int IntKind.i64 (↑n : Int))]
  [Blk.b64 xs, Blk.b8 ys] =
  some
  ((if false = true then decide ((↑n : Int) < (32 : Int)) else !decide ((↑n : Int) < (32 : Int))) && true,
    X.exit (4 : Nat),
    [((0 : Nat), V.str s), ((3 : Nat), V.bool hd),
      ((9 : Nat), V.sl (0 : Nat) (0 : Nat) (1 : Nat) (32 : Nat) (some (32 : Nat)))],
    [Blk.b8 ys]) := by kernel_rfl
theorem s2_step (hd : Bool) (n : Nat) (s bs : List (BitVec 8)) (xs : List (BitVec 64)) (hn : n < 136) (h2 : bs.length = 136) (h3 : xs.length = 25) :
    execT Pr OE noLoops [(43,true)] 100 0 [0,1] [0,3,4,6,7] (loopBody Go.Proofs.Try.f6 1) [(0,.str s),(3,.bool hd),(4,.sl 0 0 1 136 (some 136)),(6,.ptr 1 0),(7,.int .i64 n)] [.b8 bs, .b64 xs] =
      some (true, .normal, [(0,.str s),(3,.bool hd),(4,.sl 0 0 1 136 (some 136)),(6,.ptr 1 0),(7,.int .i64 ((n + 1 : Nat) : Int))], [.b8 bs, .b64 (orB xs n (bs.getD n 0))]) := by
  rw [s2_on]
  have e1 : wrapI .i64 ((n : Int).tdiv (8 : Int)) = ((n / 8 : Nat) : Int) := by rw [tdiv_lit]; exact wrapI_nat (by omega)
  have e2 : wrapI .i64 ((8 : Int) * (n : Int).tmod (8 : Int)) = ((8 * (n % 8) : Nat) : Int) := by rw [tmod_lit, show (8 : Int) * ((n % 8 : Nat) : Int) = ((8 * (n % 8) : Nat) : Int) by omega]; exact wrapI_nat (by omega)
  have e3 : wrapI .i64 ((n : Int) + (1 : Int)) = ((n + 1 : Nat) : Int) := by rw [add_lit]; exact wrapI_nat (by omega)
  simp only [e1, e2, e3, Int.toNat_natCast, Nat.mul_one, Nat.zero_add, orB]
  simp [h2, h3]
  omega
def byte8 (xs : List (BitVec 64)) (n : Nat) : BitVec 8 := (xs.getD (n / 8) 0 >>> (8 * (n % 8))).setWidth 8
def out8 (xs : List (BitVec 64)) (ys : List (BitVec 8)) : Nat → List (BitVec 8)
  | 0 => ys
  | n + 1 => (out8 xs ys n).set n (byte8 xs n)
theorem out8_eq (xs : List (BitVec 64)) (ys : List (BitVec 8)) : ∀ n, out8 xs ys n = outN xs ys n
  | 0 => rfl
  | n + 1 => by simp only [out8, outN, out8_eq xs ys n, byte8, byteOf, Nat.mul_comm]
theorem s3_step (hd : Bool) (n : Nat) (s ys : List (BitVec 8)) (xs : List (BitVec 64)) (hn : n < 32) (h2 : ys.length = 32) (h3 : xs.length = 25) :
    execT Pr OE noLoops [(67,true)] 100 0 [0,1] [0,3,8,9,10] (loopBody Go.Proofs.Try.f6 2) [(0,.str s),(3,.bool hd),(8,.ptr 0 0),(9,.sl 1 0 1 32 (some 32)),(10,.int .i64 n)] [.b64 xs, .b8 ys] =
      some (true, .normal, [(0,.str s),(3,.bool hd),(8,.ptr 0 0),(9,.sl 1 0 1 32 (some 32)),(10,.int .i64 ((n + 1 : Nat) : Int))], [.b64 xs, .b8 (ys.set n (byte8 xs n))]) := by
  rw [s3_on]
  have e1 : wrapI .i64 ((n : Int).tdiv (8 : Int)) = ((n / 8 : Nat) : Int) := by rw [tdiv_lit]; exact wrapI_nat (by omega)
  have e2 : wrapI .i64 ((8 : Int) * (n : Int).tmod (8 : Int)) = ((8 * (n % 8) : Nat) : Int) := by rw [tmod_lit, show (8 : Int) * ((n % 8 : Nat) : Int) = ((8 * (n % 8) : Nat) : Int) by omega]; exact wrapI_nat (by omega)
  have e3 : wrapI .i64 ((n : Int) + (1 : Int)) = ((n + 1 : Nat) : Int) := by rw [add_lit]; exact wrapI_nat (by omega)
  simp only [e1, e2, e3, Int.toNat_natCast, Nat.mul_one, Nat.zero_add, byte8]
  simp [h2, h3]
  omega
def L6 : Loops := fun n fr h =>
  if Nat.beq n 7 then (match tell 0 (rootsOf fr [4]) [0, 3, 4, 5] fr h with
    | some ([(0, .str s), (3, .bool hd), (4, .sl 0 0 1 136 (some 136)), (5, .int .i64 0)], [.b8 bs]) =>
      some (decide (s.length ≤ 136) && decide (bs.length = 136), .exit 0, [(0, .str s), (3, .bool hd), (4, .sl 0 0 1 136 (some 136))], [.b8 (copyN s bs s.length)])
    | _ => none)
  else if Nat.beq n 14 then (match tell 0 (rootsOf fr [4, 6]) [0, 3, 4, 6, 7] fr h with
    | some ([(0, .str s), (3, .bool hd), (4, .sl 0 0 1 136 (some 136)), (6, .ptr 1 0), (7, .int .i64 0)], [.b8 bs, .b64 xs]) =>
      some (decide (bs.length = 136) && decide (xs.length = 25), .exit 2, [(0, .str s), (3, .bool hd), (6, .ptr 0 0)], [.b64 (orN bs xs 136)])
    | _ => none)
  else if Nat.beq n 20 then (match tell 0 (rootsOf fr [8, 9]) [0, 3, 8, 9, 10] fr h with
    | some ([(0, .str s), (3, .bool hd), (8, .ptr 0 0), (9, .sl 1 0 1 32 (some 32)), (10, .int .i64 0)], [.b64 xs, .b8 ys]) =>
      some (decide (ys.length = 32) && decide (xs.length = 25), .exit 4, [(0, .str s), (3, .bool hd), (9, .sl 0 0 1 32 (some 32))], [.b8 (out8 xs ys 32)])
    | _ => none)
  else none
theorem L6_ok0 : LoopOk Pr 97 0 L6 (loopBody Go.Proofs.Try.f6 0) := by
  intro fr h x fr' h' hL
  rw [show headNo (loopBody Go.Proofs.Try.f6 0) = 7 by kernel_rfl] at hL
  unfold L6 at hL
  rw [if_pos (by rfl)] at hL
  split at hL <;> try simp only [reduceCtorEq] at hL
  rename_i s hd bs ht
  simp only [Option.some.injEq, Prod.mk.injEq, Bool.and_eq_true, decide_eq_true_eq] at hL
  obtain ⟨⟨h1, h2⟩, rfl, rfl, rfl⟩ := hL
  refine Runs.weaken (tell_weaker ht) ?_
  refine Runs.count (fun n => ([(0,.str s),(3,.bool hd),(4,.sl 0 0 1 136 (some 136)),(5,.int .i64 n)], [.b8 (copyN s bs n)])) s.length (by simp) ?_ ?_
  · intro n hn
    exact execT_sound OE_sound mixed (fun _ _ => LoopOk.none) (by kernel_rfl) (by simp) (s1_step hd n s (copyN s bs n) hn h1 (by rw [copyN_length, h2]))
  · refine execT_sound OE_sound mixed (fun _ _ => LoopOk.none) (by kernel_rfl) (by simp) ((s1_off hd s.length s (copyN s bs s.length)).trans ?_)
    simp
theorem L6_ok1 : LoopOk Pr 97 0 L6 (loopBody Go.Proofs.Try.f6 1) := by
  intro fr h x fr' h' hL
  rw [show headNo (loopBody Go.Proofs.Try.f6 1) = 14 by kernel_rfl] at hL
  unfold L6 at hL
  rw [if_neg (by decide), if_pos (by rfl)] at hL
  split at hL <;> try simp only [reduceCtorEq] at hL
  rename_i s hd bs xs ht
  simp only [Option.some.injEq, Prod.mk.injEq, Bool.and_eq_true, decide_eq_true_eq] at hL
  obtain ⟨⟨h1, h2⟩, rfl, rfl, rfl⟩ := hL
  refine Runs.weaken (tell_weaker ht) ?_
  refine Runs.count (fun n => ([(0,.str s),(3,.bool hd),(4,.sl 0 0 1 136 (some 136)),(6,.ptr 1 0),(7,.int .i64 n)], [.b8 bs, .b64 (orN bs xs n)])) 136 (by simp) ?_ ?_
  · intro n hn
    exact execT_sound OE_sound mixed (fun _ _ => LoopOk.none) (by kernel_rfl) (by simp) (s2_step hd n s bs (orN bs xs n) hn h1 (by rw [orN_length, h2]))
  · refine execT_sound OE_sound mixed (fun _ _ => LoopOk.none) (by kernel_rfl) (by simp) ((s2_off hd 136 s bs (orN bs xs 136)).trans ?_)
    simp
theorem L6_ok2 : LoopOk Pr 97 0 L6 (loopBody Go.Proofs.Try.f6 2) := by
  intro fr h x fr' h' hL
  rw [show headNo (loopBody Go.Proofs.Try.f6 2) = 20 by kernel_rfl] at hL
  unfold L6 at hL
  rw [if_neg (by decide), if_neg (by decide), if_pos (by rfl)] at hL
  split at hL <;> try simp only [reduceCtorEq] at hL
  rename_i s hd xs ys ht
  simp only [Option.some.injEq, Prod.mk.injEq, Bool.and_eq_true, decide_eq_true_eq] at hL
  obtain ⟨⟨h1, h2⟩, rfl, rfl, rfl⟩ := hL
  refine Runs.weaken (tell_weaker ht) ?_
  refine Runs.count (fun n => ([(0,.str s),(3,.bool hd),(8,.ptr 0 0),(9,.sl 1 0 1 32 (some 32)),(10,.int .i64 n)], [.b64 xs, .b8 (out8 xs ys n)])) 32 (by simp) ?_ ?_
  · intro n hn
    have hl : ∀ n, (out8 xs ys n).length = 32 := fun n => by rw [out8_eq, outN_length, h1]
    exact execT_sound OE_sound mixed (fun _ _ => LoopOk.none) (by kernel_rfl) (by simp) (s3_step hd n s (out8 xs ys n) xs hn (hl n) h2)
  · refine execT_sound OE_sound mixed (fun _ _ => LoopOk.none) (by kernel_rfl) (by simp) ((s3_off hd 32 s (out8 xs ys 32) xs).trans ?_)
    simp
def cut130 (s : List (BitVec 8)) : List (BitVec 8) := List.drop (0 : Nat) (List.take ((some (if (130 : Int) < (↑s.length : Int) then (130 : Int) else (↑s.length : Int))).getD (↑s.length : Int)).toNat s)
def bS1 (s : List (BitVec 8)) : List (BitVec 8) := copyN (cut130 s) (List.replicate (136 : Nat) (BitVec.ofInt (8 : Nat) (0 : Int))) (cut130 s).length
def bS2 (s : List (BitVec 8)) : List (BitVec 8) := (bS1 s).set (0 + (↑(cut130 s).length : Int).toNat * 1) (BitVec.ofInt 8 1)
def bS3 (s : List (BitVec 8)) : List (BitVec 8) := (bS2 s).set 135 ((bS2 s).getD 135 (0 : BitVec 8) ^^^ BitVec.ofInt 8 128)
def zS (s : List (BitVec 8)) : List (BitVec 64) := [BitVec.ofInt (64 : Nat) (0 : Int), BitVec.ofInt (64 : Nat) (0 : Int), BitVec.ofInt (64 : Nat) (0 : Int), BitVec.ofInt (64 : Nat) (0 : Int), BitVec.ofInt (64 : Nat) (0 : Int), BitVec.ofInt (64 : Nat) (0 : Int), BitVec.ofInt (64 : Nat) (0 : Int), BitVec.ofInt (64 : Nat) (0 : Int), BitVec.ofInt (64 : Nat) (0 : Int), BitVec.ofInt (64 : Nat) (0 : Int), BitVec.ofInt (64 : Nat) (0 : Int), BitVec.ofInt (64 : Nat) (0 : Int), BitVec.ofInt (64 : Nat) (0 : Int), BitVec.ofInt (64 : Nat) (0 : Int), BitVec.ofInt (64 : Nat) (0 : Int), BitVec.ofInt (64 : Nat) (0 : Int), BitVec.ofInt (64 : Nat) (0 : Int), BitVec.ofInt (64 : Nat) (0 : Int), BitVec.ofInt (64 : Nat) (0 : Int), BitVec.ofInt (64 : Nat) (0 : Int), BitVec.ofInt (64 : Nat) (0 : Int), BitVec.ofInt (64 : Nat) (0 : Int), BitVec.ofInt (64 : Nat) (0 : Int), BitVec.ofInt (64 : Nat) (0 : Int), BitVec.ofInt (64 : Nat) (0 : Int)]
def aS (s : List (BitVec 8)) : List (BitVec 64) := orN (bS3 s) (zS s) 136
def aE (s : List (BitVec 8)) : List (BitVec 64) := [(aS s).getD 0 (0 : BitVec 64), (aS s).getD 1 (0 : BitVec 64), (aS s).getD 2 (0 : BitVec 64), (aS s).getD 3 (0 : BitVec 64), (aS s).getD 4 (0 : BitVec 64), (aS s).getD 5 (0 : BitVec 64), (aS s).getD 6 (0 : BitVec 64), (aS s).getD 7 (0 : BitVec 64), (aS s).getD 8 (0 : BitVec 64), (aS s).getD 9 (0 : BitVec 64), (aS s).getD 10 (0 : BitVec 64), (aS s).getD 11 (0 : BitVec 64), (aS s).getD 12 (0 : BitVec 64), (aS s).getD 13 (0 : BitVec 64), (aS s).getD 14 (0 : BitVec 64), (aS s).getD 15 (0 : BitVec 64), (aS s).getD 16 (0 : BitVec 64), (aS s).getD 17 (0 : BitVec 64), (aS s).getD 18 (0 : BitVec 64), (aS s).getD 19 (0 : BitVec 64), (aS s).getD 20 (0 : BitVec 64), (aS s).getD 21 (0 : BitVec 64), (aS s).getD 22 (0 : BitVec 64), (aS s).getD 23 (0 : BitVec 64), (aS s).getD 24 (0 : BitVec 64)]
def xS (s : List (BitVec 8)) : List (BitVec 64) := (((((((((((((((((((((((((zS s).set 0 ((permL (aE s)).getD 0 (0 : BitVec 64))).set 1 ((permL (aE s)).getD 1 (0 : BitVec 64))).set 2 ((permL (aE s)).getD 2 (0 : BitVec 64))).set 3 ((permL (aE s)).getD 3 (0 : BitVec 64))).set 4 ((permL (aE s)).getD 4 (0 : BitVec 64))).set 5 ((permL (aE s)).getD 5 (0 : BitVec 64))).set 6 ((permL (aE s)).getD 6 (0 : BitVec 64))).set 7 ((permL (aE s)).getD 7 (0 : BitVec 64))).set 8 ((permL (aE s)).getD 8 (0 : BitVec 64))).set 9 ((permL (aE s)).getD 9 (0 : BitVec 64))).set 10 ((permL (aE s)).getD 10 (0 : BitVec 64))).set 11 ((permL (aE s)).getD 11 (0 : BitVec 64))).set 12 ((permL (aE s)).getD 12 (0 : BitVec 64))).set 13 ((permL (aE s)).getD 13 (0 : BitVec 64))).set 14 ((permL (aE s)).getD 14 (0 : BitVec 64))).set 15 ((permL (aE s)).getD 15 (0 : BitVec 64))).set 16 ((permL (aE s)).getD 16 (0 : BitVec 64))).set 17 ((permL (aE s)).getD 17 (0 : BitVec 64))).set 18 ((permL (aE s)).getD 18 (0 : BitVec 64))).set 19 ((permL (aE s)).getD 19 (0 : BitVec 64))).set 20 ((permL (aE s)).getD 20 (0 : BitVec 64))).set 21 ((permL (aE s)).getD 21 (0 : BitVec 64))).set 22 ((permL (aE s)).getD 22 (0 : BitVec 64))).set 23 ((permL (aE s)).getD 23 (0 : BitVec 64))).set 24 ((permL (aE s)).getD 24 (0 : BitVec 64))
def oS (s : List (BitVec 8)) : List (BitVec 8) := out8 (xS s) (List.replicate (32 : Nat) (BitVec.ofInt (8 : Nat) (0 : Int))) (32 : Nat)
theorem same_end (s : List (BitVec 8)) :
  execF Pr (withAsm OE [((85 : Nat), true), ((92 : Nat), true)]) L6 (100 : Nat) Go.Proofs.Try.f6 [V.str s] [] =
  some
  (decide
              ((0 : Int) ≤
                (some (if (130 : Int) < (↑s.length : Int) then (130 : Int) else (↑s.length : Int))).getD
                  (↑s.length : Int)) &&
            decide
              ((some (if (130 : Int) < (↑s.length : Int) then (130 : Int) else (↑s.length : Int))).getD
                  (↑s.length : Int) ≤
                (↑s.length : Int)) &&
          true &&
        (decide ((cut130 s).length ≤ (136 : Nat)) && true &&
          (decide ((0 : Int) ≤ (↑(cut130 s).length : Int)) && decide ((↑(cut130 s).length : Int) < (136 : Int)) &&
              (decide ((0 : Nat) + (↑(cut130 s).length : Int).toNat * (1 : Nat) + (1 : Nat) ≤ (bS1 s).length) &&
                true) &&
            (decide ((135 : Nat) < (bS2 s).length) &&
                (decide
                    ((135 : Nat) +
                        [V.u8
                              ((bS2 s).getD (135 : Nat) (OfNat.ofNat (0 : Nat)) ^^^
                                BitVec.ofInt (8 : Nat) (128 : Int))].length ≤
                      (bS2 s).length) &&
                  true) &&
              (decide ((bS3 s).length = (136 : Nat)) && true &&
                (decide ((25 : Nat) ≤ (aS s).length) &&
                    ((aE s).length.beq (25 : Nat) &&
                      (decide
                          ((0 : Nat) +
                              [V.u64 ((permL (aE s)).getD (0 : Nat) (OfNat.ofNat (0 : Nat))),
                                  V.u64 ((permL (aE s)).getD (1 : Nat) (OfNat.ofNat (0 : Nat))),
                                  V.u64 ((permL (aE s)).getD (2 : Nat) (OfNat.ofNat (0 : Nat))),
                                  V.u64 ((permL (aE s)).getD (3 : Nat) (OfNat.ofNat (0 : Nat))),
                                  V.u64 ((permL (aE s)).getD (4 : Nat) (OfNat.ofNat (0 : Nat))),
                                  V.u64 ((permL (aE s)).getD (5 : Nat) (OfNat.ofNat (0 : Nat))),
                                  V.u64 ((permL (aE s)).getD (6 : Nat) (OfNat.ofNat (0 : Nat))),
                                  V.u64 ((permL (aE s)).getD (7 : Nat) (OfNat.ofNat (0 : Nat))),
                                  V.u64 ((permL (aE s)).getD (8 : Nat) (OfNat.ofNat (0 : Nat))),
                                  V.u64 ((permL (aE s)).getD (9 : Nat) (OfNat.ofNat (0 : Nat))),
                                  V.u64 ((permL (aE s)).getD (10 : Nat) (OfNat.ofNat (0 : Nat))),
                                  V.u64 ((permL (aE s)).getD (11 : Nat) (OfNat.ofNat (0 : Nat))),
                                  V.u64 ((permL (aE s)).getD (12 : Nat) (OfNat.ofNat (0 : Nat))),
                                  V.u64 ((permL (aE s)).getD (13 : Nat) (OfNat.ofNat (0 : Nat))),
                                  V.u64 ((permL (aE s)).getD (14 : Nat) (OfNat.ofNat (0 : Nat))),
                                  V.u64 ((permL (aE s)).getD (15 : Nat) (OfNat.ofNat (0 : Nat))),
                                  V.u64 ((permL (aE s)).getD (16 : Nat) (OfNat.ofNat (0 : Nat))),
                                  V.u64 ((permL (aE s)).getD (17 : Nat) (OfNat.ofNat (0 : Nat))),
                                  V.u64 ((permL (aE s)).getD (18 : Nat) (OfNat.ofNat (0 : Nat))),
                                  V.u64 ((permL (aE s)).getD (19 : Nat) (OfNat.ofNat (0 : Nat))),
                                  V.u64 ((permL (aE s)).getD (20 : Nat) (OfNat.ofNat (0 : Nat))),
                                  V.u64 ((permL (aE s)).getD (21 : Nat) (OfNat.ofNat (0 : Nat))),
                                  V.u64 ((permL (aE s)).getD (22 : Nat) (OfNat.ofNat (0 : Nat))),
                                  V.u64 ((permL (aE s)).getD (23 : Nat) (OfNat.ofNat (0 : Nat))),
                                  V.u64 ((permL (aE s)).getD (24 : Nat) (OfNat.ofNat (0 : Nat)))].length ≤
                            (25 : Nat)) &&
                        true)) &&
                  (decide ((xS s).length = (25 : Nat)) &&
                    (decide ((cut130 s).length ≤ (1000000000000 : Nat)) &&
                        (decide ((32 : Nat) ≤ (oS s).length) &&
                          ((if true = true then sumO (cut130 s) == List.take (32 : Nat) (List.drop (0 : Nat) (oS s))
                            else !sumO (cut130 s) == List.take (32 : Nat) (List.drop (0 : Nat) (oS s))) &&
                            (decide ((cut130 s).length ≤ (1000000000000 : Nat)) &&
                              (decide ((cut130 s).length ≤ (1000000000000 : Nat)) &&
                                ((if true = true then sumO (cut130 s) == sumO (cut130 s)
                                  else !sumO (cut130 s) == sumO (cut130 s)) &&
                                  true))))) &&
                      true))))))) &&
      true,
    Fin.ret (V.bool true), []) := by kernel_rfl
end
end Go.Proofs.Ytggblpmijekemaa.K
