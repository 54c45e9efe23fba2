import Derived.Test.YtggblpmijekemaaK2
import Derived.Test.YtggblpmijekemaaLhAC
set_option linter.unusedSimpArgs false
set_option linter.unusedVariables false
open Go Go.Lh
namespace Go.Proofs.Ytggblpmijekemaa.K
noncomputable section
set_option maxRecDepth 100000
theorem inner_on (o : Nat) (len : Nat) (n : Nat) (bs : List (BitVec 8)) (xs : List (BitVec 64)) :
  execT Pr O11 noLoops [((33 : Nat), true)] (100 : Nat) (0 : Nat) [(0 : Nat), (1 : Nat)]
  [(3 : Nat), (4 : Nat), (32 : Nat)] (loopBody Go.Proofs.Try.f9 (1 : Nat))
  [((3 : Nat), V.sl (0 : Nat) o (1 : Nat) len none), ((4 : Nat), V.ptr (1 : Nat) (0 : Nat)),
    ((32 : Nat), V.int IntKind.i64 (↑n : Int))]
  [Blk.b8 bs, Blk.b64 xs] =
  some
  ((if true = true then decide ((↑n : Int) < (136 : Int)) else !decide ((↑n : Int) < (136 : Int))) && true &&
      (decide ((0 : Int) ≤ wrapI IntKind.i64 ((↑n : Int).tdiv (8 : Int))) &&
            decide (wrapI IntKind.i64 ((↑n : Int).tdiv (8 : Int)) < (25 : Int)) &&
          (decide ((0 : Nat) + (wrapI IntKind.i64 ((↑n : Int).tdiv (8 : Int))).toNat * (1 : Nat) < xs.length) &&
            (decide ((0 : Int) ≤ (↑n : Int)) && decide ((↑n : Int) < (↑len : Int)) &&
              (decide (o + (↑n : Int).toNat * (1 : Nat) < bs.length) &&
                (decide ((0 : Int) ≤ wrapI IntKind.i64 ((↑n : Int).tmod (8 : Int) * (8 : Int))) &&
                  (decide ((0 : Int) ≤ wrapI IntKind.i64 ((↑n : Int).tdiv (8 : Int))) &&
                      decide (wrapI IntKind.i64 ((↑n : Int).tdiv (8 : Int)) < (25 : Int)) &&
                    (decide
                        ((0 : Nat) + (wrapI IntKind.i64 ((↑n : Int).tdiv (8 : Int))).toNat * (1 : Nat) +
                            [V.u64
                                  (xs.getD
                                      ((0 : Nat) + (wrapI IntKind.i64 ((↑n : Int).tdiv (8 : Int))).toNat * (1 : Nat))
                                      (0 : BitVec (64 : Nat)) ^^^
                                    BitVec.setWidth (64 : Nat)
                                        (bs.getD (o + (↑n : Int).toNat * (1 : Nat)) (0 : BitVec (8 : Nat))) <<<
                                      (wrapI IntKind.i64 ((↑n : Int).tmod (8 : Int) * (8 : Int))).toNat)].length ≤
                          xs.length) &&
                      true)))))) &&
        true),
    X.normal,
    [((3 : Nat), V.sl (0 : Nat) o (1 : Nat) len none), ((4 : Nat), V.ptr (1 : Nat) (0 : Nat)),
      ((32 : Nat), V.int IntKind.i64 (wrapI IntKind.i64 ((↑n : Int) + (1 : Int))))],
    [Blk.b8 bs,
      Blk.b64
        (xs.set ((0 : Nat) + (wrapI IntKind.i64 ((↑n : Int).tdiv (8 : Int))).toNat * (1 : Nat))
          (xs.getD ((0 : Nat) + (wrapI IntKind.i64 ((↑n : Int).tdiv (8 : Int))).toNat * (1 : Nat))
              (0 : BitVec (64 : Nat)) ^^^
            BitVec.setWidth (64 : Nat) (bs.getD (o + (↑n : Int).toNat * (1 : Nat)) (0 : BitVec (8 : Nat))) <<<
              (wrapI IntKind.i64 ((↑n : Int).tmod (8 : Int) * (8 : Int))).toNat))]) := by kernel_rfl
theorem inner_off (o : Nat) (len : Nat) (n : Nat) (bs : List (BitVec 8)) (xs : List (BitVec 64)) :
  execT Pr O11 noLoops [((33 : Nat), false)] (100 : Nat) (0 : Nat) [(0 : Nat), (1 : Nat)] [(3 : Nat), (4 : Nat)]
  (loopBody Go.Proofs.Try.f9 (1 : Nat))
  [((3 : Nat), V.sl (0 : Nat) o (1 : Nat) len none), ((4 : Nat), V.ptr (1 : Nat) (0 : Nat)),
    ((32 : Nat), V.int IntKind.i64 (↑n : Int))]
  [Blk.b8 bs, Blk.b64 xs] =
  some
  ((if false = true then decide ((↑n : Int) < (136 : Int)) else !decide ((↑n : Int) < (136 : Int))) && true,
    X.exit (2 : Nat), [((3 : Nat), V.sl (0 : Nat) o (1 : Nat) len none), ((4 : Nat), V.ptr (1 : Nat) (0 : Nat))],
    [Blk.b8 bs, Blk.b64 xs]) := by kernel_rfl
/-- a byte goes into the lanes -/
def putB (xs : List (BitVec 64)) (n : Nat) (b : BitVec 8) : List (BitVec 64) :=
  xs.set (n / 8) (xs.getD (n / 8) 0 ^^^ b.setWidth 64 <<< (n % 8 * 8))
def absN (o : Nat) (bs : List (BitVec 8)) : Nat → List (BitVec 64) → List (BitVec 64)
  | 0, xs => xs
  | n + 1, xs => putB (absN o bs n xs) n (bs.getD (o + n) 0)
theorem absN_length (o : Nat) (bs : List (BitVec 8)) (xs : List (BitVec 64)) : ∀ n, (absN o bs n xs).length = xs.length
  | 0 => rfl
  | n + 1 => by simp [absN, putB, absN_length o bs xs n]
theorem inner_step (o len n : Nat) (bs : List (BitVec 8)) (xs : List (BitVec 64)) (hn : n < 136) (h1 : 136 ≤ len) (h2 : o + 136 ≤ bs.length) (h3 : xs.length = 25) :
    execT Pr O11 noLoops [(33,true)] 100 0 [0,1] [3,4,32] (loopBody Go.Proofs.Try.f9 1) [(3,.sl 0 o 1 len none),(4,.ptr 1 0),(32,.int .i64 n)] [.b8 bs, .b64 xs] =
      some (true, .normal, [(3,.sl 0 o 1 len none),(4,.ptr 1 0),(32,.int .i64 ((n + 1 : Nat) : Int))], [.b8 bs, .b64 (putB xs n (bs.getD (o + n) 0))]) := by
  rw [inner_on]
  have e1 : wrapI .i64 ((n : Int).tdiv (8 : Int)) = ((n / 8 : Nat) : Int) := by rw [tdiv_lit]; exact wrapI_nat (by omega)
  have e2 : wrapI .i64 ((n : Int).tmod (8 : Int) * (8 : Int)) = ((n % 8 * 8 : Nat) : Int) := by rw [tmod_lit, mul_lit]; exact wrapI_nat (by omega)
  have e3 : wrapI .i64 ((n : Int) + (1 : Int)) = ((n + 1 : Nat) : Int) := by rw [add_lit]; exact wrapI_nat (by omega)
  simp only [e1, e2, e3, Int.toNat_natCast, Nat.mul_one, Nat.zero_add, putB]
  simp [h3]
  omega
def sumS (o len : Nat) (bs : List (BitVec 8)) (xs : List (BitVec 64)) (n : Nat) : Fr × Heap :=
  ([(3,.sl 0 o 1 len none),(4,.ptr 1 0),(32,.int .i64 n)], [.b8 bs, .b64 (absN o bs n xs)])
def L8 : Loops := fun n fr h => if Nat.beq n 8 then (match tell 0 (rootsOf fr [3, 4]) [3, 4, 32] fr h with
  | some ([(3, .sl 0 o 1 len none), (4, .ptr 1 0), (32, .int .i64 0)], [.b8 bs, .b64 xs]) =>
    some (decide (136 ≤ len) && decide (o + 136 ≤ bs.length) && decide (xs.length = 25), .exit 2, [(3, .sl 0 o 1 len none), (4, .ptr 1 0)], [.b8 bs, .b64 (absN o bs 136 xs)])
  | _ => none) else none
theorem L8_ok : LoopOk Pr 70 0 L8 (loopBody Go.Proofs.Try.f9 1) := by
  intro fr h x fr' h' hL
  unfold L8 at hL
  split at hL <;> try simp only [reduceCtorEq] at hL
  split at hL <;> try simp only [reduceCtorEq] at hL
  rename_i o len bs xs ht
  simp only [Option.some.injEq, Prod.mk.injEq, Bool.and_eq_true, decide_eq_true_eq] at hL
  obtain ⟨⟨⟨h1, h2⟩, h3⟩, rfl, rfl, rfl⟩ := hL
  refine Runs.weaken (tell_weaker ht) ?_
  refine Runs.count (sumS o len bs xs) 136 (by simp) ?_ ?_
  · intro n hn
    exact execT_sound O11_sound mixed (fun _ _ => LoopOk.none) (by kernel_rfl) (by simp) (inner_step o len n bs (absN o bs n xs) hn h1 h2 (by rw [absN_length, h3]))
  · refine execT_sound O11_sound mixed (fun _ _ => LoopOk.none) (by kernel_rfl) (by simp) ((inner_off o len 136 bs (absN o bs 136 xs)).trans ?_)
    simp
/-- the lanes, one by one -/
def each (n : Nat) (xs : List (BitVec 64)) : List (BitVec 64) := (upto n).map fun k => xs.getD k 0
def setN (xs ys : List (BitVec 64)) : Nat → List (BitVec 64)
  | 0 => xs
  | n + 1 => (setN xs ys n).set n (ys.getD n 0)
theorem outer_on (o len : Nat) (bs : List (BitVec 8)) (xs : List (BitVec 64)) :
  execT Pr O11 L8 [(29,true)] 100 0 [0,1] [3,4] (loopBody Go.Proofs.Try.f9 0) [(3,.sl 0 o 1 len none),(4,.ptr 1 0)] [.b8 bs, .b64 xs] =
  some
  (decide ((len : Int) > 0) && true &&
      (decide ((136 : Nat) ≤ len) && decide (o + (136 : Nat) ≤ bs.length) && decide (xs.length = (25 : Nat)) &&
          (decide ((25 : Nat) ≤ (absN o bs (136 : Nat) xs).length) && (true && (decide (25 ≤ (absN o bs (136 : Nat) xs).length) && true))) &&
        (decide ((136 : Int) ≤ (len : Int)) && decide ((len : Int) ≤ (len : Int)) && true)),
    X.normal,
    [(3, V.sl 0 (o + (136 : Int).toNat * 1) 1 ((len : Int) - (136 : Int)).toNat none), (4, V.ptr 1 0)],
    [Blk.b8 bs, Blk.b64 (setN (absN o bs 136 xs) (permL (each 25 (absN o bs 136 xs))) 25)]) := by kernel_rfl
theorem each25 (xs : List (BitVec 64)) (h : xs.length = 25) : each 25 xs = xs := by
  obtain ⟨x0, x1, x2, x3, x4, x5, x6, x7, x8, x9, x10, x11, x12, x13, x14, x15, x16, x17, x18, x19, x20, x21, x22, x23, x24, rfl⟩ := list25 xs h
  rfl
theorem setN_get (xs ys : List (BitVec 64)) : ∀ n, n ≤ xs.length → (setN xs ys n).length = xs.length ∧ ∀ k, k < xs.length → (setN xs ys n)[k]? = if k < n then some (ys.getD k 0) else xs[k]?
  | 0, _ => ⟨rfl, fun k _ => by simp [setN]⟩
  | n + 1, h => by
    obtain ⟨h1, h2⟩ := setN_get xs ys n (by omega)
    refine ⟨by simp [setN, h1], fun k hk => ?_⟩
    simp only [setN]
    by_cases e : k = n
    · subst e
      rw [List.getElem?_set_self (by omega), if_pos (by omega)]
    · rw [List.getElem?_set_ne (Ne.symm e), h2 k hk]
      by_cases h3 : k < n
      · rw [if_pos h3, if_pos (by omega)]
      · rw [if_neg h3, if_neg (by omega)]
theorem setN25 (xs ys : List (BitVec 64)) (h : xs.length = 25) (hy : ys.length = 25) : setN xs ys 25 = ys := by
  obtain ⟨h1, h2⟩ := setN_get xs ys 25 (by omega)
  apply List.ext_getElem?
  intro k
  rcases Nat.lt_or_ge k 25 with hk | hk
  · rw [h2 k (by omega), if_pos hk]
    simp [List.getD_eq_getElem?_getD, List.getElem?_eq_getElem (show k < ys.length by omega)]
  · rw [List.getElem?_eq_none (by omega), List.getElem?_eq_none (by omega)]
theorem permL_length (xs : List (BitVec 64)) : (permL xs).length = 25 := roundL_length _ _
/-- one block is taken in -/
def takeIn (o : Nat) (bs : List (BitVec 8)) (xs : List (BitVec 64)) : List (BitVec 64) := permL (absN o bs 136 xs)
theorem outer_step (o len : Nat) (bs : List (BitVec 8)) (xs : List (BitVec 64)) (h1 : 136 ≤ len) (h2 : o + 136 ≤ bs.length) (h3 : xs.length = 25) :
  execT Pr O11 L8 [(29,true)] 100 0 [0,1] [3,4] (loopBody Go.Proofs.Try.f9 0) [(3,.sl 0 o 1 len none),(4,.ptr 1 0)] [.b8 bs, .b64 xs] =
  some (true, .normal, [(3, .sl 0 (o + 136) 1 (len - 136) none), (4, .ptr 1 0)], [.b8 bs, .b64 (takeIn o bs xs)]) := by
  rw [outer_on]
  have hl : (absN o bs 136 xs).length = 25 := by rw [absN_length, h3]
  rw [each25 _ hl, setN25 _ _ hl (permL_length _), hl]
  have e1 : ((len : Int) - (136 : Int)).toNat = len - 136 := by omega
  have e2 : o + (136 : Int).toNat * 1 = o + 136 := by simp
  rw [e1, e2]
  simp [h1, h2, h3, takeIn]
  omega
theorem outer_off (o : Nat) (len : Nat) (bs : List (BitVec 8)) (xs : List (BitVec 64)) :
  execT Pr O11 noLoops [((29 : Nat), false)] (100 : Nat) (0 : Nat) [(1 : Nat)] [(4 : Nat)]
  (loopBody Go.Proofs.Try.f9 (0 : Nat))
  [((3 : Nat), V.sl (0 : Nat) o (1 : Nat) len none), ((4 : Nat), V.ptr (1 : Nat) (0 : Nat))] [Blk.b8 bs, Blk.b64 xs] =
  some
  ((if false = true then decide ((↑len : Int) > (0 : Int)) else !decide ((↑len : Int) > (0 : Int))) && true,
    X.exit (0 : Nat), [((4 : Nat), V.ptr (0 : Nat) (0 : Nat))], [Blk.b64 xs]) := by kernel_rfl
/-- all the blocks -/
def takeAll (bs : List (BitVec 8)) (o : Nat) : Nat → List (BitVec 64) → List (BitVec 64)
  | 0, xs => xs
  | n + 1, xs => takeIn (o + 136 * n) bs (takeAll bs o n xs)
theorem takeAll_length (bs : List (BitVec 8)) (o : Nat) (xs : List (BitVec 64)) (h : xs.length = 25) : ∀ n, (takeAll bs o n xs).length = 25
  | 0 => h
  | n + 1 => permL_length _
def outS (m : Nat) (bs : List (BitVec 8)) (xs : List (BitVec 64)) (n : Nat) : Fr × Heap :=
  ([(3, .sl 0 (136 * n) 1 (136 * (m - n)) none), (4, .ptr 1 0)], [.b8 bs, .b64 (takeAll bs 0 n xs)])
def L5 : Loops := fun n fr h => if Nat.beq n 5 then (match tell 0 (rootsOf fr [3, 4]) [3, 4] fr h with
  | some ([(3, .sl 0 0 1 len none), (4, .ptr 1 0)], [.b8 bs, .b64 xs]) =>
    some (decide (len % 136 = 0) && decide (bs.length = len) && decide (xs.length = 25), .exit 0, [(4, .ptr 0 0)], [.b64 (takeAll bs 0 (len / 136) xs)])
  | _ => none) else none
theorem L5_ok : LoopOk Pr 70 0 L5 (loopBody Go.Proofs.Try.f9 0) := by
  intro fr h x fr' h' hL
  unfold L5 at hL
  split at hL <;> try simp only [reduceCtorEq] at hL
  split at hL <;> try simp only [reduceCtorEq] at hL
  rename_i len bs xs ht
  simp only [Option.some.injEq, Prod.mk.injEq, Bool.and_eq_true, decide_eq_true_eq] at hL
  obtain ⟨⟨⟨h1, h2⟩, h3⟩, rfl, rfl, rfl⟩ := hL
  refine Runs.weaken (tell_weaker ht) ?_
  generalize hm : len / 136 = m
  obtain rfl : len = 136 * m := by omega
  have hin : ∀ d, d ∈ loopsOf (loopBody Go.Proofs.Try.f9 0) → LoopOk Pr 70 0 L8 d := by
    have e : loopsOf (loopBody Go.Proofs.Try.f9 0) = [loopBody Go.Proofs.Try.f9 1] := by kernel_rfl
    rw [e]; intro d hd; cases List.mem_singleton.1 hd; exact L8_ok
  refine Runs.count (outS m bs xs) m (by simp) ?_ ?_
  · intro n hn
    have := outer_step (136 * n) (136 * (m - n)) bs (takeAll bs 0 n xs) (by omega) (by omega) (takeAll_length bs 0 xs h3 n)
    rw [show 136 * n + 136 = 136 * (n + 1) from by omega, show 136 * (m - n) - 136 = 136 * (m - (n + 1)) from by omega] at this
    have e : takeAll bs 0 (n + 1) xs = takeIn (136 * n) bs (takeAll bs 0 n xs) := by simp [takeAll]
    unfold outS
    rw [e]
    exact execT_sound O11_sound mixed hin (by kernel_rfl) (by simp) this
  · refine execT_sound O11_sound mixed (fun _ _ => LoopOk.none) (by kernel_rfl) (by simp) ((outer_off (136 * m) (136 * (m - m)) bs (takeAll bs 0 m xs)).trans ?_)
    simp

theorem out_on (n : Nat) (xs : List (BitVec 64)) (ys : List (BitVec 8)) :
  execT Pr O11 noLoops [((54 : Nat), true)] (100 : Nat) (0 : Nat) [(0 : Nat), (1 : Nat)]
  [(4 : Nat), (6 : Nat), (53 : Nat)] (loopBody Go.Proofs.Try.f9 (2 : Nat))
  [((4 : Nat), V.ptr (0 : Nat) (0 : Nat)), ((6 : Nat), V.ptr (1 : Nat) (0 : Nat)),
    ((53 : Nat), V.int IntKind.i64 (↑n : Int))]
  [Blk.b64 xs, Blk.b8 ys] =
  some
  ((if true = true then decide ((↑n : Int) < (32 : Int)) else !decide ((↑n : Int) < (32 : Int))) && true &&
      (decide ((0 : Int) ≤ wrapI IntKind.i64 ((↑n : Int).tdiv (8 : Int))) &&
            decide (wrapI IntKind.i64 ((↑n : Int).tdiv (8 : Int)) < (25 : Int)) &&
          (decide ((0 : Nat) + (wrapI IntKind.i64 ((↑n : Int).tdiv (8 : Int))).toNat * (1 : Nat) < xs.length) &&
            (decide ((0 : Int) ≤ wrapI IntKind.i64 ((↑n : Int).tmod (8 : Int) * (8 : Int))) &&
              (decide ((0 : Int) ≤ (↑n : Int)) && decide ((↑n : Int) < (32 : Int)) &&
                (decide
                    ((0 : Nat) + (↑n : Int).toNat * (1 : Nat) +
                        [V.u8
                              (BitVec.setWidth (8 : Nat)
                                (xs.getD ((0 : Nat) + (wrapI IntKind.i64 ((↑n : Int).tdiv (8 : Int))).toNat * (1 : Nat))
                                    (0 : BitVec (64 : Nat)) >>>
                                  (wrapI IntKind.i64 ((↑n : Int).tmod (8 : Int) * (8 : Int))).toNat))].length ≤
                      ys.length) &&
                  true)))) &&
        true),
    X.normal,
    [((4 : Nat), V.ptr (0 : Nat) (0 : Nat)), ((6 : Nat), V.ptr (1 : Nat) (0 : Nat)),
      ((53 : Nat), V.int IntKind.i64 (wrapI IntKind.i64 ((↑n : Int) + (1 : Int))))],
    [Blk.b64 xs,
      Blk.b8
        (ys.set ((0 : Nat) + (↑n : Int).toNat * (1 : Nat))
          (BitVec.setWidth (8 : Nat)
            (xs.getD ((0 : Nat) + (wrapI IntKind.i64 ((↑n : Int).tdiv (8 : Int))).toNat * (1 : Nat))
                (0 : BitVec (64 : Nat)) >>>
              (wrapI IntKind.i64 ((↑n : Int).tmod (8 : Int) * (8 : Int))).toNat)))]) := by kernel_rfl
theorem out_off (n : Nat) (xs : List (BitVec 64)) (ys : List (BitVec 8)) :
  execT Pr O11 noLoops [((54 : Nat), false)] (100 : Nat) (0 : Nat) [(1 : Nat)] [(6 : Nat)]
  (loopBody Go.Proofs.Try.f9 (2 : Nat))
  [((4 : Nat), V.ptr (0 : Nat) (0 : Nat)), ((6 : Nat), V.ptr (1 : Nat) (0 : Nat)),
    ((53 : Nat), V.int IntKind.i64 (↑n : Int))]
  [Blk.b64 xs, Blk.b8 ys] =
  some
  ((if false = true then decide ((↑n : Int) < (32 : Int)) else !decide ((↑n : Int) < (32 : Int))) && true,
    X.exit (4 : Nat), [((6 : Nat), V.ptr (0 : Nat) (0 : Nat))], [Blk.b8 ys]) := by kernel_rfl
/-- the n-th byte of the lanes -/
def byteOf (xs : List (BitVec 64)) (n : Nat) : BitVec 8 := (xs.getD (n / 8) 0 >>> (n % 8 * 8)).setWidth 8
def outN (xs : List (BitVec 64)) (ys : List (BitVec 8)) : Nat → List (BitVec 8)
  | 0 => ys
  | n + 1 => (outN xs ys n).set n (byteOf xs n)
theorem outN_length (xs : List (BitVec 64)) (ys : List (BitVec 8)) : ∀ n, (outN xs ys n).length = ys.length
  | 0 => rfl
  | n + 1 => by simp [outN, outN_length xs ys n]
theorem out_step (n : Nat) (xs : List (BitVec 64)) (ys : List (BitVec 8)) (hn : n < 32) (hx : xs.length = 25) (hy : ys.length = 32) :
    execT Pr O11 noLoops [(54,true)] 100 0 [0,1] [4,6,53] (loopBody Go.Proofs.Try.f9 2) [(4,.ptr 0 0),(6,.ptr 1 0),(53,.int .i64 n)] [.b64 xs, .b8 ys] =
      some (true, .normal, [(4,.ptr 0 0),(6,.ptr 1 0),(53,.int .i64 ((n + 1 : Nat) : Int))], [.b64 xs, .b8 (ys.set n (byteOf xs n))]) := by
  rw [out_on]
  have e1 : wrapI .i64 ((n : Int).tdiv (8 : Int)) = ((n / 8 : Nat) : Int) := by rw [tdiv_lit]; exact wrapI_nat (by omega)
  have e2 : wrapI .i64 ((n : Int).tmod (8 : Int) * (8 : Int)) = ((n % 8 * 8 : Nat) : Int) := by rw [tmod_lit, mul_lit]; exact wrapI_nat (by omega)
  have e3 : wrapI .i64 ((n : Int) + (1 : Int)) = ((n + 1 : Nat) : Int) := by rw [add_lit]; exact wrapI_nat (by omega)
  simp only [e1, e2, e3, Int.toNat_natCast, Nat.mul_one, Nat.zero_add, byteOf]
  simp [hx, hy]
  omega
def outSt (xs : List (BitVec 64)) (ys : List (BitVec 8)) (n : Nat) : Fr × Heap :=
  ([(4,.ptr 0 0),(6,.ptr 1 0),(53,.int .i64 n)], [.b64 xs, .b8 (outN xs ys n)])
def L9 : Loops := fun n fr h => if Nat.beq n 15 then (match tell 0 (rootsOf fr [4, 6]) [4, 6, 53] fr h with
  | some ([(4, .ptr 0 0), (6, .ptr 1 0), (53, .int .i64 0)], [.b64 xs, .b8 ys]) =>
    some (decide (xs.length = 25) && decide (ys.length = 32), .exit 4, [(6, .ptr 0 0)], [.b8 (outN xs ys 32)])
  | _ => none) else L5 n fr h
theorem L9_ok2 : LoopOk Pr 70 0 L9 (loopBody Go.Proofs.Try.f9 2) := by
  intro fr h x fr' h' hL
  have e : headNo (loopBody Go.Proofs.Try.f9 2) = 15 := by kernel_rfl
  rw [e] at hL
  unfold L9 at hL
  rw [if_pos (by rfl)] at hL
  split at hL <;> try simp only [reduceCtorEq] at hL
  rename_i xs ys ht
  simp only [Option.some.injEq, Prod.mk.injEq, Bool.and_eq_true, decide_eq_true_eq] at hL
  obtain ⟨⟨h1, h2⟩, rfl, rfl, rfl⟩ := hL
  refine Runs.weaken (tell_weaker ht) ?_
  refine Runs.count (outSt xs ys) 32 (by simp) ?_ ?_
  · intro n hn
    exact execT_sound O11_sound mixed (fun _ _ => LoopOk.none) (by kernel_rfl) (by simp) (out_step n xs (outN xs ys n) hn h1 (by rw [outN_length, h2]))
  · refine execT_sound O11_sound mixed (fun _ _ => LoopOk.none) (by kernel_rfl) (by simp) ((out_off 32 xs (outN xs ys 32)).trans ?_)
    simp
theorem L9_ok0 : LoopOk Pr 70 0 L9 (loopBody Go.Proofs.Try.f9 0) := by
  intro fr h x fr' h' hL
  refine L5_ok fr h x fr' h' ?_
  have e : headNo (loopBody Go.Proofs.Try.f9 0) = 5 := by kernel_rfl
  rw [e] at hL ⊢
  exact hL
/-- the text, filled up to whole blocks -/
def padM (s : List (BitVec 8)) : Nat := ((wrapI IntKind.i64 ((136 : Int) - (↑(s.length + (1 : Nat)) : Int).tmod (136 : Int))).tmod (136 : Int)).toNat
def padB1 (s : List (BitVec 8)) : List (BitVec 8) := List.take (s.length * (1 : Nat)) (List.drop (0 : Nat) s) ++ List.take (1 : Nat) (List.drop (0 : Nat) [BitVec.ofInt (8 : Nat) (1 : Int)])
def padB2 (s : List (BitVec 8)) : List (BitVec 8) := List.take ((s.length + (1 : Nat)) * (1 : Nat)) (List.drop (0 : Nat) (padB1 s)) ++ List.replicate (padM s) (BitVec.ofInt (8 : Nat) (0 : Int))
def padAt (s : List (BitVec 8)) : Nat := (wrapI IntKind.i64 ((↑(s.length + (1 : Nat) + padM s) : Int) - (1 : Int))).toNat * (1 : Nat)
def padB3 (s : List (BitVec 8)) : List (BitVec 8) := (padB2 s).set ((0 : Nat) + padAt s) ((padB2 s).getD ((0 : Nat) + padAt s) (0 : BitVec (8 : Nat)) ^^^ BitVec.ofInt (8 : Nat) (128 : Int))
def z25 (s : List (BitVec 8)) : List (BitVec 64) := [BitVec.ofInt (64 : Nat) (0 : Int), BitVec.ofInt (64 : Nat) (0 : Int), BitVec.ofInt (64 : Nat) (0 : Int), BitVec.ofInt (64 : Nat) (0 : Int), BitVec.ofInt (64 : Nat) (0 : Int), BitVec.ofInt (64 : Nat) (0 : Int), BitVec.ofInt (64 : Nat) (0 : Int), BitVec.ofInt (64 : Nat) (0 : Int), BitVec.ofInt (64 : Nat) (0 : Int), BitVec.ofInt (64 : Nat) (0 : Int), BitVec.ofInt (64 : Nat) (0 : Int), BitVec.ofInt (64 : Nat) (0 : Int), BitVec.ofInt (64 : Nat) (0 : Int), BitVec.ofInt (64 : Nat) (0 : Int), BitVec.ofInt (64 : Nat) (0 : Int), BitVec.ofInt (64 : Nat) (0 : Int), BitVec.ofInt (64 : Nat) (0 : Int), BitVec.ofInt (64 : Nat) (0 : Int), BitVec.ofInt (64 : Nat) (0 : Int), BitVec.ofInt (64 : Nat) (0 : Int), BitVec.ofInt (64 : Nat) (0 : Int), BitVec.ofInt (64 : Nat) (0 : Int), BitVec.ofInt (64 : Nat) (0 : Int), BitVec.ofInt (64 : Nat) (0 : Int), BitVec.ofInt (64 : Nat) (0 : Int)]
def z32 (s : List (BitVec 8)) : List (BitVec 8) := [BitVec.ofInt (8 : Nat) (0 : Int), BitVec.ofInt (8 : Nat) (0 : Int), BitVec.ofInt (8 : Nat) (0 : Int), BitVec.ofInt (8 : Nat) (0 : Int), BitVec.ofInt (8 : Nat) (0 : Int), BitVec.ofInt (8 : Nat) (0 : Int), BitVec.ofInt (8 : Nat) (0 : Int), BitVec.ofInt (8 : Nat) (0 : Int), BitVec.ofInt (8 : Nat) (0 : Int), BitVec.ofInt (8 : Nat) (0 : Int), BitVec.ofInt (8 : Nat) (0 : Int), BitVec.ofInt (8 : Nat) (0 : Int), BitVec.ofInt (8 : Nat) (0 : Int), BitVec.ofInt (8 : Nat) (0 : Int), BitVec.ofInt (8 : Nat) (0 : Int), BitVec.ofInt (8 : Nat) (0 : Int), BitVec.ofInt (8 : Nat) (0 : Int), BitVec.ofInt (8 : Nat) (0 : Int), BitVec.ofInt (8 : Nat) (0 : Int), BitVec.ofInt (8 : Nat) (0 : Int), BitVec.ofInt (8 : Nat) (0 : Int), BitVec.ofInt (8 : Nat) (0 : Int), BitVec.ofInt (8 : Nat) (0 : Int), BitVec.ofInt (8 : Nat) (0 : Int), BitVec.ofInt (8 : Nat) (0 : Int), BitVec.ofInt (8 : Nat) (0 : Int), BitVec.ofInt (8 : Nat) (0 : Int), BitVec.ofInt (8 : Nat) (0 : Int), BitVec.ofInt (8 : Nat) (0 : Int), BitVec.ofInt (8 : Nat) (0 : Int), BitVec.ofInt (8 : Nat) (0 : Int), BitVec.ofInt (8 : Nat) (0 : Int)]
def sumA (s : List (BitVec 8)) : List (BitVec 64) := takeAll (padB3 s) (0 : Nat) ((s.length + (1 : Nat) + padM s) / (136 : Nat)) (z25 s)
def sumO (s : List (BitVec 8)) : List (BitVec 8) := outN (sumA s) (z32 s) (32 : Nat)
theorem sum_end (s : List (BitVec 8)) :
  execF Pr O11 L9 (100 : Nat) Go.Proofs.Try.f9 [V.str s] [] =
  some
  (decide ((0 : Nat) + s.length * (1 : Nat) ≤ s.length) &&
              (decide (s.length + (1 : Nat) ≤ (70368744177664 : Nat)) &&
                  decide (((2 : Nat) * (s.length + (1 : Nat)) + (1024 : Nat)) * (1 : Nat) ≤ (281474976710656 : Nat)) &&
                true) &&
            true &&
          true &&
        (decide
                      ((0 : Int) ≤
                        (wrapI IntKind.i64 ((136 : Int) - (↑(s.length + (1 : Nat)) : Int).tmod (136 : Int))).tmod
                          (136 : Int)) &&
                    decide
                      ((wrapI IntKind.i64 ((136 : Int) - (↑(s.length + (1 : Nat)) : Int).tmod (136 : Int))).tmod
                          (136 : Int) ≤
                        (70368744177664 : Int)) &&
                  decide (padM s * (1 : Nat) ≤ (281474976710656 : Nat)) &&
                decide ((List.replicate (padM s) (BitVec.ofInt (8 : Nat) (0 : Int))).length = padM s * (1 : Nat)) &&
              (decide ((0 : Nat) + (s.length + (1 : Nat)) * (1 : Nat) ≤ (padB1 s).length) &&
                  (decide (s.length + (1 : Nat) + padM s ≤ (70368744177664 : Nat)) &&
                      decide
                        (((2 : Nat) * (s.length + (1 : Nat) + padM s) + (1024 : Nat)) * (1 : Nat) ≤
                          (281474976710656 : Nat)) &&
                    true) &&
                true) &&
            true &&
          (decide ((0 : Int) ≤ wrapI IntKind.i64 ((↑(s.length + (1 : Nat) + padM s) : Int) - (1 : Int))) &&
                decide
                  (wrapI IntKind.i64 ((↑(s.length + (1 : Nat) + padM s) : Int) - (1 : Int)) <
                    (↑(s.length + (1 : Nat) + padM s) : Int)) &&
              (decide ((0 : Nat) + padAt s < (padB2 s).length) &&
                (decide ((0 : Int) ≤ wrapI IntKind.i64 ((↑(s.length + (1 : Nat) + padM s) : Int) - (1 : Int))) &&
                    decide
                      (wrapI IntKind.i64 ((↑(s.length + (1 : Nat) + padM s) : Int) - (1 : Int)) <
                        (↑(s.length + (1 : Nat) + padM s) : Int)) &&
                  (decide
                      ((0 : Nat) + padAt s +
                          [V.u8
                                ((padB2 s).getD ((0 : Nat) + padAt s) (0 : BitVec (8 : Nat)) ^^^
                                  BitVec.ofInt (8 : Nat) (128 : Int))].length ≤
                        (padB2 s).length) &&
                    true))) &&
            (decide ((s.length + (1 : Nat) + padM s) % (136 : Nat) = (0 : Nat)) &&
                  decide ((padB3 s).length = s.length + (1 : Nat) + padM s) &&
                true &&
              (decide ((sumA s).length = (25 : Nat)) && true &&
                (decide ((32 : Nat) ≤ (sumO s).length) && (decide ((32 : Nat) ≤ (sumO s).length) && true) &&
                  true))))) &&
      true,
    Fin.ret (V.str (List.take (32 : Nat) (List.drop (0 : Nat) (sumO s)))), []) := by kernel_rfl
theorem padM_eq (s : List (BitVec 8)) (h : s.length ≤ 1000000000000) : padM s = (136 - (s.length + 1) % 136) % 136 ∧ (wrapI IntKind.i64 ((136 : Int) - (↑(s.length + (1 : Nat)) : Int).tmod (136 : Int))).tmod (136 : Int) = (padM s : Int) := by
  have e1 : (136 : Int) - (↑(s.length + (1 : Nat)) : Int).tmod (136 : Int) = ((136 - (s.length + 1) % 136 : Nat) : Int) := by
    rw [tmod_lit]
    have := Nat.mod_lt (s.length + 1) (show 0 < 136 by omega)
    omega
  have e2 : (wrapI IntKind.i64 ((136 : Int) - (↑(s.length + (1 : Nat)) : Int).tmod (136 : Int))).tmod (136 : Int) = (((136 - (s.length + 1) % 136) % 136 : Nat) : Int) := by
    rw [e1, wrapI_nat (by omega), tmod_lit]
  unfold padM
  rw [e2]
  exact ⟨rfl, rfl⟩
theorem padB1_length (s : List (BitVec 8)) : (padB1 s).length = s.length + 1 := by simp [padB1]
theorem padB2_length (s : List (BitVec 8)) : (padB2 s).length = s.length + 1 + padM s := by simp [padB2, padB1_length]
theorem padB3_length (s : List (BitVec 8)) : (padB3 s).length = s.length + 1 + padM s := by simp [padB3, padB2_length]
theorem sum_exec (s : List (BitVec 8)) (h : s.length ≤ 1000000000000) : execF Pr O11 L9 100 Go.Proofs.Try.f9 [.str s] [] = some (true, .ret (.str (sumO s)), []) := by
  rw [sum_end]
  obtain ⟨e1, e2⟩ := padM_eq s h
  have e3 : wrapI IntKind.i64 ((↑(s.length + (1 : Nat) + padM s) : Int) - (1 : Int)) = ((s.length + padM s : Nat) : Int) := by
    rw [show ((↑(s.length + (1 : Nat) + padM s) : Int) - (1 : Int)) = ((s.length + padM s : Nat) : Int) by omega]
    exact wrapI_nat (by omega)
  have e4 : padAt s = s.length + padM s := by unfold padAt; rw [e3, Int.toNat_natCast, Nat.mul_one]
  have l1 : (sumA s).length = 25 := takeAll_length _ _ _ rfl _
  have l2 : (sumO s).length = 32 := by unfold sumO; rw [outN_length]; rfl
  have e5 : (s.length + 1 + padM s) % 136 = 0 := by rw [e1]; omega
  rw [e2, e3, e4]
  simp [padB1_length, padB2_length, padB3_length, l1, l2, e5]
  refine ⟨?_, ?_⟩
  · omega
  · exact List.take_of_length_le (by omega)
def sumG (args : List V) (h : Heap) : Option (Bool × Fin × Heap) :=
  match args, h with
  | [.str s], [] => some (decide (s.length ≤ 1000000000000), .ret (.str (sumO s)), [])
  | _, _ => none
theorem f9_at : Pr.funcs[9]? = some Go.Proofs.Try.f9 := by kernel_rfl
theorem body9 : Go.Proofs.Try.f9.body = some (Go.Proofs.Try.f9.body.getD .skip) := by kernel_rfl
theorem loops9 : loopsOf (Go.Proofs.Try.f9.body.getD .skip) = [loopBody Go.Proofs.Try.f9 0, loopBody Go.Proofs.Try.f9 1, loopBody Go.Proofs.Try.f9 2] := by kernel_rfl
theorem L9_ok1 : LoopOk Pr 70 0 L9 (loopBody Go.Proofs.Try.f9 1) := by
  intro fr h x fr' h' hL
  have e : headNo (loopBody Go.Proofs.Try.f9 1) = 8 := by kernel_rfl
  rw [e] at hL
  simp [L9, L5] at hL
theorem ntmps9 : Go.Proofs.Try.f9.ntmps = 70 := by kernel_rfl
theorem sumG_sound : ∀ args h fin h', sumG args h = some (true, fin, h') → LFn Pr 9 args h fin h' := by
  intro args h fin h' hg
  unfold sumG at hg
  split at hg <;> simp only [Option.some.injEq, Prod.mk.injEq, decide_eq_true_eq, reduceCtorEq] at hg
  rename_i s
  obtain ⟨hl, rfl, rfl⟩ := hg
  refine execF_sound O11_sound mixed f9_at (L := L9) (fuel := 100) ?_ (sum_exec s hl)
  intro c hc d hd
  rw [body9] at hc
  cases hc
  rw [loops9] at hd
  rw [ntmps9]
  simp only [List.mem_cons, List.not_mem_nil, or_false] at hd
  rcases hd with rfl | rfl | rfl
  · exact L9_ok0
  · exact L9_ok1
  · exact L9_ok2
def OK : Orc := know O11 9 sumG
theorem OK_sound : OrcSound Pr OK := know_sound O11_sound (enters_of f9_at (by kernel_rfl) (by kernel_rfl)) sumG_sound
end
end Go.Proofs.Ytggblpmijekemaa.K
