/- The functions that this law reaches: what each comes to. -/
import Derived.Test.YtajbaocfdlopbaaProg
import Derived.Test.YtajbaocfdlopbaaLh4
set_option linter.unusedSimpArgs false
set_option linter.unusedVariables false
section
open Go Go.Lh
namespace Go.Proofs.Ytajbaocfdlopbaa.K
noncomputable section
set_option maxRecDepth 100000
abbrev Pr : Program := Go.Proofs.Try.prog
theorem mixed : Pr.follows .mixedOrders = true := by kernel_rfl
def ext : FuncId → List V → Option (Bool × V) := extL [(82, subX), (84, addX), (114, cntX)]
theorem ext_ok : ExtOk Pr ext :=
  extL_cons (subX_at (fn := Go.Proofs.Try.f82) (by kernel_rfl) (by kernel_rfl) (by kernel_rfl) (by kernel_rfl) (by kernel_rfl))
  (extL_cons (addX_at (fn := Go.Proofs.Try.f84) (by kernel_rfl) (by kernel_rfl) (by kernel_rfl) (by kernel_rfl) (by kernel_rfl))
  (extL_cons (cntX_at (fn := Go.Proofs.Try.f114) (by kernel_rfl) (by kernel_rfl) (by kernel_rfl) (by kernel_rfl) (by kernel_rfl)) extL_nil))
end
end Go.Proofs.Ytajbaocfdlopbaa.K
end
section
open Go Go.Lh
namespace Go.Proofs.Ytajbaocfdlopbaa.K
noncomputable section
set_option maxRecDepth 100000
def OW0 : Orc := auto Pr ext [] [81, 107, 83, 106] 4
theorem OW0_sound : OrcSound Pr OW0 := auto_sound mixed ext_ok KOk.nil (by kernel_rfl) 4
theorem add_x (x : W4) (y : W4) :
  execFD Pr OW0 noLoops [] (100 : Nat) Go.Proofs.Try.f40 [x.v, y.v] [] =
  some
  (decide ((outC x.d y.d (BitVec.ofInt (64 : Nat) (0 : Int))).toNat ≤ (1 : Nat)) && true && true &&
                (decide ((outC x.c y.c (outC x.d y.d (BitVec.ofInt (64 : Nat) (0 : Int)))).toNat ≤ (1 : Nat)) && true &&
                    true &&
                  (decide
                          ((outC x.b y.b (outC x.c y.c (outC x.d y.d (BitVec.ofInt (64 : Nat) (0 : Int))))).toNat ≤
                            (1 : Nat)) &&
                        true &&
                      true &&
                    true)) &&
              true &&
            true &&
          true &&
        true &&
      true,
    Fin.ret
      (V.agg
        [V.u64 (sumC x.a y.a (outC x.b y.b (outC x.c y.c (outC x.d y.d (BitVec.ofInt (64 : Nat) (0 : Int)))))),
          V.u64 (sumC x.b y.b (outC x.c y.c (outC x.d y.d (BitVec.ofInt (64 : Nat) (0 : Int))))),
          V.u64 (sumC x.c y.c (outC x.d y.d (BitVec.ofInt (64 : Nat) (0 : Int)))),
          V.u64 (sumC x.d y.d (BitVec.ofInt (64 : Nat) (0 : Int)))]),
    []) := by kernel_rfl
theorem sub_x (x : W4) (y : W4) :
  execFD Pr OW0 noLoops [] (100 : Nat) Go.Proofs.Try.f39 [x.v, y.v] [] =
  some
  (decide ((outB x.d y.d (BitVec.ofInt (64 : Nat) (0 : Int))).toNat ≤ (1 : Nat)) && true && true &&
                (decide ((outB x.c y.c (outB x.d y.d (BitVec.ofInt (64 : Nat) (0 : Int)))).toNat ≤ (1 : Nat)) && true &&
                    true &&
                  (decide
                          ((outB x.b y.b (outB x.c y.c (outB x.d y.d (BitVec.ofInt (64 : Nat) (0 : Int))))).toNat ≤
                            (1 : Nat)) &&
                        true &&
                      true &&
                    true)) &&
              true &&
            true &&
          true &&
        true &&
      true,
    Fin.ret
      (V.agg
        [V.u64 (difB x.a y.a (outB x.b y.b (outB x.c y.c (outB x.d y.d (BitVec.ofInt (64 : Nat) (0 : Int)))))),
          V.u64 (difB x.b y.b (outB x.c y.c (outB x.d y.d (BitVec.ofInt (64 : Nat) (0 : Int))))),
          V.u64 (difB x.c y.c (outB x.d y.d (BitVec.ofInt (64 : Nat) (0 : Int)))),
          V.u64 (difB x.d y.d (BitVec.ofInt (64 : Nat) (0 : Int)))]),
    []) := by kernel_rfl
theorem less_x (x : W4) (y : W4) :
  execFD Pr OW0 noLoops [] (100 : Nat) Go.Proofs.Try.f38 [x.v, y.v] [] =
  some
  (decide ((outB x.d y.d (BitVec.ofInt (64 : Nat) (0 : Int))).toNat ≤ (1 : Nat)) && true && true &&
          (decide ((outB x.c y.c (outB x.d y.d (BitVec.ofInt (64 : Nat) (0 : Int)))).toNat ≤ (1 : Nat)) && true &&
              true &&
            (decide
                    ((outB x.b y.b (outB x.c y.c (outB x.d y.d (BitVec.ofInt (64 : Nat) (0 : Int))))).toNat ≤
                      (1 : Nat)) &&
                  true &&
                true &&
              true)) &&
        true &&
      true,
    Fin.ret
      (V.bool
        (outB x.a y.a (outB x.b y.b (outB x.c y.c (outB x.d y.d (BitVec.ofInt (64 : Nat) (0 : Int))))) ==
          BitVec.ofInt (64 : Nat) (1 : Int))),
    []) := by kernel_rfl
theorem mul64_x (x : BitVec 64) (y : BitVec 64) :
  execFD Pr OW0 noLoops [] (100 : Nat) Go.Proofs.Try.f106 [V.u64 x, V.u64 y] [] =
  some
  (true,
    Fin.ret
      (V.tup
        [V.u64
            (x >>> (32 : Nat) * y >>> (32 : Nat) +
                (x >>> (32 : Nat) * (y &&& BitVec.ofInt (64 : Nat) (4294967295 : Int)) +
                    ((x &&& BitVec.ofInt (64 : Nat) (4294967295 : Int)) *
                        (y &&& BitVec.ofInt (64 : Nat) (4294967295 : Int))) >>>
                      (32 : Nat)) >>>
                  (32 : Nat) +
              ((x >>> (32 : Nat) * (y &&& BitVec.ofInt (64 : Nat) (4294967295 : Int)) +
                      ((x &&& BitVec.ofInt (64 : Nat) (4294967295 : Int)) *
                          (y &&& BitVec.ofInt (64 : Nat) (4294967295 : Int))) >>>
                        (32 : Nat) &&&
                    BitVec.ofInt (64 : Nat) (4294967295 : Int)) +
                  (x &&& BitVec.ofInt (64 : Nat) (4294967295 : Int)) * y >>> (32 : Nat)) >>>
                (32 : Nat)),
          V.u64 (x * y)]),
    []) := by kernel_rfl
theorem c0 : (BitVec.ofInt 64 0).toNat ≤ 1 := by decide
theorem add_fn (x y : W4) : LFn Pr 40 [x.v, y.v] [] (.ret (W4.add x y).v) [] := by
  refine execFD_sound (fn := Go.Proofs.Try.f40) OW0_sound mixed (by kernel_rfl) (fun _ _ _ _ => LoopOk.none) ((add_x x y).trans (stF ?_ ?_ rfl))
  · have l1 := outC_le x.d y.d _ c0
    have l2 := outC_le x.c y.c _ l1
    have l3 := outC_le x.b y.b _ l2
    simp only [decide_eq_true l1, decide_eq_true l2, decide_eq_true l3, Bool.and_true]
  · rw [← W4.addP_eq]; rfl
theorem sub_fn (x y : W4) : LFn Pr 39 [x.v, y.v] [] (.ret (W4.sub x y).v) [] := by
  refine execFD_sound (fn := Go.Proofs.Try.f39) OW0_sound mixed (by kernel_rfl) (fun _ _ _ _ => LoopOk.none) ((sub_x x y).trans (stF ?_ ?_ rfl))
  · have l1 := outB_le x.d y.d _ c0
    have l2 := outB_le x.c y.c _ l1
    have l3 := outB_le x.b y.b _ l2
    simp only [decide_eq_true l1, decide_eq_true l2, decide_eq_true l3, Bool.and_true]
  · rw [← W4.subP_eq]; rfl
theorem less_fn (x y : W4) : LFn Pr 38 [x.v, y.v] [] (.ret (.bool (W4.lt x y))) [] := by
  refine execFD_sound (fn := Go.Proofs.Try.f38) OW0_sound mixed (by kernel_rfl) (fun _ _ _ _ => LoopOk.none) ((less_x x y).trans (stF ?_ ?_ rfl))
  · have l1 := outB_le x.d y.d _ c0
    have l2 := outB_le x.c y.c _ l1
    have l3 := outB_le x.b y.b _ l2
    simp only [decide_eq_true l1, decide_eq_true l2, decide_eq_true l3, Bool.and_true]
  · rw [← W4.ltP_eq]; rfl
theorem mul64_fn (x y : BitVec 64) : LFn Pr 106 [.u64 x, .u64 y] [] (.ret (.tup [.u64 (mulHi x y), .u64 (x * y)])) [] :=
  execFD_sound (fn := Go.Proofs.Try.f106) OW0_sound mixed (by kernel_rfl) (fun _ _ _ _ => LoopOk.none) ((mul64_x x y).trans (stF rfl rfl rfl))
theorem mul64_en : Enters Pr 106 := Enters.of (fn := Go.Proofs.Try.f106) (by kernel_rfl) (by kernel_rfl)
def mul64_g := ctUU (fun x y => .tup [.u64 (mulHi x y), .u64 (x * y)])
def OW1 : Orc := auto Pr ext [(106, mul64_g)] [81, 107] 3
theorem OW1_sound : OrcSound Pr OW1 := auto_sound mixed ext_ok (KOk.cons mul64_en (ctUU_ok mul64_fn) KOk.nil) (by kernel_rfl) 3
theorem mul_x (x y : W4) : execFD Pr OW1 noLoops [] 100 Go.Proofs.Try.f64 [x.v, y.v] [] = some (true, .ret (W4.mulP x y).v, []) := by kernel_rfl
theorem mul_fn (x y : W4) : LFn Pr 64 [x.v, y.v] [] (.ret (W4.mul x y).v) [] := by
  rw [← W4.mulP_eq]
  exact execFD_sound (fn := Go.Proofs.Try.f64) OW1_sound mixed (by kernel_rfl) (fun _ _ _ _ => LoopOk.none) (mul_x x y)
end
end Go.Proofs.Ytajbaocfdlopbaa.K
end
section
open Go Go.Lh
namespace Go.Proofs.Ytajbaocfdlopbaa.K
noncomputable section
set_option maxRecDepth 100000
def iAdd (i : Int) : Nat → Int
  | 0 => i
  | n + 1 => i + ((n + 1 : Nat) : Int)
theorem iAdd_eq (i : Int) (n : Nat) : iAdd i n = i + n := by cases n <;> simp [iAdd]
structure MV where
  ls : List (BitVec 64)
  os : List (BitVec 64)
  xs : List (BitVec 64)
  n : Int
  i : Int
/-- part k, of what is moved left by r -/
def lPart (ls : List (BitVec 64)) (r k : Nat) : BitVec 64 := if 0 < r ∧ 0 < k then ls.getD k 0 <<< r ||| ls.getD (k - 1) 0 >>> (64 - r) else ls.getD k 0 <<< r
def leftN (ls os : List (BitVec 64)) (q r : Nat) : Nat → List (BitVec 64)
  | 0 => os
  | n + 1 => (leftN ls os q r n).set (q + n) (lPart ls r n)
theorem leftN_length (ls os : List (BitVec 64)) (q r : Nat) : ∀ n, (leftN ls os q r n).length = os.length
  | 0 => rfl
  | n + 1 => by simp [leftN, leftN_length ls os q r n]
def rPart (ls : List (BitVec 64)) (q r j : Nat) : BitVec 64 := if 0 < r ∧ j + q + 1 < 4 then ls.getD (j + q) 0 >>> r ||| ls.getD (j + q + 1) 0 <<< (64 - r) else ls.getD (j + q) 0 >>> r
def rightN (ls os : List (BitVec 64)) (q r : Nat) : Nat → List (BitVec 64)
  | 0 => os
  | n + 1 => (rightN ls os q r n).set n (rPart ls q r n)
theorem rightN_length (ls os : List (BitVec 64)) (q r : Nat) : ∀ n, (rightN ls os q r n).length = os.length
  | 0 => rfl
  | n + 1 => by simp [rightN, rightN_length ls os q r n]
theorem getD_set_self (xs : List (BitVec 64)) (i : Nat) (v : BitVec 64) (h : i < xs.length) : (xs.set i v).getD i 0 = v := by
  rw [List.getD_eq_getElem?_getD, List.getElem?_set_self h]; rfl
theorem leftA (ls : List (BitVec 64)) (os : List (BitVec 64)) (xs : List (BitVec 64)) (n : Int) (i : Int) :
  execN Pr (withAsm noOrc [((13 : Nat), true), ((30 : Nat), true), ((33 : Nat), true)]) noLoops [] (100 : Nat) (0 : Nat)
  [(1 : Nat), (4 : Nat), (5 : Nat), (6 : Nat), (7 : Nat)] (loopBody Go.Proofs.Try.f104 (0 : Nat))
  [((1 : Nat), V.int IntKind.i64 n), ((4 : Nat), V.ptr (0 : Nat) (0 : Nat)), ((5 : Nat), V.ptr (1 : Nat) (0 : Nat)),
    ((6 : Nat), V.ptr (2 : Nat) (0 : Nat)), ((7 : Nat), V.int IntKind.i64 i)]
  [Blk.b64 xs, Blk.b64 ls, Blk.b64 os] =
  some
  (decide (i < (4 : Int)) && true && true &&
      (decide ((0 : Int) ≤ wrapI IntKind.i64 (i - wrapI IntKind.i64 (n.tdiv (64 : Int)))) &&
              decide (wrapI IntKind.i64 (i - wrapI IntKind.i64 (n.tdiv (64 : Int))) < (4 : Int)) &&
            (decide
                ((0 : Nat) + (wrapI IntKind.i64 (i - wrapI IntKind.i64 (n.tdiv (64 : Int)))).toNat * (1 : Nat) <
                  ls.length) &&
              (decide ((0 : Int) ≤ n.tmod (64 : Int)) &&
                (decide ((0 : Int) ≤ i) && decide (i < (4 : Int)) &&
                  (decide ((0 : Nat) + i.toNat * (1 : Nat) + (1 : Nat) ≤ os.length) && true)))) &&
          (decide (n.tmod (64 : Int) > (0 : Int)) &&
              (decide (wrapI IntKind.i64 (i - wrapI IntKind.i64 (n.tdiv (64 : Int))) > (0 : Int)) && true) &&
            (decide ((0 : Int) ≤ i) && decide (i < (4 : Int)) &&
              (decide
                  ((0 : Nat) + i.toNat * (1 : Nat) <
                    (os.set ((0 : Nat) + i.toNat * (1 : Nat))
                        (ls.getD
                            ((0 : Nat) +
                              (wrapI IntKind.i64 (i - wrapI IntKind.i64 (n.tdiv (64 : Int)))).toNat * (1 : Nat))
                            (OfNat.ofNat (0 : Nat)) <<<
                          (n.tmod (64 : Int)).toNat)).length) &&
                (decide
                      ((0 : Int) ≤
                        wrapI IntKind.i64
                          (wrapI IntKind.i64 (i - wrapI IntKind.i64 (n.tdiv (64 : Int))) - (1 : Int))) &&
                    decide
                      (wrapI IntKind.i64 (wrapI IntKind.i64 (i - wrapI IntKind.i64 (n.tdiv (64 : Int))) - (1 : Int)) <
                        (4 : Int)) &&
                  (decide
                      ((0 : Nat) +
                          (wrapI IntKind.i64
                                (wrapI IntKind.i64 (i - wrapI IntKind.i64 (n.tdiv (64 : Int))) - (1 : Int))).toNat *
                            (1 : Nat) <
                        ls.length) &&
                    (decide ((0 : Int) ≤ wrapI IntKind.i64 ((64 : Int) - n.tmod (64 : Int))) &&
                      (decide ((0 : Int) ≤ i) && decide (i < (4 : Int)) &&
                        (decide
                            ((0 : Nat) + i.toNat * (1 : Nat) + (1 : Nat) ≤
                              (os.set ((0 : Nat) + i.toNat * (1 : Nat))
                                  (ls.getD
                                      ((0 : Nat) +
                                        (wrapI IntKind.i64 (i - wrapI IntKind.i64 (n.tdiv (64 : Int)))).toNat *
                                          (1 : Nat))
                                      (OfNat.ofNat (0 : Nat)) <<<
                                    (n.tmod (64 : Int)).toNat)).length) &&
                          true)))))))) &&
        true),
    X.normal,
    [((1 : Nat), V.int IntKind.i64 n), ((4 : Nat), V.ptr (0 : Nat) (0 : Nat)), ((5 : Nat), V.ptr (1 : Nat) (0 : Nat)),
      ((6 : Nat), V.ptr (2 : Nat) (0 : Nat)), ((7 : Nat), V.int IntKind.i64 (wrapI IntKind.i64 (i + (1 : Int))))],
    [Blk.b64 xs, Blk.b64 ls,
      Blk.b64
        ((os.set ((0 : Nat) + i.toNat * (1 : Nat))
              (ls.getD ((0 : Nat) + (wrapI IntKind.i64 (i - wrapI IntKind.i64 (n.tdiv (64 : Int)))).toNat * (1 : Nat))
                  (OfNat.ofNat (0 : Nat)) <<<
                (n.tmod (64 : Int)).toNat)).set
          ((0 : Nat) + i.toNat * (1 : Nat))
          ((os.set ((0 : Nat) + i.toNat * (1 : Nat))
                  (ls.getD
                      ((0 : Nat) + (wrapI IntKind.i64 (i - wrapI IntKind.i64 (n.tdiv (64 : Int)))).toNat * (1 : Nat))
                      (OfNat.ofNat (0 : Nat)) <<<
                    (n.tmod (64 : Int)).toNat)).getD
              ((0 : Nat) + i.toNat * (1 : Nat)) (OfNat.ofNat (0 : Nat)) |||
            ls.getD
                ((0 : Nat) +
                  (wrapI IntKind.i64
                        (wrapI IntKind.i64 (i - wrapI IntKind.i64 (n.tdiv (64 : Int))) - (1 : Int))).toNat *
                    (1 : Nat))
                (OfNat.ofNat (0 : Nat)) >>>
              (wrapI IntKind.i64 ((64 : Int) - n.tmod (64 : Int))).toNat))]) := by kernel_rfl
theorem leftB (ls : List (BitVec 64)) (os : List (BitVec 64)) (xs : List (BitVec 64)) (n : Int) (i : Int) :
  execN Pr (withAsm noOrc [((13 : Nat), true), ((30 : Nat), true), ((33 : Nat), false)]) noLoops [] (100 : Nat)
  (0 : Nat) [(1 : Nat), (4 : Nat), (5 : Nat), (6 : Nat), (7 : Nat)] (loopBody Go.Proofs.Try.f104 (0 : Nat))
  [((1 : Nat), V.int IntKind.i64 n), ((4 : Nat), V.ptr (0 : Nat) (0 : Nat)), ((5 : Nat), V.ptr (1 : Nat) (0 : Nat)),
    ((6 : Nat), V.ptr (2 : Nat) (0 : Nat)), ((7 : Nat), V.int IntKind.i64 i)]
  [Blk.b64 xs, Blk.b64 ls, Blk.b64 os] =
  some
  (decide (i < (4 : Int)) && true && true &&
      (decide ((0 : Int) ≤ wrapI IntKind.i64 (i - wrapI IntKind.i64 (n.tdiv (64 : Int)))) &&
              decide (wrapI IntKind.i64 (i - wrapI IntKind.i64 (n.tdiv (64 : Int))) < (4 : Int)) &&
            (decide
                ((0 : Nat) + (wrapI IntKind.i64 (i - wrapI IntKind.i64 (n.tdiv (64 : Int)))).toNat * (1 : Nat) <
                  ls.length) &&
              (decide ((0 : Int) ≤ n.tmod (64 : Int)) &&
                (decide ((0 : Int) ≤ i) && decide (i < (4 : Int)) &&
                  (decide ((0 : Nat) + i.toNat * (1 : Nat) + (1 : Nat) ≤ os.length) && true)))) &&
          (decide (n.tmod (64 : Int) > (0 : Int)) &&
              (!decide (wrapI IntKind.i64 (i - wrapI IntKind.i64 (n.tdiv (64 : Int))) > (0 : Int)) && true) &&
            true) &&
        true),
    X.normal,
    [((1 : Nat), V.int IntKind.i64 n), ((4 : Nat), V.ptr (0 : Nat) (0 : Nat)), ((5 : Nat), V.ptr (1 : Nat) (0 : Nat)),
      ((6 : Nat), V.ptr (2 : Nat) (0 : Nat)), ((7 : Nat), V.int IntKind.i64 (wrapI IntKind.i64 (i + (1 : Int))))],
    [Blk.b64 xs, Blk.b64 ls,
      Blk.b64
        (os.set ((0 : Nat) + i.toNat * (1 : Nat))
          (ls.getD ((0 : Nat) + (wrapI IntKind.i64 (i - wrapI IntKind.i64 (n.tdiv (64 : Int)))).toNat * (1 : Nat))
              (OfNat.ofNat (0 : Nat)) <<<
            (n.tmod (64 : Int)).toNat))]) := by kernel_rfl
theorem leftC (ls : List (BitVec 64)) (os : List (BitVec 64)) (xs : List (BitVec 64)) (n : Int) (i : Int) :
  execN Pr (withAsm noOrc [((13 : Nat), true), ((30 : Nat), false)]) noLoops [] (100 : Nat) (0 : Nat)
  [(1 : Nat), (4 : Nat), (5 : Nat), (6 : Nat), (7 : Nat)] (loopBody Go.Proofs.Try.f104 (0 : Nat))
  [((1 : Nat), V.int IntKind.i64 n), ((4 : Nat), V.ptr (0 : Nat) (0 : Nat)), ((5 : Nat), V.ptr (1 : Nat) (0 : Nat)),
    ((6 : Nat), V.ptr (2 : Nat) (0 : Nat)), ((7 : Nat), V.int IntKind.i64 i)]
  [Blk.b64 xs, Blk.b64 ls, Blk.b64 os] =
  some
  (decide (i < (4 : Int)) && true && true &&
      (decide ((0 : Int) ≤ wrapI IntKind.i64 (i - wrapI IntKind.i64 (n.tdiv (64 : Int)))) &&
              decide (wrapI IntKind.i64 (i - wrapI IntKind.i64 (n.tdiv (64 : Int))) < (4 : Int)) &&
            (decide
                ((0 : Nat) + (wrapI IntKind.i64 (i - wrapI IntKind.i64 (n.tdiv (64 : Int)))).toNat * (1 : Nat) <
                  ls.length) &&
              (decide ((0 : Int) ≤ n.tmod (64 : Int)) &&
                (decide ((0 : Int) ≤ i) && decide (i < (4 : Int)) &&
                  (decide ((0 : Nat) + i.toNat * (1 : Nat) + (1 : Nat) ≤ os.length) && true)))) &&
          (!decide (n.tmod (64 : Int) > (0 : Int)) && true && true) &&
        true),
    X.normal,
    [((1 : Nat), V.int IntKind.i64 n), ((4 : Nat), V.ptr (0 : Nat) (0 : Nat)), ((5 : Nat), V.ptr (1 : Nat) (0 : Nat)),
      ((6 : Nat), V.ptr (2 : Nat) (0 : Nat)), ((7 : Nat), V.int IntKind.i64 (wrapI IntKind.i64 (i + (1 : Int))))],
    [Blk.b64 xs, Blk.b64 ls,
      Blk.b64
        (os.set ((0 : Nat) + i.toNat * (1 : Nat))
          (ls.getD ((0 : Nat) + (wrapI IntKind.i64 (i - wrapI IntKind.i64 (n.tdiv (64 : Int)))).toNat * (1 : Nat))
              (OfNat.ofNat (0 : Nat)) <<<
            (n.tmod (64 : Int)).toNat))]) := by kernel_rfl
theorem leftZ (ls : List (BitVec 64)) (os : List (BitVec 64)) (xs : List (BitVec 64)) (n : Int) (i : Int) :
  execN Pr (withAsm noOrc [((13 : Nat), false)]) noLoops [] (100 : Nat) (0 : Nat) [(4 : Nat), (6 : Nat)]
  (loopBody Go.Proofs.Try.f104 (0 : Nat))
  [((1 : Nat), V.int IntKind.i64 n), ((4 : Nat), V.ptr (0 : Nat) (0 : Nat)), ((5 : Nat), V.ptr (1 : Nat) (0 : Nat)),
    ((6 : Nat), V.ptr (2 : Nat) (0 : Nat)), ((7 : Nat), V.int IntKind.i64 i)]
  [Blk.b64 xs, Blk.b64 ls, Blk.b64 os] =
  some
  (!decide (i < (4 : Int)) && true && true, X.exit (0 : Nat),
    [((4 : Nat), V.ptr (0 : Nat) (0 : Nat)), ((6 : Nat), V.ptr (1 : Nat) (0 : Nat))],
    [Blk.b64 xs, Blk.b64 os]) := by kernel_rfl

def left_S : MV → Nat → Fr × Heap := fun a j => ([(1,.int .i64 a.n),(4,.ptr 0 0),(5,.ptr 1 0),(6,.ptr 2 0),(7,.int .i64 (iAdd a.i j))], [.b64 a.xs, .b64 a.ls, .b64 (leftN a.ls a.os (a.n.toNat / 64) (a.n.toNat % 64) j)])
def left_read : Fr → Heap → Option MV := fun f h => match f, h with
  | [(1,.int .i64 n),(4,.ptr 0 0),(5,.ptr 1 0),(6,.ptr 2 0),(7,.int .i64 i)], [.b64 xs, .b64 ls, .b64 os] => some ⟨ls, os, xs, n, i⟩
  | _, _ => none
def left_ok : MV → Bool := fun a => decide (a.ls.length = 4) && decide (a.os.length = 4) && decide (0 ≤ a.n) && decide (a.n < 256) && decide (a.i = ((a.n.toNat / 64 : Nat) : Int))
def left_E : MV → X × Fr × Heap := fun a => (.exit 0, [(4,.ptr 0 0),(6,.ptr 1 0)], [.b64 a.xs, .b64 (leftN a.ls a.os (a.n.toNat / 64) (a.n.toNat % 64) (4 - a.n.toNat / 64))])
def left_k : Nat := 0
def left_s : Sm := whS 4 [1,4,5,6,7] left_read left_ok left_E
theorem left_at : SmAt Pr Go.Proofs.Try.f104 0 left_s left_k := by
  refine cnt_at left_S (fun a => 4 - a.n.toNat / 64) (by kernel_rfl) (by kernel_rfl) ?_ ?_ ?_ ?_
  · intro f g a h
    unfold left_read at h
    split at h <;> cases h
    rfl
  · intro a h; cases h
  · intro a hok j hj
    simp only [left_ok, Bool.and_eq_true, decide_eq_true_eq] at hok
    obtain ⟨⟨⟨⟨h1, h2⟩, h3⟩, h4⟩, h5⟩ := hok
    obtain ⟨q, hq⟩ : ∃ q, a.n.toNat / 64 = q := ⟨_, rfl⟩
    obtain ⟨r, hr⟩ : ∃ r, a.n.toNat % 64 = r := ⟨_, rfl⟩
    have hq4 : q < 4 := by omega
    have hr4 : r < 64 := by omega
    have en : a.n = ((a.n.toNat : Nat) : Int) := by omega
    have ed : wrapI .i64 (a.n.tdiv 64) = (q : Int) := by rw [en, tdiv_lit, wrapI_nat (by omega)]; exact congrArg _ hq
    have er : a.n.tmod 64 = (r : Int) := by rw [en, tmod_lit]; exact congrArg _ hr
    have e64 : wrapI .i64 ((64 : Int) - (r : Int)) = ((64 - r : Nat) : Int) := by rw [lit_sub _ _ (by omega), wrapI_nat (by omega)]
    have hl := leftN_length a.ls a.os (a.n.toNat / 64) (a.n.toNat % 64) j
    have hlt : q + j < (leftN a.ls a.os (a.n.toNat / 64) (a.n.toNat % 64) j).length := by omega
    rw [hq] at hj h5
    have ei : iAdd a.i j = ((q + j : Nat) : Int) := by rw [iAdd_eq, h5]; omega
    have ek : wrapI .i64 (((q + j : Nat) : Int) - wrapI .i64 (a.n.tdiv 64)) = ((j : Nat) : Int) := by rw [ed, show ((q + j : Nat) : Int) - (q : Int) = ((j : Nat) : Int) by omega, wrapI_nat (by omega)]
    have ez : wrapI .i64 (((q + j : Nat) : Int) + 1) = iAdd a.i (j + 1) := by rw [add_lit, wrapI_nat (by omega), iAdd_eq, h5]; omega
    by_cases hc : 0 < r ∧ 0 < j
    · refine execN_sound (withAsm_sound (noOrc_sound _)) mixed (LoopsOk.innerAt (LoopsOk.none (P := Pr) (fn := Go.Proofs.Try.f104) (n0 := 0)) 0) (by kernel_rfl) (by intro v h; cases h) ((leftA a.ls (leftN a.ls a.os (a.n.toNat / 64) (a.n.toNat % 64) j) a.xs a.n (iAdd a.i j)).trans ?_)
      have es : wrapI .i64 (((j : Nat) : Int) - 1) = ((j - 1 : Nat) : Int) := by rw [show ((j : Nat) : Int) - 1 = ((j - 1 : Nat) : Int) by omega, wrapI_nat (by omega)]
      refine stX ?_ ?_ ?_
      · simp only [ei, ek, er, e64, es, getD_set_self _ _ _ hlt, List.set_set, List.length_set, Int.toNat_natCast, Nat.mul_one, Nat.zero_add]
        simp only [Bool.and_eq_true, Bool.and_true, Bool.true_and, decide_eq_true_eq, Bool.not_eq_true', decide_eq_false_iff_not]
        (repeat' apply And.intro) <;> first | omega | exact True.intro
      · rw [ei, ez]; rfl
      · simp only [ei, ek, er, e64, es, getD_set_self _ _ _ hlt, List.set_set, List.length_set, Int.toNat_natCast, Nat.mul_one, Nat.zero_add]
        show _ = [Blk.b64 a.xs, Blk.b64 a.ls, Blk.b64 (leftN a.ls a.os (a.n.toNat / 64) (a.n.toNat % 64) (j + 1))]
        rw [leftN]; simp only [hq, hr, lPart, hc, and_self, if_true]
    · by_cases hr0 : 0 < r
      · refine execN_sound (withAsm_sound (noOrc_sound _)) mixed (LoopsOk.innerAt (LoopsOk.none (P := Pr) (fn := Go.Proofs.Try.f104) (n0 := 0)) 0) (by kernel_rfl) (by intro v h; cases h) ((leftB a.ls (leftN a.ls a.os (a.n.toNat / 64) (a.n.toNat % 64) j) a.xs a.n (iAdd a.i j)).trans ?_)
        refine stX ?_ ?_ ?_
        · simp only [ei, ek, er, e64, getD_set_self _ _ _ hlt, List.set_set, List.length_set, Int.toNat_natCast, Nat.mul_one, Nat.zero_add]
          simp only [Bool.and_eq_true, Bool.and_true, Bool.true_and, decide_eq_true_eq, Bool.not_eq_true', decide_eq_false_iff_not]
          (repeat' apply And.intro) <;> first | omega | exact True.intro
        · rw [ei, ez]; rfl
        · simp only [ei, ek, er, e64, getD_set_self _ _ _ hlt, List.set_set, List.length_set, Int.toNat_natCast, Nat.mul_one, Nat.zero_add]
          show _ = [Blk.b64 a.xs, Blk.b64 a.ls, Blk.b64 (leftN a.ls a.os (a.n.toNat / 64) (a.n.toNat % 64) (j + 1))]
          rw [leftN]; simp only [hq, hr, lPart, hc, if_false]
      · refine execN_sound (withAsm_sound (noOrc_sound _)) mixed (LoopsOk.innerAt (LoopsOk.none (P := Pr) (fn := Go.Proofs.Try.f104) (n0 := 0)) 0) (by kernel_rfl) (by intro v h; cases h) ((leftC a.ls (leftN a.ls a.os (a.n.toNat / 64) (a.n.toNat % 64) j) a.xs a.n (iAdd a.i j)).trans ?_)
        refine stX ?_ ?_ ?_
        · simp only [ei, ek, er, e64, getD_set_self _ _ _ hlt, List.set_set, List.length_set, Int.toNat_natCast, Nat.mul_one, Nat.zero_add]
          simp only [Bool.and_eq_true, Bool.and_true, Bool.true_and, decide_eq_true_eq, Bool.not_eq_true', decide_eq_false_iff_not]
          (repeat' apply And.intro) <;> first | omega | exact True.intro
        · rw [ei, ez]; rfl
        · simp only [ei, ek, er, e64, getD_set_self _ _ _ hlt, List.set_set, List.length_set, Int.toNat_natCast, Nat.mul_one, Nat.zero_add]
          show _ = [Blk.b64 a.xs, Blk.b64 a.ls, Blk.b64 (leftN a.ls a.os (a.n.toNat / 64) (a.n.toNat % 64) (j + 1))]
          rw [leftN]; simp only [hq, hr, lPart, hc, if_false]
  · intro a hok
    simp only [left_ok, Bool.and_eq_true, decide_eq_true_eq] at hok
    obtain ⟨⟨⟨⟨h1, h2⟩, h3⟩, h4⟩, h5⟩ := hok
    refine execN_sound (withAsm_sound (noOrc_sound _)) mixed (LoopsOk.innerAt (LoopsOk.none (P := Pr) (fn := Go.Proofs.Try.f104) (n0 := 0)) 0) (by kernel_rfl) (by intro v h; cases h) ((leftZ a.ls (leftN a.ls a.os (a.n.toNat / 64) (a.n.toNat % 64) (4 - a.n.toNat / 64)) a.xs a.n (iAdd a.i (4 - a.n.toNat / 64))).trans ?_)
    refine stX ?_ rfl rfl
    rw [iAdd_eq, h5]
    simp only [Bool.and_true, Bool.not_eq_true', decide_eq_false_iff_not]
    omega
theorem left_x (x : W4) (n : Int) :
  execF Pr (auto Pr ext [] [(81 : FuncId), (107 : FuncId)] (3 : Nat)) (smL (0 : Nat) [left_s]) (100 : Nat)
  Go.Proofs.Try.f104 [x.v, V.int IntKind.i64 n] [] =
  some
  (left_ok
          (MV.mk [x.d, x.c, x.b, x.a]
            [BitVec.ofInt (64 : Nat) (0 : Int), BitVec.ofInt (64 : Nat) (0 : Int), BitVec.ofInt (64 : Nat) (0 : Int),
              BitVec.ofInt (64 : Nat) (0 : Int)]
            [BitVec.ofInt (64 : Nat) (0 : Int), BitVec.ofInt (64 : Nat) (0 : Int), BitVec.ofInt (64 : Nat) (0 : Int),
              BitVec.ofInt (64 : Nat) (0 : Int)]
            n (wrapI IntKind.i64 (n.tdiv (64 : Int)))) &&
        (decide
              ((4 : Nat) ≤
                (leftN [x.d, x.c, x.b, x.a]
                    [BitVec.ofInt (64 : Nat) (0 : Int), BitVec.ofInt (64 : Nat) (0 : Int),
                      BitVec.ofInt (64 : Nat) (0 : Int), BitVec.ofInt (64 : Nat) (0 : Int)]
                    (n.toNat / (64 : Nat)) (n.toNat % (64 : Nat)) ((4 : Nat) - n.toNat / (64 : Nat))).length) &&
            true &&
          true) &&
      true,
    Fin.ret
      (V.agg
        [V.u64
            ((leftN [x.d, x.c, x.b, x.a]
                  [BitVec.ofInt (64 : Nat) (0 : Int), BitVec.ofInt (64 : Nat) (0 : Int),
                    BitVec.ofInt (64 : Nat) (0 : Int), BitVec.ofInt (64 : Nat) (0 : Int)]
                  (n.toNat / (64 : Nat)) (n.toNat % (64 : Nat)) ((4 : Nat) - n.toNat / (64 : Nat))).getD
              (3 : Nat) (OfNat.ofNat (0 : Nat))),
          V.u64
            ((leftN [x.d, x.c, x.b, x.a]
                  [BitVec.ofInt (64 : Nat) (0 : Int), BitVec.ofInt (64 : Nat) (0 : Int),
                    BitVec.ofInt (64 : Nat) (0 : Int), BitVec.ofInt (64 : Nat) (0 : Int)]
                  (n.toNat / (64 : Nat)) (n.toNat % (64 : Nat)) ((4 : Nat) - n.toNat / (64 : Nat))).getD
              (2 : Nat) (OfNat.ofNat (0 : Nat))),
          V.u64
            ((leftN [x.d, x.c, x.b, x.a]
                  [BitVec.ofInt (64 : Nat) (0 : Int), BitVec.ofInt (64 : Nat) (0 : Int),
                    BitVec.ofInt (64 : Nat) (0 : Int), BitVec.ofInt (64 : Nat) (0 : Int)]
                  (n.toNat / (64 : Nat)) (n.toNat % (64 : Nat)) ((4 : Nat) - n.toNat / (64 : Nat))).getD
              (1 : Nat) (OfNat.ofNat (0 : Nat))),
          V.u64
            ((leftN [x.d, x.c, x.b, x.a]
                  [BitVec.ofInt (64 : Nat) (0 : Int), BitVec.ofInt (64 : Nat) (0 : Int),
                    BitVec.ofInt (64 : Nat) (0 : Int), BitVec.ofInt (64 : Nat) (0 : Int)]
                  (n.toNat / (64 : Nat)) (n.toNat % (64 : Nat)) ((4 : Nat) - n.toNat / (64 : Nat))).getD
              (0 : Nat) (OfNat.ofNat (0 : Nat)))]),
    []) := by kernel_rfl
theorem rightA (ls : List (BitVec 64)) (os : List (BitVec 64)) (xs : List (BitVec 64)) (n : Int) (i : Int) (k : Int) :
  execN Pr (withAsm noOrc [((14 : Nat), true), ((30 : Nat), true), ((34 : Nat), true)]) noLoops [] (100 : Nat) (0 : Nat)
  [(1 : Nat), (4 : Nat), (5 : Nat), (6 : Nat), (13 : Nat), (14 : Nat)] (loopBody Go.Proofs.Try.f105 (0 : Nat))
  [((1 : Nat), V.int IntKind.i64 n), ((4 : Nat), V.ptr (0 : Nat) (0 : Nat)), ((5 : Nat), V.ptr (1 : Nat) (0 : Nat)),
    ((6 : Nat), V.ptr (2 : Nat) (0 : Nat)), ((13 : Nat), V.int IntKind.i64 i), ((14 : Nat), V.int IntKind.i64 k)]
  [Blk.b64 xs, Blk.b64 ls, Blk.b64 os] =
  some
  (decide (k < i) && true &&
      (decide ((0 : Int) ≤ wrapI IntKind.i64 (k + wrapI IntKind.i64 (n.tdiv (64 : Int)))) &&
              decide (wrapI IntKind.i64 (k + wrapI IntKind.i64 (n.tdiv (64 : Int))) < (4 : Int)) &&
            (decide
                ((0 : Nat) + (wrapI IntKind.i64 (k + wrapI IntKind.i64 (n.tdiv (64 : Int)))).toNat * (1 : Nat) <
                  ls.length) &&
              (decide ((0 : Int) ≤ n.tmod (64 : Int)) &&
                (decide ((0 : Int) ≤ k) && decide (k < (4 : Int)) &&
                  (decide ((0 : Nat) + k.toNat * (1 : Nat) + (1 : Nat) ≤ os.length) && true)))) &&
          (decide (n.tmod (64 : Int) > (0 : Int)) &&
              (decide
                  (wrapI IntKind.i64 (wrapI IntKind.i64 (k + wrapI IntKind.i64 (n.tdiv (64 : Int))) + (1 : Int)) <
                    (4 : Int)) &&
                true) &&
            (decide ((0 : Int) ≤ k) && decide (k < (4 : Int)) &&
              (decide
                  ((0 : Nat) + k.toNat * (1 : Nat) <
                    (os.set ((0 : Nat) + k.toNat * (1 : Nat))
                        (ls.getD
                            ((0 : Nat) +
                              (wrapI IntKind.i64 (k + wrapI IntKind.i64 (n.tdiv (64 : Int)))).toNat * (1 : Nat))
                            (OfNat.ofNat (0 : Nat)) >>>
                          (n.tmod (64 : Int)).toNat)).length) &&
                (decide
                      ((0 : Int) ≤
                        wrapI IntKind.i64
                          (wrapI IntKind.i64 (k + wrapI IntKind.i64 (n.tdiv (64 : Int))) + (1 : Int))) &&
                    decide
                      (wrapI IntKind.i64 (wrapI IntKind.i64 (k + wrapI IntKind.i64 (n.tdiv (64 : Int))) + (1 : Int)) <
                        (4 : Int)) &&
                  (decide
                      ((0 : Nat) +
                          (wrapI IntKind.i64
                                (wrapI IntKind.i64 (k + wrapI IntKind.i64 (n.tdiv (64 : Int))) + (1 : Int))).toNat *
                            (1 : Nat) <
                        ls.length) &&
                    (decide ((0 : Int) ≤ wrapI IntKind.i64 ((64 : Int) - n.tmod (64 : Int))) &&
                      (decide ((0 : Int) ≤ k) && decide (k < (4 : Int)) &&
                        (decide
                            ((0 : Nat) + k.toNat * (1 : Nat) + (1 : Nat) ≤
                              (os.set ((0 : Nat) + k.toNat * (1 : Nat))
                                  (ls.getD
                                      ((0 : Nat) +
                                        (wrapI IntKind.i64 (k + wrapI IntKind.i64 (n.tdiv (64 : Int)))).toNat *
                                          (1 : Nat))
                                      (OfNat.ofNat (0 : Nat)) >>>
                                    (n.tmod (64 : Int)).toNat)).length) &&
                          true)))))))) &&
        true),
    X.normal,
    [((1 : Nat), V.int IntKind.i64 n), ((4 : Nat), V.ptr (0 : Nat) (0 : Nat)), ((5 : Nat), V.ptr (1 : Nat) (0 : Nat)),
      ((6 : Nat), V.ptr (2 : Nat) (0 : Nat)), ((13 : Nat), V.int IntKind.i64 i),
      ((14 : Nat), V.int IntKind.i64 (wrapI IntKind.i64 (k + (1 : Int))))],
    [Blk.b64 xs, Blk.b64 ls,
      Blk.b64
        ((os.set ((0 : Nat) + k.toNat * (1 : Nat))
              (ls.getD ((0 : Nat) + (wrapI IntKind.i64 (k + wrapI IntKind.i64 (n.tdiv (64 : Int)))).toNat * (1 : Nat))
                  (OfNat.ofNat (0 : Nat)) >>>
                (n.tmod (64 : Int)).toNat)).set
          ((0 : Nat) + k.toNat * (1 : Nat))
          ((os.set ((0 : Nat) + k.toNat * (1 : Nat))
                  (ls.getD
                      ((0 : Nat) + (wrapI IntKind.i64 (k + wrapI IntKind.i64 (n.tdiv (64 : Int)))).toNat * (1 : Nat))
                      (OfNat.ofNat (0 : Nat)) >>>
                    (n.tmod (64 : Int)).toNat)).getD
              ((0 : Nat) + k.toNat * (1 : Nat)) (OfNat.ofNat (0 : Nat)) |||
            ls.getD
                ((0 : Nat) +
                  (wrapI IntKind.i64
                        (wrapI IntKind.i64 (k + wrapI IntKind.i64 (n.tdiv (64 : Int))) + (1 : Int))).toNat *
                    (1 : Nat))
                (OfNat.ofNat (0 : Nat)) <<<
              (wrapI IntKind.i64 ((64 : Int) - n.tmod (64 : Int))).toNat))]) := by kernel_rfl
theorem rightB (ls : List (BitVec 64)) (os : List (BitVec 64)) (xs : List (BitVec 64)) (n : Int) (i : Int) (k : Int) :
  execN Pr (withAsm noOrc [((14 : Nat), true), ((30 : Nat), true), ((34 : Nat), false)]) noLoops [] (100 : Nat)
  (0 : Nat) [(1 : Nat), (4 : Nat), (5 : Nat), (6 : Nat), (13 : Nat), (14 : Nat)] (loopBody Go.Proofs.Try.f105 (0 : Nat))
  [((1 : Nat), V.int IntKind.i64 n), ((4 : Nat), V.ptr (0 : Nat) (0 : Nat)), ((5 : Nat), V.ptr (1 : Nat) (0 : Nat)),
    ((6 : Nat), V.ptr (2 : Nat) (0 : Nat)), ((13 : Nat), V.int IntKind.i64 i), ((14 : Nat), V.int IntKind.i64 k)]
  [Blk.b64 xs, Blk.b64 ls, Blk.b64 os] =
  some
  (decide (k < i) && true &&
      (decide ((0 : Int) ≤ wrapI IntKind.i64 (k + wrapI IntKind.i64 (n.tdiv (64 : Int)))) &&
              decide (wrapI IntKind.i64 (k + wrapI IntKind.i64 (n.tdiv (64 : Int))) < (4 : Int)) &&
            (decide
                ((0 : Nat) + (wrapI IntKind.i64 (k + wrapI IntKind.i64 (n.tdiv (64 : Int)))).toNat * (1 : Nat) <
                  ls.length) &&
              (decide ((0 : Int) ≤ n.tmod (64 : Int)) &&
                (decide ((0 : Int) ≤ k) && decide (k < (4 : Int)) &&
                  (decide ((0 : Nat) + k.toNat * (1 : Nat) + (1 : Nat) ≤ os.length) && true)))) &&
          (decide (n.tmod (64 : Int) > (0 : Int)) &&
              (!decide
                    (wrapI IntKind.i64 (wrapI IntKind.i64 (k + wrapI IntKind.i64 (n.tdiv (64 : Int))) + (1 : Int)) <
                      (4 : Int)) &&
                true) &&
            true) &&
        true),
    X.normal,
    [((1 : Nat), V.int IntKind.i64 n), ((4 : Nat), V.ptr (0 : Nat) (0 : Nat)), ((5 : Nat), V.ptr (1 : Nat) (0 : Nat)),
      ((6 : Nat), V.ptr (2 : Nat) (0 : Nat)), ((13 : Nat), V.int IntKind.i64 i),
      ((14 : Nat), V.int IntKind.i64 (wrapI IntKind.i64 (k + (1 : Int))))],
    [Blk.b64 xs, Blk.b64 ls,
      Blk.b64
        (os.set ((0 : Nat) + k.toNat * (1 : Nat))
          (ls.getD ((0 : Nat) + (wrapI IntKind.i64 (k + wrapI IntKind.i64 (n.tdiv (64 : Int)))).toNat * (1 : Nat))
              (OfNat.ofNat (0 : Nat)) >>>
            (n.tmod (64 : Int)).toNat))]) := by kernel_rfl
theorem rightC (ls : List (BitVec 64)) (os : List (BitVec 64)) (xs : List (BitVec 64)) (n : Int) (i : Int) (k : Int) :
  execN Pr (withAsm noOrc [((14 : Nat), true), ((30 : Nat), false)]) noLoops [] (100 : Nat) (0 : Nat)
  [(1 : Nat), (4 : Nat), (5 : Nat), (6 : Nat), (13 : Nat), (14 : Nat)] (loopBody Go.Proofs.Try.f105 (0 : Nat))
  [((1 : Nat), V.int IntKind.i64 n), ((4 : Nat), V.ptr (0 : Nat) (0 : Nat)), ((5 : Nat), V.ptr (1 : Nat) (0 : Nat)),
    ((6 : Nat), V.ptr (2 : Nat) (0 : Nat)), ((13 : Nat), V.int IntKind.i64 i), ((14 : Nat), V.int IntKind.i64 k)]
  [Blk.b64 xs, Blk.b64 ls, Blk.b64 os] =
  some
  (decide (k < i) && true &&
      (decide ((0 : Int) ≤ wrapI IntKind.i64 (k + wrapI IntKind.i64 (n.tdiv (64 : Int)))) &&
              decide (wrapI IntKind.i64 (k + wrapI IntKind.i64 (n.tdiv (64 : Int))) < (4 : Int)) &&
            (decide
                ((0 : Nat) + (wrapI IntKind.i64 (k + wrapI IntKind.i64 (n.tdiv (64 : Int)))).toNat * (1 : Nat) <
                  ls.length) &&
              (decide ((0 : Int) ≤ n.tmod (64 : Int)) &&
                (decide ((0 : Int) ≤ k) && decide (k < (4 : Int)) &&
                  (decide ((0 : Nat) + k.toNat * (1 : Nat) + (1 : Nat) ≤ os.length) && true)))) &&
          (!decide (n.tmod (64 : Int) > (0 : Int)) && true && true) &&
        true),
    X.normal,
    [((1 : Nat), V.int IntKind.i64 n), ((4 : Nat), V.ptr (0 : Nat) (0 : Nat)), ((5 : Nat), V.ptr (1 : Nat) (0 : Nat)),
      ((6 : Nat), V.ptr (2 : Nat) (0 : Nat)), ((13 : Nat), V.int IntKind.i64 i),
      ((14 : Nat), V.int IntKind.i64 (wrapI IntKind.i64 (k + (1 : Int))))],
    [Blk.b64 xs, Blk.b64 ls,
      Blk.b64
        (os.set ((0 : Nat) + k.toNat * (1 : Nat))
          (ls.getD ((0 : Nat) + (wrapI IntKind.i64 (k + wrapI IntKind.i64 (n.tdiv (64 : Int)))).toNat * (1 : Nat))
              (OfNat.ofNat (0 : Nat)) >>>
            (n.tmod (64 : Int)).toNat))]) := by kernel_rfl
theorem rightZ (ls : List (BitVec 64)) (os : List (BitVec 64)) (xs : List (BitVec 64)) (n : Int) (i : Int) (k : Int) :
  execN Pr (withAsm noOrc [((14 : Nat), false)]) noLoops [] (100 : Nat) (0 : Nat) [(4 : Nat), (6 : Nat)]
  (loopBody Go.Proofs.Try.f105 (0 : Nat))
  [((1 : Nat), V.int IntKind.i64 n), ((4 : Nat), V.ptr (0 : Nat) (0 : Nat)), ((5 : Nat), V.ptr (1 : Nat) (0 : Nat)),
    ((6 : Nat), V.ptr (2 : Nat) (0 : Nat)), ((13 : Nat), V.int IntKind.i64 i), ((14 : Nat), V.int IntKind.i64 k)]
  [Blk.b64 xs, Blk.b64 ls, Blk.b64 os] =
  some
  (!decide (k < i) && true && true, X.exit (0 : Nat),
    [((4 : Nat), V.ptr (0 : Nat) (0 : Nat)), ((6 : Nat), V.ptr (1 : Nat) (0 : Nat))],
    [Blk.b64 xs, Blk.b64 os]) := by kernel_rfl

def right_S : MV → Nat → Fr × Heap := fun a j => ([(1,.int .i64 a.n),(4,.ptr 0 0),(5,.ptr 1 0),(6,.ptr 2 0),(13,.int .i64 a.i),(14,.int .i64 ((j : Nat) : Int))], [.b64 a.xs, .b64 a.ls, .b64 (rightN a.ls a.os (a.n.toNat / 64) (a.n.toNat % 64) j)])
def right_read : Fr → Heap → Option MV := fun f h => match f, h with
  | [(1,.int .i64 n),(4,.ptr 0 0),(5,.ptr 1 0),(6,.ptr 2 0),(13,.int .i64 i),(14,.int .i64 0)], [.b64 xs, .b64 ls, .b64 os] => some ⟨ls, os, xs, n, i⟩
  | _, _ => none
def right_ok : MV → Bool := fun a => decide (a.ls.length = 4) && decide (a.os.length = 4) && decide (0 ≤ a.n) && decide (a.n < 256) && decide (a.i = ((4 - a.n.toNat / 64 : Nat) : Int))
def right_E : MV → X × Fr × Heap := fun a => (.exit 0, [(4,.ptr 0 0),(6,.ptr 1 0)], [.b64 a.xs, .b64 (rightN a.ls a.os (a.n.toNat / 64) (a.n.toNat % 64) (4 - a.n.toNat / 64))])
def right_k : Nat := 0
def right_s : Sm := whS 4 [1,4,5,6,13,14] right_read right_ok right_E
theorem right_at : SmAt Pr Go.Proofs.Try.f105 0 right_s right_k := by
  refine cnt_at right_S (fun a => 4 - a.n.toNat / 64) (by kernel_rfl) (by kernel_rfl) ?_ ?_ ?_ ?_
  · intro f g a h
    unfold right_read at h
    split at h <;> cases h
    rfl
  · intro a h; cases h
  · intro a hok j hj
    simp only [right_ok, Bool.and_eq_true, decide_eq_true_eq] at hok
    obtain ⟨⟨⟨⟨h1, h2⟩, h3⟩, h4⟩, h5⟩ := hok
    obtain ⟨q, hq⟩ : ∃ q, a.n.toNat / 64 = q := ⟨_, rfl⟩
    obtain ⟨r, hr⟩ : ∃ r, a.n.toNat % 64 = r := ⟨_, rfl⟩
    have hq4 : q < 4 := by omega
    have hr4 : r < 64 := by omega
    have en : a.n = ((a.n.toNat : Nat) : Int) := by omega
    have ed : wrapI .i64 (a.n.tdiv 64) = (q : Int) := by rw [en, tdiv_lit, wrapI_nat (by omega)]; exact congrArg _ hq
    have er : a.n.tmod 64 = (r : Int) := by rw [en, tmod_lit]; exact congrArg _ hr
    have e64 : wrapI .i64 ((64 : Int) - (r : Int)) = ((64 - r : Nat) : Int) := by rw [lit_sub _ _ (by omega), wrapI_nat (by omega)]
    have hl := rightN_length a.ls a.os (a.n.toNat / 64) (a.n.toNat % 64) j
    have hlt : j < (rightN a.ls a.os (a.n.toNat / 64) (a.n.toNat % 64) j).length := by omega
    rw [hq] at hj h5
    have ek : wrapI .i64 (((j : Nat) : Int) + wrapI .i64 (a.n.tdiv 64)) = ((j + q : Nat) : Int) := by rw [ed, add_nat, wrapI_nat (by omega)]
    have ez : wrapI .i64 (((j : Nat) : Int) + 1) = ((j + 1 : Nat) : Int) := by rw [add_lit, wrapI_nat (by omega)]
    have es : wrapI .i64 (((j + q : Nat) : Int) + 1) = ((j + q + 1 : Nat) : Int) := by rw [add_lit, wrapI_nat (by omega)]
    by_cases hc : 0 < r ∧ j + q + 1 < 4
    · refine execN_sound (withAsm_sound (noOrc_sound _)) mixed (LoopsOk.innerAt (LoopsOk.none (P := Pr) (fn := Go.Proofs.Try.f105) (n0 := 0)) 0) (by kernel_rfl) (by intro v h; cases h) ((rightA a.ls (rightN a.ls a.os (a.n.toNat / 64) (a.n.toNat % 64) j) a.xs a.n a.i j).trans ?_)
      refine stX ?_ ?_ ?_
      · simp only [ek, er, e64, es, getD_set_self _ _ _ hlt, List.set_set, List.length_set, Int.toNat_natCast, Nat.mul_one, Nat.zero_add]
        simp only [Bool.and_eq_true, Bool.and_true, Bool.true_and, decide_eq_true_eq, Bool.not_eq_true', decide_eq_false_iff_not]
        (repeat' apply And.intro) <;> first | omega | exact True.intro
      · rw [ez]; rfl
      · simp only [ek, er, e64, es, getD_set_self _ _ _ hlt, List.set_set, List.length_set, Int.toNat_natCast, Nat.mul_one, Nat.zero_add]
        show _ = [Blk.b64 a.xs, Blk.b64 a.ls, Blk.b64 (rightN a.ls a.os (a.n.toNat / 64) (a.n.toNat % 64) (j + 1))]
        rw [rightN]; simp only [hq, hr, rPart, hc, and_self, if_true]
    · by_cases hr0 : 0 < r
      · refine execN_sound (withAsm_sound (noOrc_sound _)) mixed (LoopsOk.innerAt (LoopsOk.none (P := Pr) (fn := Go.Proofs.Try.f105) (n0 := 0)) 0) (by kernel_rfl) (by intro v h; cases h) ((rightB a.ls (rightN a.ls a.os (a.n.toNat / 64) (a.n.toNat % 64) j) a.xs a.n a.i j).trans ?_)
        refine stX ?_ ?_ ?_
        · simp only [ek, er, e64, es, getD_set_self _ _ _ hlt, List.set_set, List.length_set, Int.toNat_natCast, Nat.mul_one, Nat.zero_add]
          simp only [Bool.and_eq_true, Bool.and_true, Bool.true_and, decide_eq_true_eq, Bool.not_eq_true', decide_eq_false_iff_not]
          (repeat' apply And.intro) <;> first | omega | exact True.intro
        · rw [ez]; rfl
        · simp only [ek, er, e64, getD_set_self _ _ _ hlt, List.set_set, List.length_set, Int.toNat_natCast, Nat.mul_one, Nat.zero_add]
          show _ = [Blk.b64 a.xs, Blk.b64 a.ls, Blk.b64 (rightN a.ls a.os (a.n.toNat / 64) (a.n.toNat % 64) (j + 1))]
          rw [rightN]; simp only [hq, hr, rPart, hc, if_false]
      · refine execN_sound (withAsm_sound (noOrc_sound _)) mixed (LoopsOk.innerAt (LoopsOk.none (P := Pr) (fn := Go.Proofs.Try.f105) (n0 := 0)) 0) (by kernel_rfl) (by intro v h; cases h) ((rightC a.ls (rightN a.ls a.os (a.n.toNat / 64) (a.n.toNat % 64) j) a.xs a.n a.i j).trans ?_)
        refine stX ?_ ?_ ?_
        · simp only [ek, er, e64, getD_set_self _ _ _ hlt, List.set_set, List.length_set, Int.toNat_natCast, Nat.mul_one, Nat.zero_add]
          simp only [Bool.and_eq_true, Bool.and_true, Bool.true_and, decide_eq_true_eq, Bool.not_eq_true', decide_eq_false_iff_not]
          (repeat' apply And.intro) <;> first | omega | exact True.intro
        · rw [ez]; rfl
        · simp only [ek, er, e64, getD_set_self _ _ _ hlt, List.set_set, List.length_set, Int.toNat_natCast, Nat.mul_one, Nat.zero_add]
          show _ = [Blk.b64 a.xs, Blk.b64 a.ls, Blk.b64 (rightN a.ls a.os (a.n.toNat / 64) (a.n.toNat % 64) (j + 1))]
          rw [rightN]; simp only [hq, hr, rPart, hc, if_false]
  · intro a hok
    simp only [right_ok, Bool.and_eq_true, decide_eq_true_eq] at hok
    obtain ⟨⟨⟨⟨h1, h2⟩, h3⟩, h4⟩, h5⟩ := hok
    refine execN_sound (withAsm_sound (noOrc_sound _)) mixed (LoopsOk.innerAt (LoopsOk.none (P := Pr) (fn := Go.Proofs.Try.f105) (n0 := 0)) 0) (by kernel_rfl) (by intro v h; cases h) ((rightZ a.ls (rightN a.ls a.os (a.n.toNat / 64) (a.n.toNat % 64) (4 - a.n.toNat / 64)) a.xs a.n a.i ((4 - a.n.toNat / 64 : Nat) : Int)).trans ?_)
    refine stX ?_ rfl rfl
    rw [h5]
    simp only [Bool.and_true, Bool.not_eq_true', decide_eq_false_iff_not]
    omega
theorem right_x (x : W4) (n : Int) :
  execF Pr (auto Pr ext [] [(81 : FuncId), (107 : FuncId)] (3 : Nat)) (smL (0 : Nat) [right_s]) (100 : Nat)
  Go.Proofs.Try.f105 [x.v, V.int IntKind.i64 n] [] =
  some
  (right_ok
          (MV.mk [x.d, x.c, x.b, x.a]
            [BitVec.ofInt (64 : Nat) (0 : Int), BitVec.ofInt (64 : Nat) (0 : Int), BitVec.ofInt (64 : Nat) (0 : Int),
              BitVec.ofInt (64 : Nat) (0 : Int)]
            [BitVec.ofInt (64 : Nat) (0 : Int), BitVec.ofInt (64 : Nat) (0 : Int), BitVec.ofInt (64 : Nat) (0 : Int),
              BitVec.ofInt (64 : Nat) (0 : Int)]
            n (wrapI IntKind.i64 ((4 : Int) - wrapI IntKind.i64 (n.tdiv (64 : Int))))) &&
        (decide
              ((4 : Nat) ≤
                (rightN [x.d, x.c, x.b, x.a]
                    [BitVec.ofInt (64 : Nat) (0 : Int), BitVec.ofInt (64 : Nat) (0 : Int),
                      BitVec.ofInt (64 : Nat) (0 : Int), BitVec.ofInt (64 : Nat) (0 : Int)]
                    (n.toNat / (64 : Nat)) (n.toNat % (64 : Nat)) ((4 : Nat) - n.toNat / (64 : Nat))).length) &&
            true &&
          true) &&
      true,
    Fin.ret
      (V.agg
        [V.u64
            ((rightN [x.d, x.c, x.b, x.a]
                  [BitVec.ofInt (64 : Nat) (0 : Int), BitVec.ofInt (64 : Nat) (0 : Int),
                    BitVec.ofInt (64 : Nat) (0 : Int), BitVec.ofInt (64 : Nat) (0 : Int)]
                  (n.toNat / (64 : Nat)) (n.toNat % (64 : Nat)) ((4 : Nat) - n.toNat / (64 : Nat))).getD
              (3 : Nat) (OfNat.ofNat (0 : Nat))),
          V.u64
            ((rightN [x.d, x.c, x.b, x.a]
                  [BitVec.ofInt (64 : Nat) (0 : Int), BitVec.ofInt (64 : Nat) (0 : Int),
                    BitVec.ofInt (64 : Nat) (0 : Int), BitVec.ofInt (64 : Nat) (0 : Int)]
                  (n.toNat / (64 : Nat)) (n.toNat % (64 : Nat)) ((4 : Nat) - n.toNat / (64 : Nat))).getD
              (2 : Nat) (OfNat.ofNat (0 : Nat))),
          V.u64
            ((rightN [x.d, x.c, x.b, x.a]
                  [BitVec.ofInt (64 : Nat) (0 : Int), BitVec.ofInt (64 : Nat) (0 : Int),
                    BitVec.ofInt (64 : Nat) (0 : Int), BitVec.ofInt (64 : Nat) (0 : Int)]
                  (n.toNat / (64 : Nat)) (n.toNat % (64 : Nat)) ((4 : Nat) - n.toNat / (64 : Nat))).getD
              (1 : Nat) (OfNat.ofNat (0 : Nat))),
          V.u64
            ((rightN [x.d, x.c, x.b, x.a]
                  [BitVec.ofInt (64 : Nat) (0 : Int), BitVec.ofInt (64 : Nat) (0 : Int),
                    BitVec.ofInt (64 : Nat) (0 : Int), BitVec.ofInt (64 : Nat) (0 : Int)]
                  (n.toNat / (64 : Nat)) (n.toNat % (64 : Nat)) ((4 : Nat) - n.toNat / (64 : Nat))).getD
              (0 : Nat) (OfNat.ofNat (0 : Nat)))]),
    []) := by kernel_rfl
end
end Go.Proofs.Ytajbaocfdlopbaa.K
end
section
open Go Go.Lh
namespace Go.Proofs.Ytajbaocfdlopbaa.K
noncomputable section
set_option maxRecDepth 100000
def z4 : List (BitVec 64) := [BitVec.ofInt 64 0, BitVec.ofInt 64 0, BitVec.ofInt 64 0, BitVec.ofInt 64 0]
theorem left_list (x : W4) (q r : Nat) (hq : q < 4) : leftN [x.d, x.c, x.b, x.a] z4 q r (4 - q) = [W4.lP x q r 0, W4.lP x q r 1, W4.lP x q r 2, W4.lP x q r 3] := by
  have h4 : q = 0 ∨ q = 1 ∨ q = 2 ∨ q = 3 := by omega
  rcases h4 with rfl | rfl | rfl | rfl <;> simp [leftN, lPart, W4.lP, W4.lo, z4]
theorem right_list (x : W4) (q r : Nat) (hq : q < 4) : rightN [x.d, x.c, x.b, x.a] z4 q r (4 - q) = [W4.rP x q r 0, W4.rP x q r 1, W4.rP x q r 2, W4.rP x q r 3] := by
  have h4 : q = 0 ∨ q = 1 ∨ q = 2 ∨ q = 3 := by omega
  rcases h4 with rfl | rfl | rfl | rfl <;> simp [rightN, rPart, W4.rP, W4.lo, z4]
def OW3 : Orc := auto Pr ext [] [81, 107] 3
theorem OW3_sound : OrcSound Pr OW3 := auto_sound mixed ext_ok KOk.nil (by kernel_rfl) 3
theorem leftL : LoopsOk Pr Go.Proofs.Try.f104 0 (smL 0 [left_s]) := LoopsOk.of [(left_s, left_k)] (by kernel_rfl) (by
  intro p hp
  simp only [List.mem_cons, List.not_mem_nil, or_false] at hp
  subst hp
  exact left_at)
theorem rightL : LoopsOk Pr Go.Proofs.Try.f105 0 (smL 0 [right_s]) := LoopsOk.of [(right_s, right_k)] (by kernel_rfl) (by
  intro p hp
  simp only [List.mem_cons, List.not_mem_nil, or_false] at hp
  subst hp
  exact right_at)
theorem div_i {n : Int} (h : 0 ≤ n) (h2 : n < 256) : wrapI .i64 (n.tdiv 64) = ((n.toNat / 64 : Nat) : Int) := by
  have en : n = ((n.toNat : Nat) : Int) := by omega
  rw [en, tdiv_lit, wrapI_nat (by omega)]; rfl
theorem left_fn (x : W4) (n : Int) (h : 0 ≤ n) (h2 : n < 256) : LFn Pr 104 [x.v, .int .i64 n] [] (.ret (W4.shl x n.toNat).v) [] := by
  have hq : n.toNat / 64 < 4 := by omega
  have hr : n.toNat % 64 < 64 := Nat.mod_lt _ (by omega)
  have hl := left_list x (n.toNat / 64) (n.toNat % 64) hq
  unfold z4 at hl
  refine execF_sound (fn := Go.Proofs.Try.f104) OW3_sound mixed (by kernel_rfl) leftL ((left_x x n).trans (stF ?_ ?_ rfl))
  · rw [hl, div_i h h2]
    simp [left_ok, h, h2]
  · rw [hl, show n.toNat = 64 * (n.toNat / 64) + n.toNat % 64 by omega, ← W4.shlP_eq x _ _ (by omega) (by omega)]
    have e1 : (64 * (n.toNat / 64) + n.toNat % 64) / 64 = n.toNat / 64 := by omega
    have e2 : (64 * (n.toNat / 64) + n.toNat % 64) % 64 = n.toNat % 64 := by omega
    simp only [e1, e2]
    rfl
theorem right_fn (x : W4) (n : Int) (h : 0 ≤ n) (h2 : n < 256) : LFn Pr 105 [x.v, .int .i64 n] [] (.ret (W4.shr x n.toNat).v) [] := by
  have hq : n.toNat / 64 < 4 := by omega
  have hr : n.toNat % 64 < 64 := Nat.mod_lt _ (by omega)
  have hl := right_list x (n.toNat / 64) (n.toNat % 64) hq
  unfold z4 at hl
  have e4 : wrapI .i64 ((4 : Int) - ((n.toNat / 64 : Nat) : Int)) = ((4 - n.toNat / 64 : Nat) : Int) := by rw [lit_sub _ _ (by omega), wrapI_nat (by omega)]
  refine execF_sound (fn := Go.Proofs.Try.f105) OW3_sound mixed (by kernel_rfl) rightL ((right_x x n).trans (stF ?_ ?_ rfl))
  · rw [hl, div_i h h2, e4]
    simp [right_ok, h, h2]
  · rw [hl, show n.toNat = 64 * (n.toNat / 64) + n.toNat % 64 by omega, ← W4.shrP_eq x _ _ (by omega) (by omega)]
    have e1 : (64 * (n.toNat / 64) + n.toNat % 64) / 64 = n.toNat / 64 := by omega
    have e2 : (64 * (n.toNat / 64) + n.toNat % 64) % 64 = n.toNat % 64 := by omega
    simp only [e1, e2]
    rfl
end
end Go.Proofs.Ytajbaocfdlopbaa.K
end
section
open Go Go.Lh
namespace Go.Proofs.Ytajbaocfdlopbaa.K
noncomputable section
set_option maxRecDepth 100000
def OW4 : Orc := auto Pr ext [] [81, 107, 124, 125] 4
theorem OW4_sound : OrcSound Pr OW4 := auto_sound mixed ext_ok KOk.nil (by kernel_rfl) 4
theorem or_fn (x y : W4) : LFn Pr 120 [x.v, y.v] [] (.ret (W4.orW x y).v) [] :=
  execFD_sound (fn := Go.Proofs.Try.f120) OW4_sound mixed (by kernel_rfl) (fun _ _ _ _ => LoopOk.none) (show execFD Pr OW4 noLoops [] 100 Go.Proofs.Try.f120 [x.v, y.v] [] = some (true, .ret (W4.orW x y).v, []) by kernel_rfl)
theorem from_fn (x : BitVec 64) : LFn Pr 36 [.u64 x] [] (.ret (W4.small x).v) [] :=
  execFD_sound (fn := Go.Proofs.Try.f36) OW4_sound mixed (by kernel_rfl) (fun _ _ _ _ => LoopOk.none) (show execFD Pr OW4 noLoops [] 100 Go.Proofs.Try.f36 [.u64 x] [] = some (true, .ret (W4.small x).v, []) by kernel_rfl)
def lenTab : List (BitVec 8) := (bytesOf (ByteArray.mk (([0, 1, 2, 2, 3, 3, 3, 3, 4, 4, 4, 4, 4, 4, 4, 4, 5, 5, 5, 5, 5, 5, 5, 5, 5, 5, 5, 5, 5, 5, 5, 5, 6, 6, 6, 6, 6, 6, 6, 6, 6, 6, 6, 6, 6, 6, 6, 6, 6, 6, 6, 6, 6, 6, 6, 6, 6, 6, 6, 6, 6, 6, 6, 6].append [7, 7, 7, 7, 7, 7, 7, 7, 7, 7, 7, 7, 7, 7, 7, 7, 7, 7, 7, 7, 7, 7, 7, 7, 7, 7, 7, 7, 7, 7, 7, 7, 7, 7, 7, 7, 7, 7, 7, 7, 7, 7, 7, 7, 7, 7, 7, 7, 7, 7, 7, 7, 7, 7, 7, 7, 7, 7, 7, 7, 7, 7, 7, 7]).append ([8, 8, 8, 8, 8, 8, 8, 8, 8, 8, 8, 8, 8, 8, 8, 8, 8, 8, 8, 8, 8, 8, 8, 8, 8, 8, 8, 8, 8, 8, 8, 8, 8, 8, 8, 8, 8, 8, 8, 8, 8, 8, 8, 8, 8, 8, 8, 8, 8, 8, 8, 8, 8, 8, 8, 8, 8, 8, 8, 8, 8, 8, 8, 8].append [8, 8, 8, 8, 8, 8, 8, 8, 8, 8, 8, 8, 8, 8, 8, 8, 8, 8, 8, 8, 8, 8, 8, 8, 8, 8, 8, 8, 8, 8, 8, 8, 8, 8, 8, 8, 8, 8, 8, 8, 8, 8, 8, 8, 8, 8, 8, 8, 8, 8, 8, 8, 8, 8, 8, 8, 8, 8, 8, 8, 8, 8, 8, 8])).toArray))
theorem len_yyy (x : BitVec 64) :
  execFD Pr (withAsm OW4 [((3 : Nat), true), ((7 : Nat), true), ((13 : Nat), true)]) noLoops [] (100 : Nat)
  Go.Proofs.Try.f123 [V.u64 x] [] =
  some
  (decide (BitVec.ofInt (64 : Nat) (4294967296 : Int) ≤ x) && true && true &&
        (decide (BitVec.ofInt (64 : Nat) (65536 : Int) ≤ x >>> (32 : Nat)) && true && true &&
          (decide (BitVec.ofInt (64 : Nat) (256 : Int) ≤ x >>> (32 : Nat) >>> (16 : Nat)) && true && true &&
            (decide
                  ((↑(BitVec.setWidth (8 : Nat) (x >>> (32 : Nat) >>> (16 : Nat) >>> (8 : Nat))).toNat : Int) <
                    (256 : Int)) &&
                true &&
              true))) &&
      true,
    Fin.ret
      (V.int IntKind.i64
        (wrapI IntKind.i64
          ((56 : Int) +
            (↑(lenTab.getD
                    (BitVec.setWidth (8 : Nat) (x >>> (32 : Nat) >>> (16 : Nat) >>> (8 : Nat))).toNat
                    (OfNat.ofNat (0 : Nat))).toNat :
              Int)))),
    []) := by kernel_rfl
theorem len_yyn (x : BitVec 64) :
  execFD Pr (withAsm OW4 [((3 : Nat), true), ((7 : Nat), true), ((13 : Nat), false)]) noLoops [] (100 : Nat)
  Go.Proofs.Try.f123 [V.u64 x] [] =
  some
  (decide (BitVec.ofInt (64 : Nat) (4294967296 : Int) ≤ x) && true && true &&
        (decide (BitVec.ofInt (64 : Nat) (65536 : Int) ≤ x >>> (32 : Nat)) && true && true &&
          (!decide (BitVec.ofInt (64 : Nat) (256 : Int) ≤ x >>> (32 : Nat) >>> (16 : Nat)) && true && true &&
            (decide ((↑(BitVec.setWidth (8 : Nat) (x >>> (32 : Nat) >>> (16 : Nat))).toNat : Int) < (256 : Int)) &&
                true &&
              true))) &&
      true,
    Fin.ret
      (V.int IntKind.i64
        (wrapI IntKind.i64
          ((48 : Int) +
            (↑(lenTab.getD
                    (BitVec.setWidth (8 : Nat) (x >>> (32 : Nat) >>> (16 : Nat))).toNat (OfNat.ofNat (0 : Nat))).toNat :
              Int)))),
    []) := by kernel_rfl
theorem len_yny (x : BitVec 64) :
  execFD Pr (withAsm OW4 [((3 : Nat), true), ((7 : Nat), false), ((13 : Nat), true)]) noLoops [] (100 : Nat)
  Go.Proofs.Try.f123 [V.u64 x] [] =
  some
  (decide (BitVec.ofInt (64 : Nat) (4294967296 : Int) ≤ x) && true && true &&
        (!decide (BitVec.ofInt (64 : Nat) (65536 : Int) ≤ x >>> (32 : Nat)) && true && true &&
          (decide (BitVec.ofInt (64 : Nat) (256 : Int) ≤ x >>> (32 : Nat)) && true && true &&
            (decide ((↑(BitVec.setWidth (8 : Nat) (x >>> (32 : Nat) >>> (8 : Nat))).toNat : Int) < (256 : Int)) &&
                true &&
              true))) &&
      true,
    Fin.ret
      (V.int IntKind.i64
        (wrapI IntKind.i64
          ((40 : Int) +
            (↑(lenTab.getD
                    (BitVec.setWidth (8 : Nat) (x >>> (32 : Nat) >>> (8 : Nat))).toNat (OfNat.ofNat (0 : Nat))).toNat :
              Int)))),
    []) := by kernel_rfl
theorem len_ynn (x : BitVec 64) :
  execFD Pr (withAsm OW4 [((3 : Nat), true), ((7 : Nat), false), ((13 : Nat), false)]) noLoops [] (100 : Nat)
  Go.Proofs.Try.f123 [V.u64 x] [] =
  some
  (decide (BitVec.ofInt (64 : Nat) (4294967296 : Int) ≤ x) && true && true &&
        (!decide (BitVec.ofInt (64 : Nat) (65536 : Int) ≤ x >>> (32 : Nat)) && true && true &&
          (!decide (BitVec.ofInt (64 : Nat) (256 : Int) ≤ x >>> (32 : Nat)) && true && true &&
            (decide ((↑(BitVec.setWidth (8 : Nat) (x >>> (32 : Nat))).toNat : Int) < (256 : Int)) && true && true))) &&
      true,
    Fin.ret
      (V.int IntKind.i64
        (wrapI IntKind.i64
          ((32 : Int) +
            (↑(lenTab.getD
                    (BitVec.setWidth (8 : Nat) (x >>> (32 : Nat))).toNat (OfNat.ofNat (0 : Nat))).toNat :
              Int)))),
    []) := by kernel_rfl
theorem len_nyy (x : BitVec 64) :
  execFD Pr (withAsm OW4 [((3 : Nat), false), ((7 : Nat), true), ((13 : Nat), true)]) noLoops [] (100 : Nat)
  Go.Proofs.Try.f123 [V.u64 x] [] =
  some
  (!decide (BitVec.ofInt (64 : Nat) (4294967296 : Int) ≤ x) && true && true &&
        (decide (BitVec.ofInt (64 : Nat) (65536 : Int) ≤ x) && true && true &&
          (decide (BitVec.ofInt (64 : Nat) (256 : Int) ≤ x >>> (16 : Nat)) && true && true &&
            (decide ((↑(BitVec.setWidth (8 : Nat) (x >>> (16 : Nat) >>> (8 : Nat))).toNat : Int) < (256 : Int)) &&
                true &&
              true))) &&
      true,
    Fin.ret
      (V.int IntKind.i64
        (wrapI IntKind.i64
          ((24 : Int) +
            (↑(lenTab.getD
                    (BitVec.setWidth (8 : Nat) (x >>> (16 : Nat) >>> (8 : Nat))).toNat (OfNat.ofNat (0 : Nat))).toNat :
              Int)))),
    []) := by kernel_rfl
theorem len_nyn (x : BitVec 64) :
  execFD Pr (withAsm OW4 [((3 : Nat), false), ((7 : Nat), true), ((13 : Nat), false)]) noLoops [] (100 : Nat)
  Go.Proofs.Try.f123 [V.u64 x] [] =
  some
  (!decide (BitVec.ofInt (64 : Nat) (4294967296 : Int) ≤ x) && true && true &&
        (decide (BitVec.ofInt (64 : Nat) (65536 : Int) ≤ x) && true && true &&
          (!decide (BitVec.ofInt (64 : Nat) (256 : Int) ≤ x >>> (16 : Nat)) && true && true &&
            (decide ((↑(BitVec.setWidth (8 : Nat) (x >>> (16 : Nat))).toNat : Int) < (256 : Int)) && true && true))) &&
      true,
    Fin.ret
      (V.int IntKind.i64
        (wrapI IntKind.i64
          ((16 : Int) +
            (↑(lenTab.getD
                    (BitVec.setWidth (8 : Nat) (x >>> (16 : Nat))).toNat (OfNat.ofNat (0 : Nat))).toNat :
              Int)))),
    []) := by kernel_rfl
theorem len_nny (x : BitVec 64) :
  execFD Pr (withAsm OW4 [((3 : Nat), false), ((7 : Nat), false), ((13 : Nat), true)]) noLoops [] (100 : Nat)
  Go.Proofs.Try.f123 [V.u64 x] [] =
  some
  (!decide (BitVec.ofInt (64 : Nat) (4294967296 : Int) ≤ x) && true && true &&
        (!decide (BitVec.ofInt (64 : Nat) (65536 : Int) ≤ x) && true && true &&
          (decide (BitVec.ofInt (64 : Nat) (256 : Int) ≤ x) && true && true &&
            (decide ((↑(BitVec.setWidth (8 : Nat) (x >>> (8 : Nat))).toNat : Int) < (256 : Int)) && true && true))) &&
      true,
    Fin.ret
      (V.int IntKind.i64
        (wrapI IntKind.i64
          ((8 : Int) +
            (↑(lenTab.getD
                    (BitVec.setWidth (8 : Nat) (x >>> (8 : Nat))).toNat (OfNat.ofNat (0 : Nat))).toNat :
              Int)))),
    []) := by kernel_rfl
theorem len_nnn (x : BitVec 64) :
  execFD Pr (withAsm OW4 [((3 : Nat), false), ((7 : Nat), false), ((13 : Nat), false)]) noLoops [] (100 : Nat)
  Go.Proofs.Try.f123 [V.u64 x] [] =
  some
  (!decide (BitVec.ofInt (64 : Nat) (4294967296 : Int) ≤ x) && true && true &&
        (!decide (BitVec.ofInt (64 : Nat) (65536 : Int) ≤ x) && true && true &&
          (!decide (BitVec.ofInt (64 : Nat) (256 : Int) ≤ x) && true && true &&
            (decide ((↑(BitVec.setWidth (8 : Nat) x).toNat : Int) < (256 : Int)) && true && true))) &&
      true,
    Fin.ret
      (V.int IntKind.i64
        (wrapI IntKind.i64
          ((0 : Int) +
            (↑(lenTab.getD
                    (BitVec.setWidth (8 : Nat) x).toNat (OfNat.ofNat (0 : Nat))).toNat :
              Int)))),
    []) := by kernel_rfl
end
end Go.Proofs.Ytajbaocfdlopbaa.K
end
section
open Go Go.Lh
namespace Go.Proofs.Ytajbaocfdlopbaa.K
noncomputable section
set_option maxRecDepth 100000
def lenN (n : Nat) : Nat := if n = 0 then 0 else Nat.log2 n + 1
theorem lenN_half {n : Nat} (h : 1 ≤ n) : lenN n = lenN (n / 2) + 1 := by
  unfold lenN
  rw [if_neg (by omega)]
  by_cases h2 : n / 2 = 0
  · have : n = 1 := by omega
    subst this
    rfl
  · rw [if_neg h2, Nat.log2_def, if_pos (by omega)]
theorem lenN_shift {s : Nat} : ∀ {n : Nat}, 2 ^ s ≤ n → lenN n = lenN (n / 2 ^ s) + s := by
  induction s with
  | zero => intro n h; simp
  | succ s ih =>
    intro n h
    have e : 2 ^ (s + 1) = 2 * 2 ^ s := by rw [Nat.pow_succ, Nat.mul_comm]
    have p : 0 < 2 ^ s := Nat.two_pow_pos s
    rw [e] at h ⊢
    rw [lenN_half (by omega), ih (by omega), Nat.div_div_eq_div_mul]
    omega
theorem tab_all : (List.range 256).all (fun i => (lenTab.getD i (OfNat.ofNat 0)).toNat == lenN i && Nat.ble (lenN i) 8) = true := by kernel_rfl
theorem lenIx {y : BitVec 64} (h : y.toNat < 256) : (lenTab.getD (BitVec.setWidth 8 y).toNat (OfNat.ofNat 0)).toNat = lenN y.toNat ∧ lenN y.toNat ≤ 8 := by
  have e : (BitVec.setWidth 8 y).toNat = y.toNat := by rw [BitVec.toNat_setWidth, Nat.mod_eq_of_lt h]
  have := List.all_eq_true.1 tab_all y.toNat (List.mem_range.2 h)
  simp only [Bool.and_eq_true, beq_iff_eq] at this
  rw [e]
  exact ⟨this.1, Nat.le_of_ble_eq_true this.2⟩
theorem sh_n (x : BitVec 64) (s : Nat) : (x >>> s).toNat = x.toNat / 2 ^ s := by rw [BitVec.toNat_ushiftRight, Nat.shiftRight_eq_div_pow]
theorem b32 (x : BitVec 64) : (BitVec.ofInt 64 4294967296 ≤ x) = (4294967296 ≤ x.toNat) := rfl
theorem b16 (x : BitVec 64) : (BitVec.ofInt 64 65536 ≤ x) = (65536 ≤ x.toNat) := rfl
theorem b8 (x : BitVec 64) : (BitVec.ofInt 64 256 ≤ x) = (256 ≤ x.toNat) := rfl
theorem len_end (c k m : Nat) (h : k ≤ 8) (hc : c ≤ 100) (e : m = k + c) : wrapI .i64 ((c : Int) + (k : Int)) = (m : Int) := by
  rw [wrapI_in (by omega) (by omega), e]; omega
theorem len64_fn (x : BitVec 64) : LFn Pr 123 [.u64 x] [] (.ret (.int .i64 (lenN x.toNat : Nat))) [] := by
  have hx := x.isLt
  by_cases h0 : 4294967296 ≤ x.toNat
  · skip
    by_cases h1 : 65536 ≤ (x >>> 32).toNat
    · skip
      by_cases h2 : 256 ≤ ((x >>> 32) >>> 16).toNat
      · skip
        have h4 : (((x >>> 32) >>> 16) >>> 8).toNat < 256 := by (try simp only [sh_n] at *); omega
        obtain ⟨t1, t2⟩ := lenIx h4
        have e0 : lenN x.toNat = lenN (x >>> 32).toNat + 32 := by rw [sh_n x 32]; exact lenN_shift (s := 32) (by omega)
        have e1 : lenN (x >>> 32).toNat = lenN ((x >>> 32) >>> 16).toNat + 16 := by rw [sh_n (x >>> 32) 16]; exact lenN_shift (s := 16) (by omega)
        have e2 : lenN ((x >>> 32) >>> 16).toNat = lenN (((x >>> 32) >>> 16) >>> 8).toNat + 8 := by rw [sh_n ((x >>> 32) >>> 16) 8]; exact lenN_shift (s := 8) (by omega)
        refine execFD_sound (fn := Go.Proofs.Try.f123) (withAsm_sound OW4_sound) mixed (by kernel_rfl) (fun _ _ _ _ => LoopOk.none) ((len_yyy x).trans (stF ?_ ?_ rfl))
        · simp only [b32, b16, b8, Bool.and_eq_true, Bool.and_true, decide_eq_true_eq, Bool.not_eq_true', decide_eq_false_iff_not, BitVec.toNat_setWidth]
          refine ⟨by omega, by omega, by omega, by omega⟩
        · rw [t1]
          exact congrArg (fun z => Fin.ret (V.int IntKind.i64 z)) (len_end 56 _ _ t2 (by omega) (by omega))
      · skip
        have h4 : ((x >>> 32) >>> 16).toNat < 256 := by (try simp only [sh_n] at *); omega
        obtain ⟨t1, t2⟩ := lenIx h4
        have e0 : lenN x.toNat = lenN (x >>> 32).toNat + 32 := by rw [sh_n x 32]; exact lenN_shift (s := 32) (by omega)
        have e1 : lenN (x >>> 32).toNat = lenN ((x >>> 32) >>> 16).toNat + 16 := by rw [sh_n (x >>> 32) 16]; exact lenN_shift (s := 16) (by omega)
        refine execFD_sound (fn := Go.Proofs.Try.f123) (withAsm_sound OW4_sound) mixed (by kernel_rfl) (fun _ _ _ _ => LoopOk.none) ((len_yyn x).trans (stF ?_ ?_ rfl))
        · simp only [b32, b16, b8, Bool.and_eq_true, Bool.and_true, decide_eq_true_eq, Bool.not_eq_true', decide_eq_false_iff_not, BitVec.toNat_setWidth]
          refine ⟨by omega, by omega, by omega, by omega⟩
        · rw [t1]
          exact congrArg (fun z => Fin.ret (V.int IntKind.i64 z)) (len_end 48 _ _ t2 (by omega) (by omega))
    · skip
      by_cases h2 : 256 ≤ (x >>> 32).toNat
      · skip
        have h4 : ((x >>> 32) >>> 8).toNat < 256 := by (try simp only [sh_n] at *); omega
        obtain ⟨t1, t2⟩ := lenIx h4
        have e0 : lenN x.toNat = lenN (x >>> 32).toNat + 32 := by rw [sh_n x 32]; exact lenN_shift (s := 32) (by omega)
        have e2 : lenN (x >>> 32).toNat = lenN ((x >>> 32) >>> 8).toNat + 8 := by rw [sh_n (x >>> 32) 8]; exact lenN_shift (s := 8) (by omega)
        refine execFD_sound (fn := Go.Proofs.Try.f123) (withAsm_sound OW4_sound) mixed (by kernel_rfl) (fun _ _ _ _ => LoopOk.none) ((len_yny x).trans (stF ?_ ?_ rfl))
        · simp only [b32, b16, b8, Bool.and_eq_true, Bool.and_true, decide_eq_true_eq, Bool.not_eq_true', decide_eq_false_iff_not, BitVec.toNat_setWidth]
          refine ⟨by omega, by omega, by omega, by omega⟩
        · rw [t1]
          exact congrArg (fun z => Fin.ret (V.int IntKind.i64 z)) (len_end 40 _ _ t2 (by omega) (by omega))
      · skip
        have h4 : (x >>> 32).toNat < 256 := by (try simp only [sh_n] at *); omega
        obtain ⟨t1, t2⟩ := lenIx h4
        have e0 : lenN x.toNat = lenN (x >>> 32).toNat + 32 := by rw [sh_n x 32]; exact lenN_shift (s := 32) (by omega)
        refine execFD_sound (fn := Go.Proofs.Try.f123) (withAsm_sound OW4_sound) mixed (by kernel_rfl) (fun _ _ _ _ => LoopOk.none) ((len_ynn x).trans (stF ?_ ?_ rfl))
        · simp only [b32, b16, b8, Bool.and_eq_true, Bool.and_true, decide_eq_true_eq, Bool.not_eq_true', decide_eq_false_iff_not, BitVec.toNat_setWidth]
          refine ⟨by omega, by omega, by omega, by omega⟩
        · rw [t1]
          exact congrArg (fun z => Fin.ret (V.int IntKind.i64 z)) (len_end 32 _ _ t2 (by omega) (by omega))
  · skip
    by_cases h1 : 65536 ≤ x.toNat
    · skip
      by_cases h2 : 256 ≤ (x >>> 16).toNat
      · skip
        have h4 : ((x >>> 16) >>> 8).toNat < 256 := by (try simp only [sh_n] at *); omega
        obtain ⟨t1, t2⟩ := lenIx h4
        have e1 : lenN x.toNat = lenN (x >>> 16).toNat + 16 := by rw [sh_n x 16]; exact lenN_shift (s := 16) (by omega)
        have e2 : lenN (x >>> 16).toNat = lenN ((x >>> 16) >>> 8).toNat + 8 := by rw [sh_n (x >>> 16) 8]; exact lenN_shift (s := 8) (by omega)
        refine execFD_sound (fn := Go.Proofs.Try.f123) (withAsm_sound OW4_sound) mixed (by kernel_rfl) (fun _ _ _ _ => LoopOk.none) ((len_nyy x).trans (stF ?_ ?_ rfl))
        · simp only [b32, b16, b8, Bool.and_eq_true, Bool.and_true, decide_eq_true_eq, Bool.not_eq_true', decide_eq_false_iff_not, BitVec.toNat_setWidth]
          refine ⟨by omega, by omega, by omega, by omega⟩
        · rw [t1]
          exact congrArg (fun z => Fin.ret (V.int IntKind.i64 z)) (len_end 24 _ _ t2 (by omega) (by omega))
      · skip
        have h4 : (x >>> 16).toNat < 256 := by (try simp only [sh_n] at *); omega
        obtain ⟨t1, t2⟩ := lenIx h4
        have e1 : lenN x.toNat = lenN (x >>> 16).toNat + 16 := by rw [sh_n x 16]; exact lenN_shift (s := 16) (by omega)
        refine execFD_sound (fn := Go.Proofs.Try.f123) (withAsm_sound OW4_sound) mixed (by kernel_rfl) (fun _ _ _ _ => LoopOk.none) ((len_nyn x).trans (stF ?_ ?_ rfl))
        · simp only [b32, b16, b8, Bool.and_eq_true, Bool.and_true, decide_eq_true_eq, Bool.not_eq_true', decide_eq_false_iff_not, BitVec.toNat_setWidth]
          refine ⟨by omega, by omega, by omega, by omega⟩
        · rw [t1]
          exact congrArg (fun z => Fin.ret (V.int IntKind.i64 z)) (len_end 16 _ _ t2 (by omega) (by omega))
    · skip
      by_cases h2 : 256 ≤ x.toNat
      · skip
        have h4 : (x >>> 8).toNat < 256 := by (try simp only [sh_n] at *); omega
        obtain ⟨t1, t2⟩ := lenIx h4
        have e2 : lenN x.toNat = lenN (x >>> 8).toNat + 8 := by rw [sh_n x 8]; exact lenN_shift (s := 8) (by omega)
        refine execFD_sound (fn := Go.Proofs.Try.f123) (withAsm_sound OW4_sound) mixed (by kernel_rfl) (fun _ _ _ _ => LoopOk.none) ((len_nny x).trans (stF ?_ ?_ rfl))
        · simp only [b32, b16, b8, Bool.and_eq_true, Bool.and_true, decide_eq_true_eq, Bool.not_eq_true', decide_eq_false_iff_not, BitVec.toNat_setWidth]
          refine ⟨by omega, by omega, by omega, by omega⟩
        · rw [t1]
          exact congrArg (fun z => Fin.ret (V.int IntKind.i64 z)) (len_end 8 _ _ t2 (by omega) (by omega))
      · skip
        have h4 : x.toNat < 256 := by (try simp only [sh_n] at *); omega
        obtain ⟨t1, t2⟩ := lenIx h4
        refine execFD_sound (fn := Go.Proofs.Try.f123) (withAsm_sound OW4_sound) mixed (by kernel_rfl) (fun _ _ _ _ => LoopOk.none) ((len_nnn x).trans (stF ?_ ?_ rfl))
        · simp only [b32, b16, b8, Bool.and_eq_true, Bool.and_true, decide_eq_true_eq, Bool.not_eq_true', decide_eq_false_iff_not, BitVec.toNat_setWidth]
          refine ⟨by omega, by omega, by omega, by omega⟩
        · rw [t1]
          exact congrArg (fun z => Fin.ret (V.int IntKind.i64 z)) (len_end 0 _ _ t2 (by omega) (by omega))
end
end Go.Proofs.Ytajbaocfdlopbaa.K
end
section
open Go Go.Lh
namespace Go.Proofs.Ytajbaocfdlopbaa.K
noncomputable section
set_option maxRecDepth 100000
def len64_g := ctU (fun x => .int .i64 (lenN x.toNat : Nat))
theorem len64_en : Enters Pr 123 := Enters.of (fn := Go.Proofs.Try.f123) (by kernel_rfl) (by kernel_rfl)
def OW6 : Orc := auto Pr ext [(123, len64_g)] [81] 3
theorem OW6_sound : OrcSound Pr OW6 := auto_sound mixed ext_ok (KOk.cons len64_en (ctU_ok len64_fn) KOk.nil) (by kernel_rfl) 3
theorem lngN (ls : List (BitVec 64)) (i : Int) :
  execN Pr (withAsm OW6 [((7 : Nat), true), ((13 : Nat), false)]) noLoops [] (100 : Nat) (0 : Nat)
  [(2 : Nat), (3 : Nat), (4 : Nat)] (loopBody Go.Proofs.Try.f119 (0 : Nat))
  [((2 : Nat), V.int IntKind.i64 (0 : Int)), ((3 : Nat), V.ptr (0 : Nat) (0 : Nat)), ((4 : Nat), V.int IntKind.i64 i)]
  [Blk.b64 ls] =
  some
  (decide (i ≥ (0 : Int)) && true && true &&
      (decide ((0 : Int) ≤ i) && decide (i < (4 : Int)) &&
            (decide ((0 : Nat) + i.toNat * (1 : Nat) < ls.length) &&
              (!ls.getD ((0 : Nat) + i.toNat * (1 : Nat)) (OfNat.ofNat (0 : Nat)) !=
                    BitVec.ofInt (64 : Nat) (0 : Int) &&
                true)) &&
          true &&
        true),
    X.normal,
    [((2 : Nat), V.int IntKind.i64 (0 : Int)), ((3 : Nat), V.ptr (0 : Nat) (0 : Nat)),
      ((4 : Nat), V.int IntKind.i64 (wrapI IntKind.i64 (i - (1 : Int))))],
    [Blk.b64 ls]) := by kernel_rfl
theorem lngR (ls : List (BitVec 64)) (i : Int) :
  execN Pr (withAsm OW6 [((7 : Nat), true), ((13 : Nat), true)]) noLoops [] (100 : Nat) (0 : Nat) [(2 : Nat)]
  (loopBody Go.Proofs.Try.f119 (0 : Nat))
  [((2 : Nat), V.int IntKind.i64 (0 : Int)), ((3 : Nat), V.ptr (0 : Nat) (0 : Nat)), ((4 : Nat), V.int IntKind.i64 i)]
  [Blk.b64 ls] =
  some
  (decide (i ≥ (0 : Int)) && true && true &&
      (decide ((0 : Int) ≤ i) && decide (i < (4 : Int)) &&
          (decide ((0 : Nat) + i.toNat * (1 : Nat) < ls.length) &&
            (ls.getD ((0 : Nat) + i.toNat * (1 : Nat)) (OfNat.ofNat (0 : Nat)) != BitVec.ofInt (64 : Nat) (0 : Int) &&
              true)) &&
        (decide ((0 : Int) ≤ i) && decide (i < (4 : Int)) &&
            (decide ((0 : Nat) + i.toNat * (1 : Nat) < ls.length) &&
              (always (ls.getD ((0 : Nat) + i.toNat * (1 : Nat)) (OfNat.ofNat (0 : Nat))) && true)) &&
          true)),
    X.ret,
    [((2 : Nat),
        V.int IntKind.i64
          (wrapI IntKind.i64
            (wrapI IntKind.i64 ((64 : Int) * i) +
              (↑(lenN (ls.getD ((0 : Nat) + i.toNat * (1 : Nat)) (OfNat.ofNat (0 : Nat))).toNat) : Int))))],
    []) := by kernel_rfl
theorem lngX (ls : List (BitVec 64)) (i : Int) :
  execN Pr (withAsm OW6 [((7 : Nat), false)]) noLoops [] (100 : Nat) (0 : Nat) [(2 : Nat)]
  (loopBody Go.Proofs.Try.f119 (0 : Nat))
  [((2 : Nat), V.int IntKind.i64 (0 : Int)), ((3 : Nat), V.ptr (0 : Nat) (0 : Nat)), ((4 : Nat), V.int IntKind.i64 i)]
  [Blk.b64 ls] =
  some
  (!decide (i ≥ (0 : Int)) && true && true, X.exit (0 : Nat), [((2 : Nat), V.int IntKind.i64 (0 : Int))],
    []) := by kernel_rfl
structure LV where
  ls : List (BitVec 64)
  t : Int
  i : Int
def lenL (ls : List (BitVec 64)) : Nat → Nat
  | 0 => 0
  | j + 1 => if ls.getD j 0 = 0 then lenL ls j else 64 * j + lenN (ls.getD j 0).toNat
def lng_S : LV → Fr × Heap := fun a => ([(2,.int .i64 a.t),(3,.ptr 0 0),(4,.int .i64 a.i)], [.b64 a.ls])
def lng_read : Fr → Heap → Option LV := fun f h => match f, h with
  | [(2,.int .i64 t),(3,.ptr 0 0),(4,.int .i64 i)], [.b64 ls] => some ⟨ls, t, i⟩
  | _, _ => none
def lng_k : Nat := 0
def lng1_ok : LV → Bool := fun a => decide (a.ls.length = 4) && decide (a.t = 0) && decide (-1 ≤ a.i) && decide (a.i ≤ 3) && decide (lenL a.ls (a.i + 1).toNat ≠ 0)
def lng1_E : LV → X × Fr × Heap := fun a => (.ret, [(2,.int .i64 ((lenL a.ls (a.i + 1).toNat : Nat) : Int))], [])
def lng1_s : Sm := whS 3 [2,3,4] lng_read lng1_ok lng1_E
def lng0_ok : LV → Bool := fun a => decide (a.ls.length = 4) && decide (a.t = 0) && decide (-1 ≤ a.i) && decide (a.i ≤ 3) && decide (lenL a.ls (a.i + 1).toNat = 0)
def lng0_E : LV → X × Fr × Heap := fun a => (.exit 0, [(2,.int .i64 0)], [])
def lng0_s : Sm := whS 3 [2,3,4] lng_read lng0_ok lng0_E
theorem lenN_pos {x : BitVec 64} (h : ¬ x = 0) : 1 ≤ lenN x.toNat := by
  unfold lenN
  rw [if_neg]
  · omega
  · intro e; exact h (BitVec.eq_of_toNat_eq e)
theorem lenN_lt (n : Nat) : n < 2 ^ lenN n := by
  unfold lenN
  split
  · omega
  · exact Nat.lt_log2_self
theorem lenN_le {n : Nat} (h : n ≠ 0) : 2 ^ (lenN n - 1) ≤ n := by
  unfold lenN
  rw [if_neg h]
  exact Nat.log2_self_le h
theorem lenN_max {n k : Nat} (h : n < 2 ^ k) : lenN n ≤ k := by
  by_cases e : n = 0
  · subst e; simp [lenN]
  · have := Nat.lt_of_le_of_lt (lenN_le e) h
    have := (Nat.pow_lt_pow_iff_right (a := 2) (by omega)).1 this
    omega
theorem lng_round (a : LV) (h1 : a.ls.length = 4) (h2 : a.t = 0) (h3 : -1 ≤ a.i) (h4 : a.i ≤ 3) :
    (a.i = -1 ∧ Runs Pr (Func.ntmps Go.Proofs.Try.f119) 0 (loopBody Go.Proofs.Try.f119 0) (lng_S a).1 (lng_S a).2 (EndW (Func.ntmps Go.Proofs.Try.f119) 0 (.exit 0) [(2,.int .i64 0)] [])) ∨
    (∃ j : Nat, a.i = (j : Int) ∧ a.ls.getD j 0 = 0 ∧ Runs Pr (Func.ntmps Go.Proofs.Try.f119) 0 (loopBody Go.Proofs.Try.f119 0) (lng_S a).1 (lng_S a).2 (EndW (Func.ntmps Go.Proofs.Try.f119) 0 .normal (lng_S ⟨a.ls, 0, (j : Int) - 1⟩).1 (lng_S ⟨a.ls, 0, (j : Int) - 1⟩).2)) ∨
    (∃ j : Nat, a.i = (j : Int) ∧ ¬ a.ls.getD j 0 = 0 ∧ Runs Pr (Func.ntmps Go.Proofs.Try.f119) 0 (loopBody Go.Proofs.Try.f119 0) (lng_S a).1 (lng_S a).2 (EndW (Func.ntmps Go.Proofs.Try.f119) 0 .ret [(2,.int .i64 ((64 * j + lenN (a.ls.getD j 0).toNat : Nat) : Int))] [])) := by
  obtain ⟨ls, t, i⟩ := a
  simp only at h1 h2 h3 h4
  subst h2
  by_cases hi : 0 ≤ i
  · obtain ⟨j, rfl⟩ : ∃ j : Nat, i = (j : Int) := ⟨i.toNat, by omega⟩
    have ew : wrapI .i64 ((j : Int) - 1) = (j : Int) - 1 := wrapI_in (by omega) (by omega)
    have e1 : (j : Int).toNat = j := rfl
    by_cases hz : ls.getD j 0 = 0
    · refine .inr (.inl ⟨j, rfl, hz, execN_sound (withAsm_sound OW6_sound) mixed (LoopsOk.innerAt (LoopsOk.none (P := Pr) (fn := Go.Proofs.Try.f119) (n0 := 0)) 0) (by kernel_rfl) (by intro v h; cases h) ((lngN ls j).trans (stX ?_ ?_ rfl))⟩)
      · have hz2 : ls.getD j (OfNat.ofNat 0) = BitVec.ofInt 64 0 := hz
        simp only [e1, Nat.mul_one, Nat.zero_add, hz2, h1]
        simp
        omega
      · rw [ew]; rfl
    · have hx := (ls.getD j 0).isLt
      have hm := lenN_max hx
      refine .inr (.inr ⟨j, rfl, hz, execN_sound (withAsm_sound OW6_sound) mixed (LoopsOk.innerAt (LoopsOk.none (P := Pr) (fn := Go.Proofs.Try.f119) (n0 := 0)) 0) (by kernel_rfl) (by intro v h; cases h) ((lngR ls j).trans (stX ?_ ?_ rfl))⟩)
      · have hz2 : (ls.getD j (OfNat.ofNat 0) != BitVec.ofInt 64 0) = true := by rw [bne_iff_ne]; exact hz
        simp only [e1, Nat.mul_one, Nat.zero_add, hz2, h1, always]
        simp
        omega
      · simp only [e1, Nat.mul_one, Nat.zero_add]
        have eq : wrapI .i64 (wrapI .i64 ((64 : Int) * (j : Int)) + ((lenN (ls.getD j 0).toNat : Nat) : Int)) = ((64 * j + lenN (ls.getD j 0).toNat : Nat) : Int) := by
          rw [wrapI_in (x := 64 * (j : Int)) (by omega) (by omega), wrapI_in (by omega) (by omega)]; omega
        exact congrArg (fun z => [(2, V.int IntKind.i64 z)]) eq
  · obtain rfl : i = -1 := by omega
    exact .inl ⟨rfl, execN_sound (withAsm_sound OW6_sound) mixed (LoopsOk.innerAt (LoopsOk.none (P := Pr) (fn := Go.Proofs.Try.f119) (n0 := 0)) 0) (by kernel_rfl) (by intro v h; cases h) ((lngX ls (-1)).trans (stX rfl rfl rfl))⟩
theorem lng_hr : ∀ f g a, lng_read f g = some a → (f, g) = lng_S a := by
  intro f g a h
  unfold lng_read at h
  split at h <;> cases h
  rfl
theorem lng_e (j : Nat) : ((j : Int) + 1).toNat = j + 1 ∧ ((j : Int) - 1 + 1).toNat = j := by omega
theorem lng1_at : SmAt Pr Go.Proofs.Try.f119 0 lng1_s lng_k := by
  refine whS_at lng_S (fun a => (a.i + 1).toNat) (by kernel_rfl) (by kernel_rfl) lng_hr ?_
  intro a hok
  obtain ⟨ls, t, i⟩ := a
  simp only [lng1_ok, Bool.and_eq_true, decide_eq_true_eq] at hok
  obtain ⟨⟨⟨⟨h1, h2⟩, h3⟩, h4⟩, h5⟩ := hok
  rcases lng_round ⟨ls, t, i⟩ h1 h2 h3 h4 with ⟨e, _⟩ | ⟨j, e, hz, run⟩ | ⟨j, e, hz, run⟩ <;> simp only at e <;> subst e
  · exact (h5 rfl).elim
  · obtain ⟨q1, q2⟩ := lng_e j
    have hl : lenL ls (j + 1) = lenL ls j := by rw [lenL, if_pos hz]
    rw [q1, hl] at h5
    refine .inl ⟨_, ?_, ?_, ?_, run⟩
    · simp only [lng1_ok, Bool.and_eq_true, decide_eq_true_eq]
      refine ⟨⟨⟨⟨h1, by first | exact True.intro | rfl⟩, by omega⟩, by omega⟩, ?_⟩
      rw [q2]; exact h5
    · simp only; omega
    · simp only [lng1_E, q1, q2, hl]
  · obtain ⟨q1, q2⟩ := lng_e j
    refine .inr ⟨by simp [lng1_E], ?_⟩
    have hl : lenL ls (j + 1) = 64 * j + lenN (ls.getD j 0).toNat := by rw [lenL, if_neg hz]
    simp only [lng1_E, q1, hl]
    exact run
theorem lng0_at : SmAt Pr Go.Proofs.Try.f119 0 lng0_s lng_k := by
  refine whS_at lng_S (fun a => (a.i + 1).toNat) (by kernel_rfl) (by kernel_rfl) lng_hr ?_
  intro a hok
  obtain ⟨ls, t, i⟩ := a
  simp only [lng0_ok, Bool.and_eq_true, decide_eq_true_eq] at hok
  obtain ⟨⟨⟨⟨h1, h2⟩, h3⟩, h4⟩, h5⟩ := hok
  rcases lng_round ⟨ls, t, i⟩ h1 h2 h3 h4 with ⟨e, run⟩ | ⟨j, e, hz, run⟩ | ⟨j, e, hz, run⟩ <;> simp only at e <;> subst e
  · exact .inr ⟨by simp [lng0_E], run⟩
  · obtain ⟨q1, q2⟩ := lng_e j
    have hl : lenL ls (j + 1) = lenL ls j := by rw [lenL, if_pos hz]
    rw [q1, hl] at h5
    refine .inl ⟨⟨ls, 0, (j : Int) - 1⟩, ?_, ?_, rfl, run⟩
    · simp only [lng0_ok, Bool.and_eq_true, decide_eq_true_eq]
      refine ⟨⟨⟨⟨h1, by first | exact True.intro | rfl⟩, by omega⟩, by omega⟩, ?_⟩
      rw [q2]; exact h5
    · simp only; omega
  · obtain ⟨q1, q2⟩ := lng_e j
    have hl : lenL ls (j + 1) = 64 * j + lenN (ls.getD j 0).toNat := by rw [lenL, if_neg hz]
    have : 1 ≤ lenN (ls.getD j 0).toNat := lenN_pos hz
    rw [q1, hl] at h5
    omega
def OW6a : Orc := auto Pr ext [] [81] 3
theorem OW6a_sound : OrcSound Pr OW6a := auto_sound mixed ext_ok KOk.nil (by kernel_rfl) 3
theorem lng1L : LoopsOk Pr Go.Proofs.Try.f119 0 (smL 0 [lng1_s]) := LoopsOk.of [(lng1_s, lng_k)] (by kernel_rfl) (by
  intro p hp
  simp only [List.mem_cons, List.not_mem_nil, or_false] at hp
  subst hp
  exact lng1_at)
theorem lng0L : LoopsOk Pr Go.Proofs.Try.f119 0 (smL 0 [lng0_s]) := LoopsOk.of [(lng0_s, lng_k)] (by kernel_rfl) (by
  intro p hp
  simp only [List.mem_cons, List.not_mem_nil, or_false] at hp
  subst hp
  exact lng0_at)
theorem lng1_x (x : W4) :
  execF Pr OW6a (smL (0 : Nat) [lng1_s]) (100 : Nat) Go.Proofs.Try.f119 [x.v] [] =
  some
  (lng1_ok (LV.mk [x.d, x.c, x.b, x.a] (0 : Int) (3 : Int)) && true,
    Fin.ret (V.int IntKind.i64 (↑(lenL [x.d, x.c, x.b, x.a] ((3 : Int) + (1 : Int)).toNat) : Int)), []) := by kernel_rfl
theorem lng0_x (x : W4) :
  execF Pr OW6a (smL (0 : Nat) [lng0_s]) (100 : Nat) Go.Proofs.Try.f119 [x.v] [] =
  some
  (lng0_ok (LV.mk [x.d, x.c, x.b, x.a] (0 : Int) (3 : Int)) && true && true, Fin.ret (V.int IntKind.i64 (0 : Int)),
    []) := by kernel_rfl
theorem len_split {a m s : Nat} (ha : a ≠ 0) (hm : m < 2 ^ s) : lenN (2 ^ s * a + m) = lenN a + s := by
  have p := Nat.two_pow_pos s
  rw [lenN_shift (s := s), Nat.mul_add_div p, Nat.div_eq_of_lt hm, Nat.add_zero]
  have : 2 ^ s * 1 ≤ 2 ^ s * a := Nat.mul_le_mul_left _ (by omega)
  omega
theorem zero_iff (x : BitVec 64) : (x = 0) ↔ x.toNat = 0 := ⟨fun h => by rw [h]; rfl, fun h => BitVec.eq_of_toNat_eq h⟩
theorem lenL_eq (x : W4) : lenL [x.d, x.c, x.b, x.a] 4 = lenN x.n := by
  have hb := x.b.isLt
  have hc := x.c.isLt
  have hd := x.d.isLt
  simp only [lenL, List.getD_cons_succ, List.getD_cons_zero, zero_iff]
  unfold W4.n
  by_cases h3 : x.a.toNat = 0
  · rw [if_pos h3, h3, Nat.mul_zero]; simp only [Nat.zero_add]
    by_cases h2 : x.b.toNat = 0
    · rw [if_pos h2, h2, Nat.mul_zero]; simp only [Nat.zero_add]
      by_cases h1 : x.c.toNat = 0
      · rw [if_pos h1, h1, Nat.mul_zero]; simp only [Nat.zero_add]
        by_cases h0 : x.d.toNat = 0
        · rw [if_pos h0, h0]; rfl
        · rw [if_neg h0]
      · rw [if_neg h1, len_split h1 (by omega)]; omega
    · rw [if_neg h2, len_split h2 (by omega)]; omega
  · rw [if_neg h3, len_split h3 (by omega)]; omega
theorem length_fn (x : W4) : LFn Pr 119 [x.v] [] (.ret (.int .i64 (lenN x.n : Nat))) [] := by
  have e := lenL_eq x
  by_cases h : lenL [x.d, x.c, x.b, x.a] 4 = 0
  · refine execF_sound (fn := Go.Proofs.Try.f119) OW6a_sound mixed (by kernel_rfl) lng0L ((lng0_x x).trans (stF ?_ ?_ rfl))
    · simp [lng0_ok]; exact h
    · rw [← e, h]; rfl
  · refine execF_sound (fn := Go.Proofs.Try.f119) OW6a_sound mixed (by kernel_rfl) lng1L ((lng1_x x).trans (stF ?_ ?_ rfl))
    · simp [lng1_ok]; exact h
    · rw [← e]; rfl
end
end Go.Proofs.Ytajbaocfdlopbaa.K
end
section
open Go Go.Lh
namespace Go.Proofs.Ytajbaocfdlopbaa.K
noncomputable section
set_option maxRecDepth 100000
def wl (x : W4) : List (BitVec 64) := [x.a, x.b, x.c, x.d]
def inRange (n : Int) : Bool := decide (0 ≤ n) && decide (n < 256)
def left_g := ctWI (fun _ n => inRange n) (fun x n => (W4.shl x n.toNat).v)
def less_g := ctWW (fun x y => .bool (W4.lt x y))
def sub_g := ctWW (fun x y => (W4.sub x y).v)
def or_g := ctWW (fun x y => (W4.orW x y).v)
def from_g := ctU (fun x => (W4.small x).v)
theorem left_en : Enters Pr 104 := Enters.of (fn := Go.Proofs.Try.f104) (by kernel_rfl) (by kernel_rfl)
theorem less_en : Enters Pr 38 := Enters.of (fn := Go.Proofs.Try.f38) (by kernel_rfl) (by kernel_rfl)
theorem sub_en : Enters Pr 39 := Enters.of (fn := Go.Proofs.Try.f39) (by kernel_rfl) (by kernel_rfl)
theorem or_en : Enters Pr 120 := Enters.of (fn := Go.Proofs.Try.f120) (by kernel_rfl) (by kernel_rfl)
theorem from_en : Enters Pr 36 := Enters.of (fn := Go.Proofs.Try.f36) (by kernel_rfl) (by kernel_rfl)
def OW7 : Orc := auto Pr ext [(104, left_g), (38, less_g), (39, sub_g), (120, or_g), (36, from_g)] [] 3
theorem OW7_sound : OrcSound Pr OW7 := auto_sound mixed ext_ok (KOk.cons left_en (ctWI_ok fun x n h => left_fn x n (by simp [inRange] at h; omega) (by simp [inRange] at h; omega)) (KOk.cons less_en (ctWW_ok less_fn) (KOk.cons sub_en (ctWW_ok sub_fn) (KOk.cons or_en (ctWW_ok or_fn) (KOk.cons from_en (ctU_ok from_fn) KOk.nil))))) (by kernel_rfl) 3
theorem dvY (b : W4) (q : W4) (r : W4) (n : Int) :
  execN Pr (withAsm OW7 [((19 : Nat), true)]) noLoops [((29 : Nat), true)] (100 : Nat) (0 : Nat)
  [(3 : Nat), (4 : Nat), (5 : Nat), (6 : Nat)] (loopBody Go.Proofs.Try.f111 (0 : Nat))
  [((3 : Nat), V.ptr (0 : Nat) (0 : Nat)), ((4 : Nat), V.ptr (1 : Nat) (0 : Nat)),
    ((5 : Nat), V.ptr (2 : Nat) (0 : Nat)), ((6 : Nat), V.int IntKind.i64 n)]
  [Blk.b64 [b.a, b.b, b.c, b.d], Blk.b64 [q.a, q.b, q.c, q.d], Blk.b64 [r.a, r.b, r.c, r.d]] =
  some
  (decide (n ≥ (0 : Int)) && true && true &&
      (inRange n && true &&
          (always (WW.mk r (b.shl n.toNat)) && true &&
            (!r.lt (b.shl n.toNat) &&
              (always (WW.mk r (b.shl n.toNat)) && true &&
                (inRange n &&
                  (always (WW.mk q ((W4.small (BitVec.ofInt (64 : Nat) (1 : Int))).shl n.toNat)) && true))))) &&
        true),
    X.normal,
    [((3 : Nat), V.ptr (0 : Nat) (0 : Nat)), ((4 : Nat), V.ptr (1 : Nat) (0 : Nat)),
      ((5 : Nat), V.ptr (2 : Nat) (0 : Nat)), ((6 : Nat), V.int IntKind.i64 (wrapI IntKind.i64 (n - (1 : Int))))],
    [Blk.b64 [b.a, b.b, b.c, b.d],
      Blk.b64
        [(q.orW ((W4.small (BitVec.ofInt (64 : Nat) (1 : Int))).shl n.toNat)).a,
          (q.orW ((W4.small (BitVec.ofInt (64 : Nat) (1 : Int))).shl n.toNat)).b,
          (q.orW ((W4.small (BitVec.ofInt (64 : Nat) (1 : Int))).shl n.toNat)).c,
          (q.orW ((W4.small (BitVec.ofInt (64 : Nat) (1 : Int))).shl n.toNat)).d],
      Blk.b64
        [(r.sub (b.shl n.toNat)).a, (r.sub (b.shl n.toNat)).b, (r.sub (b.shl n.toNat)).c,
          (r.sub (b.shl n.toNat)).d]]) := by kernel_rfl
theorem dvN (b : W4) (q : W4) (r : W4) (n : Int) :
  execN Pr (withAsm OW7 [((19 : Nat), true)]) noLoops [((29 : Nat), false)] (100 : Nat) (0 : Nat)
  [(3 : Nat), (4 : Nat), (5 : Nat), (6 : Nat)] (loopBody Go.Proofs.Try.f111 (0 : Nat))
  [((3 : Nat), V.ptr (0 : Nat) (0 : Nat)), ((4 : Nat), V.ptr (1 : Nat) (0 : Nat)),
    ((5 : Nat), V.ptr (2 : Nat) (0 : Nat)), ((6 : Nat), V.int IntKind.i64 n)]
  [Blk.b64 [b.a, b.b, b.c, b.d], Blk.b64 [q.a, q.b, q.c, q.d], Blk.b64 [r.a, r.b, r.c, r.d]] =
  some
  (decide (n ≥ (0 : Int)) && true && true &&
      (inRange n && true && (always (WW.mk r (b.shl n.toNat)) && true && (!!r.lt (b.shl n.toNat) && true)) && true),
    X.normal,
    [((3 : Nat), V.ptr (0 : Nat) (0 : Nat)), ((4 : Nat), V.ptr (1 : Nat) (0 : Nat)),
      ((5 : Nat), V.ptr (2 : Nat) (0 : Nat)), ((6 : Nat), V.int IntKind.i64 (wrapI IntKind.i64 (n - (1 : Int))))],
    [Blk.b64 [b.a, b.b, b.c, b.d], Blk.b64 [q.a, q.b, q.c, q.d], Blk.b64 [r.a, r.b, r.c, r.d]]) := by kernel_rfl
theorem dvX (b : W4) (q : W4) (r : W4) (n : Int) :
  execN Pr (withAsm OW7 [((19 : Nat), false)]) noLoops [] (100 : Nat) (0 : Nat) [(4 : Nat), (5 : Nat)]
  (loopBody Go.Proofs.Try.f111 (0 : Nat))
  [((3 : Nat), V.ptr (0 : Nat) (0 : Nat)), ((4 : Nat), V.ptr (1 : Nat) (0 : Nat)),
    ((5 : Nat), V.ptr (2 : Nat) (0 : Nat)), ((6 : Nat), V.int IntKind.i64 n)]
  [Blk.b64 [b.a, b.b, b.c, b.d], Blk.b64 [q.a, q.b, q.c, q.d], Blk.b64 [r.a, r.b, r.c, r.d]] =
  some
  (!decide (n ≥ (0 : Int)) && true && true, X.exit (0 : Nat),
    [((4 : Nat), V.ptr (0 : Nat) (0 : Nat)), ((5 : Nat), V.ptr (1 : Nat) (0 : Nat))],
    [Blk.b64 [q.a, q.b, q.c, q.d], Blk.b64 [r.a, r.b, r.c, r.d]]) := by kernel_rfl
structure DV where
  b : W4
  q : W4
  r : W4
  n : Int
def dv_S : DV → Fr × Heap := fun a => ([(3,.ptr 0 0),(4,.ptr 1 0),(5,.ptr 2 0),(6,.int .i64 a.n)], [.b64 (wl a.b), .b64 (wl a.q), .b64 (wl a.r)])
def dv_read : Fr → Heap → Option DV := fun f h => match f, h with
  | [(3,.ptr 0 0),(4,.ptr 1 0),(5,.ptr 2 0),(6,.int .i64 n)], [.b64 [a1, a2, a3, a4], .b64 [b1, b2, b3, b4], .b64 [c1, c2, c3, c4]] => some ⟨⟨a1, a2, a3, a4⟩, ⟨b1, b2, b3, b4⟩, ⟨c1, c2, c3, c4⟩, n⟩
  | _, _ => none
def dv_ok : DV → Bool := fun a => decide (0 < a.b.n) && decide (-256 ≤ a.n) && decide (a.n < 256) && decide (a.r.n < a.b.n * 2 ^ (a.n + 1).toNat) && decide (a.q.n % 2 ^ (a.n + 1).toNat = 0) && decide (0 ≤ a.n → a.b.n * 2 ^ a.n.toNat < 2 ^ 256)
def qW (q r b : W4) : W4 := W4.of (BitVec.ofNat 256 (q.n + r.n / b.n))
def rW (r b : W4) : W4 := W4.of (BitVec.ofNat 256 (r.n % b.n))
def dv_E : DV → X × Fr × Heap := fun a => (.exit 0, [(4,.ptr 0 0),(5,.ptr 1 0)], [.b64 (wl (qW a.q a.r a.b)), .b64 (wl (rW a.r a.b))])
def dv_k : Nat := 0
def dv_s : Sm := whS 5 [3,4,5,6] dv_read dv_ok dv_E
theorem orW_n (x y : W4) : (W4.orW x y).n = x.n ||| y.n := by rw [← W4.bv_toNat, W4.orW_bv, BitVec.toNat_or, W4.bv_toNat, W4.bv_toNat]
theorem sub_n {x y : W4} (h : y.n ≤ x.n) : (W4.sub x y).n = x.n - y.n := by
  have hx := x.n_lt
  have hy := y.n_lt
  unfold W4.sub
  rw [W4.of_toNat, BitVec.toNat_sub, W4.bv_toNat, W4.bv_toNat]
  omega
theorem or_pow {x k : Nat} (h : x % 2 ^ (k + 1) = 0) : x ||| 2 ^ k = x + 2 ^ k := by
  have e : x = 2 ^ (k + 1) * (x / 2 ^ (k + 1)) := by have := Nat.div_add_mod x (2 ^ (k + 1)); omega
  rw [e]
  exact (Nat.two_pow_add_eq_or_of_lt (by rw [Nat.pow_succ]; have := Nat.two_pow_pos k; omega) _).symm
theorem or_left {x : W4} {k : Nat} (hk : k < 256) (h : x.n % 2 ^ (k + 1) = 0) : (W4.orW x (W4.shl (W4.small (BitVec.ofInt 64 1)) k)).n = x.n + 2 ^ k := by
  rw [orW_n, W4.shl_n, W4.small_n, show (BitVec.ofInt 64 1).toNat = 1 from rfl, Nat.one_mul, Nat.mod_eq_of_lt (Nat.pow_lt_pow_right (by omega) hk), or_pow h]
theorem of_self (x : W4) : W4.of (BitVec.ofNat 256 x.n) = x := by
  refine W4.ext_n ?_
  rw [W4.of_toNat, BitVec.toNat_ofNat, Nat.mod_eq_of_lt x.n_lt]
theorem step_div {q r b k : Nat} (hb : 0 < b) (h : b * 2 ^ k ≤ r) : (q + 2 ^ k) + (r - b * 2 ^ k) / b = q + r / b ∧ (r - b * 2 ^ k) % b = r % b := by
  obtain ⟨s, rfl⟩ : ∃ s, r = b * 2 ^ k + s := ⟨r - b * 2 ^ k, by omega⟩
  rw [show b * 2 ^ k + s - b * 2 ^ k = s by omega, Nat.mul_add_div hb, Nat.mul_add_mod]
  exact ⟨by omega, rfl⟩
theorem dv_at : SmAt Pr Go.Proofs.Try.f111 0 dv_s dv_k := by
  refine whS_at dv_S (fun a => (a.n + 1).toNat) (by kernel_rfl) (by kernel_rfl) ?_ ?_
  · intro f g a h
    unfold dv_read at h
    split at h <;> cases h
    rfl
  · intro a hok
    obtain ⟨b, q, r, n⟩ := a
    simp only [dv_ok, Bool.and_eq_true, decide_eq_true_eq] at hok
    obtain ⟨⟨⟨⟨⟨h1, h2⟩, h3⟩, h4⟩, h5⟩, h6⟩ := hok
    by_cases hn : 0 ≤ n
    · left
      obtain ⟨k, rfl⟩ : ∃ k : Nat, n = (k : Int) := ⟨n.toNat, by omega⟩
      have ek : ((k : Int) + 1).toNat = k + 1 := by omega
      have ek1 : ((k : Int) - 1 + 1).toNat = k := by omega
      have ew : wrapI .i64 ((k : Int) - 1) = (k : Int) - 1 := wrapI_in (by omega) (by omega)
      have e1 : (k : Int).toNat = k := rfl
      rw [ek] at h4 h5
      have h6 := h6 hn
      rw [e1] at h6
      have p2 : 2 ^ (k + 1) = 2 * 2 ^ k := by rw [Nat.pow_succ, Nat.mul_comm]
      have hm : b.n * 2 ^ (k + 1) = 2 * (b.n * 2 ^ k) := by rw [p2, Nat.mul_left_comm]
      have hs : (W4.shl b k).n = b.n * 2 ^ k := by rw [W4.shl_n, Nat.mod_eq_of_lt h6]
      have h7 : 0 ≤ (k : Int) - 1 → b.n * 2 ^ ((k : Int) - 1).toNat < 2 ^ 256 := by
        intro h0
        refine Nat.lt_of_le_of_lt (Nat.mul_le_mul_left _ (Nat.pow_le_pow_right (by omega) ?_)) h6
        omega
      have hq : q.n % 2 ^ k = 0 := by
        refine Nat.mod_eq_zero_of_dvd (Nat.dvd_trans ?_ (Nat.dvd_of_mod_eq_zero h5))
        exact Nat.pow_dvd_pow 2 (Nat.le_succ k)
      by_cases hl : b.n * 2 ^ k ≤ r.n
      · have hr := sub_n (x := r) (y := W4.shl b k) (by omega)
        rw [hs] at hr
        have ho := or_left (x := q) (by omega) h5
        obtain ⟨d1, d2⟩ := step_div (q := q.n) h1 hl
        refine ⟨⟨b, W4.orW q (W4.shl (W4.small (BitVec.ofInt 64 1)) k), W4.sub r (W4.shl b k), (k : Int) - 1⟩, ?_, ?_, ?_, ?_⟩
        · simp only [dv_ok, Bool.and_eq_true, decide_eq_true_eq]
          refine ⟨⟨⟨⟨⟨h1, by omega⟩, by omega⟩, ?_⟩, ?_⟩, h7⟩
          · rw [ek1, hr]; omega
          · rw [ek1, ho, Nat.add_mod_right, hq]
        · simp only; omega
        · simp only [dv_E, qW, rW, hr, ho, d1, d2]
        · refine execN_sound (withAsm_sound OW7_sound) mixed (LoopsOk.innerAt (LoopsOk.none (P := Pr) (fn := Go.Proofs.Try.f111) (n0 := 0)) 0) (by kernel_rfl) (by intro v h; cases h) ((dvY b q r k).trans (stX ?_ ?_ rfl))
          · simp [always, inRange, W4.lt, hs, hl]; omega
          · rw [ew]; rfl
      · refine ⟨⟨b, q, r, (k : Int) - 1⟩, ?_, ?_, rfl, ?_⟩
        · simp only [dv_ok, Bool.and_eq_true, decide_eq_true_eq]
          refine ⟨⟨⟨⟨⟨h1, by omega⟩, by omega⟩, ?_⟩, ?_⟩, h7⟩
          · rw [ek1]; omega
          · rw [ek1, hq]
        · simp only; omega
        · refine execN_sound (withAsm_sound OW7_sound) mixed (LoopsOk.innerAt (LoopsOk.none (P := Pr) (fn := Go.Proofs.Try.f111) (n0 := 0)) 0) (by kernel_rfl) (by intro v h; cases h) ((dvN b q r k).trans (stX ?_ ?_ rfl))
          · simp [always, inRange, W4.lt, hs]; omega
          · rw [ew]; rfl
    · right
      refine ⟨by simp [dv_E], ?_⟩
      have e0 : (n + 1).toNat = 0 := by omega
      rw [e0, Nat.pow_zero, Nat.mul_one] at h4
      have eq1 : qW q r b = q := by unfold qW; rw [Nat.div_eq_of_lt h4, Nat.add_zero, of_self]
      have er1 : rW r b = r := by unfold rW; rw [Nat.mod_eq_of_lt h4, of_self]
      simp only [dv_E, eq1, er1]
      exact execN_sound (withAsm_sound OW7_sound) mixed (LoopsOk.innerAt (LoopsOk.none (P := Pr) (fn := Go.Proofs.Try.f111) (n0 := 0)) 0) (by kernel_rfl) (by intro v h; cases h) ((dvX b q r n).trans (stX (by simp; omega) rfl rfl))
end
end Go.Proofs.Ytajbaocfdlopbaa.K
end
section
open Go Go.Lh
namespace Go.Proofs.Ytajbaocfdlopbaa.K
noncomputable section
set_option maxRecDepth 100000
def length_g := ctW (fun x => .int .i64 (lenN x.n : Nat))
theorem length_en : Enters Pr 119 := Enters.of (fn := Go.Proofs.Try.f119) (by kernel_rfl) (by kernel_rfl)
def OW8 : Orc := auto Pr ext [(119, length_g)] [] 3
theorem OW8_sound : OrcSound Pr OW8 := auto_sound mixed ext_ok (KOk.cons length_en (ctW_ok length_fn) KOk.nil) (by kernel_rfl) 3
theorem dvL : LoopsOk Pr Go.Proofs.Try.f111 0 (smL 0 [dv_s]) := LoopsOk.of [(dv_s, dv_k)] (by kernel_rfl) (by
  intro p hp
  simp only [List.mem_cons, List.not_mem_nil, or_false] at hp
  subst hp
  exact dv_at)
theorem div_z (x : W4) (y : W4) :
  execFD Pr (withAsm OW8 [((8 : Nat), true)]) (smL (0 : Nat) [dv_s]) [] (100 : Nat) Go.Proofs.Try.f111 [x.v, y.v] [] =
  some
  (y.a == BitVec.ofInt (64 : Nat) (0 : Int) &&
            (y.b == BitVec.ofInt (64 : Nat) (0 : Int) &&
              (y.c == BitVec.ofInt (64 : Nat) (0 : Int) && (y.d == BitVec.ofInt (64 : Nat) (0 : Int) && true))) &&
          true &&
        true &&
      true,
    Fin.ret
      (V.tup
        [V.agg
            [V.u64 (BitVec.ofInt (64 : Nat) (0 : Int)), V.u64 (BitVec.ofInt (64 : Nat) (0 : Int)),
              V.u64 (BitVec.ofInt (64 : Nat) (0 : Int)), V.u64 (BitVec.ofInt (64 : Nat) (0 : Int))],
          V.agg
            [V.u64 (BitVec.ofInt (64 : Nat) (0 : Int)), V.u64 (BitVec.ofInt (64 : Nat) (0 : Int)),
              V.u64 (BitVec.ofInt (64 : Nat) (0 : Int)), V.u64 (BitVec.ofInt (64 : Nat) (0 : Int))]]),
    []) := by kernel_rfl
theorem div_y (x y : W4) : execFD Pr (withAsm OW8 [(8,false)]) (smL 0 [dv_s]) [] 100 Go.Proofs.Try.f111 [x.v, y.v] [] =
    some (!(y.a == BitVec.ofInt 64 0 && (y.b == BitVec.ofInt 64 0 && (y.c == BitVec.ofInt 64 0 && (y.d == BitVec.ofInt 64 0 && true)))) && true && true &&
      (always x && (always y && true) && dv_ok ⟨y, W4.zero, x, wrapI .i64 ((lenN x.n : Int) - (lenN y.n : Int))⟩ && true) && true,
      .ret (.tup [(qW W4.zero x y).v, (rW x y).v]), []) := by kernel_rfl
theorem W4.eq_zero (y : W4) : (y.a == BitVec.ofInt 64 0 && (y.b == BitVec.ofInt 64 0 && (y.c == BitVec.ofInt 64 0 && (y.d == BitVec.ofInt 64 0 && true)))) = decide (y.n = 0) := by
  by_cases h : y.n = 0
  · rw [decide_eq_true h]
    have : y = W4.zero := W4.ext_n h
    subst this
    rfl
  · rw [decide_eq_false h]
    by_cases e : (y.a == BitVec.ofInt 64 0 && (y.b == BitVec.ofInt 64 0 && (y.c == BitVec.ofInt 64 0 && (y.d == BitVec.ofInt 64 0 && true)))) = true
    · simp only [Bool.and_eq_true, beq_iff_eq] at e
      obtain ⟨e1, e2, e3, e4, _⟩ := e
      exact (h (by unfold W4.n; rw [e1, e2, e3, e4]; rfl)).elim
    · exact Bool.eq_false_iff.2 e
def divQ (x y : W4) : W4 := W4.of (BitVec.ofNat 256 (x.n / y.n))
def divR (x y : W4) : W4 := if y.n = 0 then W4.zero else W4.of (BitVec.ofNat 256 (x.n % y.n))
theorem divide_fn (x y : W4) : LFn Pr 111 [x.v, y.v] [] (.ret (.tup [(divQ x y).v, (divR x y).v])) [] := by
  by_cases h : y.n = 0
  · refine execFD_sound (fn := Go.Proofs.Try.f111) (withAsm_sound OW8_sound) mixed (by kernel_rfl) dvL ((div_z x y).trans (stF ?_ ?_ rfl))
    · rw [W4.eq_zero, decide_eq_true h]; rfl
    · unfold divQ divR
      rw [h, if_pos rfl, Nat.div_zero]
      rfl
  · refine execFD_sound (fn := Go.Proofs.Try.f111) (withAsm_sound OW8_sound) mixed (by kernel_rfl) dvL ((div_y x y).trans (stF ?_ ?_ rfl))
    · rw [W4.eq_zero, decide_eq_false h]
      have l1 := lenN_max x.n_lt
      have l2 := lenN_max y.n_lt
      have l3 := lenN_lt x.n
      have l4 := lenN_lt y.n
      have l5 := lenN_le h
      have ew : wrapI .i64 ((lenN x.n : Int) - (lenN y.n : Int)) = (lenN x.n : Int) - (lenN y.n : Int) := wrapI_in (by omega) (by omega)
      have lp : 1 ≤ lenN y.n := by unfold lenN; rw [if_neg h]; omega
      generalize lenN x.n = la at *
      generalize lenN y.n = lb at *
      have g1 : x.n < y.n * 2 ^ ((la : Int) - (lb : Int) + 1).toNat := by
        refine Nat.lt_of_lt_of_le l3 (Nat.le_trans ?_ (Nat.mul_le_mul_right _ l5))
        rw [← Nat.pow_add]
        exact Nat.pow_le_pow_right (by omega) (by omega)
      have g2 : 0 ≤ (la : Int) - (lb : Int) → y.n * 2 ^ ((la : Int) - (lb : Int)).toNat < 2 ^ 256 := by
        intro h0
        refine Nat.lt_of_lt_of_le ((Nat.mul_lt_mul_right (Nat.two_pow_pos _)).2 l4) ?_
        rw [← Nat.pow_add]
        exact Nat.pow_le_pow_right (by omega) (by omega)
      have : dv_ok ⟨y, W4.zero, x, wrapI .i64 ((la : Int) - (lb : Int))⟩ = true := by
        rw [ew]
        simp only [dv_ok, Bool.and_eq_true, decide_eq_true_eq]
        refine ⟨⟨⟨⟨⟨Nat.pos_of_ne_zero h, by omega⟩, by omega⟩, g1⟩, Nat.zero_mod _⟩, g2⟩
      rw [this]
      rfl
    · unfold divQ divR qW rW
      rw [if_neg h, show W4.zero.n = 0 from rfl, Nat.zero_add]
theorem divide_en : Enters Pr 111 := Enters.of (fn := Go.Proofs.Try.f111) (by kernel_rfl) (by kernel_rfl)
def divide_g := ctWW (fun x y => .tup [(divQ x y).v, (divR x y).v])
def OW9 : Orc := auto Pr ext [(111, divide_g)] [] 3
theorem OW9_sound : OrcSound Pr OW9 := auto_sound mixed ext_ok (KOk.cons divide_en (ctWW_ok divide_fn) KOk.nil) (by kernel_rfl) 3
theorem div_fn (x y : W4) : LFn Pr 80 [x.v, y.v] [] (.ret (divQ x y).v) [] :=
  execFD_sound (fn := Go.Proofs.Try.f80) OW9_sound mixed (by kernel_rfl) (fun _ _ _ _ => LoopOk.none) (show execFD Pr OW9 noLoops [] 100 Go.Proofs.Try.f80 [x.v, y.v] [] = some (true, .ret (divQ x y).v, []) by kernel_rfl)
end
end Go.Proofs.Ytajbaocfdlopbaa.K
end
section
open Go Go.Lh
namespace Go.Proofs.Ytajbaocfdlopbaa.K
noncomputable section
set_option maxRecDepth 100000
def add_g := ctWW (fun x y => (W4.add x y).v)
def mul_g := ctWW (fun x y => (W4.mul x y).v)
def div_g := ctWW (fun x y => (divQ x y).v)
theorem add_en : Enters Pr 40 := Enters.of (fn := Go.Proofs.Try.f40) (by kernel_rfl) (by kernel_rfl)
theorem mul_en : Enters Pr 64 := Enters.of (fn := Go.Proofs.Try.f64) (by kernel_rfl) (by kernel_rfl)
theorem div_en : Enters Pr 80 := Enters.of (fn := Go.Proofs.Try.f80) (by kernel_rfl) (by kernel_rfl)
def KF0 : Known := [(36, from_g), (64, mul_g), (80, div_g), (39, sub_g), (40, add_g), (38, less_g)]
theorem KF0_ok : KOk Pr KF0 := KOk.cons from_en (ctU_ok from_fn) (KOk.cons mul_en (ctWW_ok mul_fn) (KOk.cons div_en (ctWW_ok div_fn) (KOk.cons sub_en (ctWW_ok sub_fn) (KOk.cons add_en (ctWW_ok add_fn) (KOk.cons less_en (ctWW_ok less_fn) KOk.nil)))))
def OF0 : Orc := auto Pr ext KF0 [] 3
theorem OF0_sound : OrcSound Pr OF0 := auto_sound mixed ext_ok KF0_ok (by kernel_rfl) 3
def stepW (b : W4) (far t : BitVec 64) : W4 := divQ (divQ (W4.mul b (W4.small far)) (W4.small t)) (W4.small 8)
theorem step_x (b : W4) (far t : BitVec 64) : execFD Pr OF0 noLoops [] 100 Go.Proofs.Try.f79 [.u64 far, .ptr 0 0, .ptr 1 0] [.b64 (wl b), .b64 [t]] = some (true, .ret (stepW b far t).v, [.b64 (wl b), .b64 [t]]) := by kernel_rfl
theorem step_fn (b : W4) (far t : BitVec 64) : LFn Pr 79 [.u64 far, .ptr 0 0, .ptr 1 0] [.b64 (wl b), .b64 [t]] (.ret (stepW b far t).v) [.b64 (wl b), .b64 [t]] :=
  execFD_sound (fn := Go.Proofs.Try.f79) OF0_sound mixed (by kernel_rfl) (fun _ _ _ _ => LoopOk.none) (step_x b far t)
structure ST where
  far : BitVec 64
  b : W4
  t : BitVec 64
def readST : List V → Heap → Option ST := fun args h => match args, h with
  | [.u64 far, .ptr 0 0, .ptr 1 0], [.b64 [a, b, c, d], .b64 [t]] => some ⟨far, ⟨a, b, c, d⟩, t⟩
  | _, _ => none
def step_g := ct readST always (fun a => .ret (stepW a.b a.far a.t).v) (fun a => [.b64 [a.b.a, a.b.b, a.b.c, a.b.d], .b64 [a.t]])
theorem step_ok : ∀ args h fin h', step_g args h = some (true, fin, h') → LFn Pr 79 args h fin h' := by
  refine ct_ok (fun a => [.u64 a.far, .ptr 0 0, .ptr 1 0]) (fun a => [.b64 (wl a.b), .b64 [a.t]]) ?_ (fun a _ => step_fn a.b a.far a.t)
  intro args h a e
  unfold readST at e
  split at e <;> cases e
  exact ⟨rfl, rfl⟩
theorem step_ro : ∀ args h r, step_g args h = some r → r.2.2 = h := by
  intro args h r e
  unfold step_g ct at e
  split at e <;> cases e
  rename_i a ha
  unfold readST at ha
  split at ha <;> cases ha
  rfl
theorem step_en : Enters Pr 79 := Enters.of (fn := Go.Proofs.Try.f79) (by kernel_rfl) (by kernel_rfl)
end
end Go.Proofs.Ytajbaocfdlopbaa.K
end
section
open Go Go.Lh
namespace Go.Proofs.Ytajbaocfdlopbaa.K
noncomputable section
set_option maxRecDepth 100000
def KF1 : Known := (79, step_g) :: KF0
theorem KF1_ok : KOk Pr KF1 := KOk.cons step_en step_ok KF0_ok
def OF1 : Orc := withRo (auto Pr ext KF1 [] 3) [79] (by
  intro f hf args h r e
  have : f = 79 := by
    simp only [memN] at hf
    by_cases e : Nat.beq 79 f = true
    · exact (Nat.eq_of_beq_eq_true e).symm
    · rw [if_neg e] at hf; cases hf
  subst this
  exact step_ro args h r e)
theorem OF1_sound : OrcSound Pr OF1 := withRo_sound (auto_sound mixed ext_ok KF1_ok (by kernel_rfl) 3)
def fl (r : Option (Bool × Fin × Heap)) : Option Bool := match r with | some (k, _, _) => some k | none => none
theorem next_a (b : W4) (u l : BitVec 64) : execFD Pr (withAsm OF1 [(12,true)]) noLoops [] 100 Go.Proofs.Try.f37 [b.v, .u64 u, .u64 l] [] =
  some (l / BitVec.ofInt 64 2 == BitVec.ofInt 64 0 && true && true && true, .ret (b).v, []) := by kernel_rfl
theorem next_b (b : W4) (u l : BitVec 64) : execFD Pr (withAsm OF1 [(12,false),(15,true)]) noLoops [] 100 Go.Proofs.Try.f37 [b.v, .u64 u, .u64 l] [] =
  some (!l / BitVec.ofInt 64 2 == BitVec.ofInt 64 0 && (u == l / BitVec.ofInt 64 2 && true) && true && true, .ret (b).v, []) := by kernel_rfl
theorem next_d (b : W4) (u l : BitVec 64) : execFD Pr (withAsm OF1 [(12,false),(15,false),(21,false),(36,true)]) noLoops [] 100 Go.Proofs.Try.f37 [b.v, .u64 u, .u64 l] [] =
  some (!l / BitVec.ofInt 64 2 == BitVec.ofInt 64 0 && (!u == l / BitVec.ofInt 64 2 && true) && true && (!decide (u < l / BitVec.ofInt 64 2) && true && true && (always (ST.mk (u - l / BitVec.ofInt 64 2) b (l / BitVec.ofInt 64 2)) && true && (((stepW b (u - l / BitVec.ofInt 64 2) (l / BitVec.ofInt 64 2)).a == BitVec.ofInt 64 0 && ((stepW b (u - l / BitVec.ofInt 64 2) (l / BitVec.ofInt 64 2)).b == BitVec.ofInt 64 0 && ((stepW b (u - l / BitVec.ofInt 64 2) (l / BitVec.ofInt 64 2)).c == BitVec.ofInt 64 0 && ((stepW b (u - l / BitVec.ofInt 64 2) (l / BitVec.ofInt 64 2)).d == BitVec.ofInt 64 0 && true)))) && true && true && (always (WW.mk b (W4.mk (stepW b (u - l / BitVec.ofInt 64 2) (l / BitVec.ofInt 64 2)).a (stepW b (u - l / BitVec.ofInt 64 2) (l / BitVec.ofInt 64 2)).b (stepW b (u - l / BitVec.ofInt 64 2) (l / BitVec.ofInt 64 2)).c (BitVec.ofInt 64 1))) && true && true)))) && true, .ret (W4.add b (W4.mk (stepW b (u - l / BitVec.ofInt 64 2) (l / BitVec.ofInt 64 2)).a (stepW b (u - l / BitVec.ofInt 64 2) (l / BitVec.ofInt 64 2)).b (stepW b (u - l / BitVec.ofInt 64 2) (l / BitVec.ofInt 64 2)).c (BitVec.ofInt 64 1))).v, []) := by kernel_rfl
theorem next_e (b : W4) (u l : BitVec 64) : execFD Pr (withAsm OF1 [(12,false),(15,false),(21,false),(36,false)]) noLoops [] 100 Go.Proofs.Try.f37 [b.v, .u64 u, .u64 l] [] =
  some (!l / BitVec.ofInt 64 2 == BitVec.ofInt 64 0 && (!u == l / BitVec.ofInt 64 2 && true) && true && (!decide (u < l / BitVec.ofInt 64 2) && true && true && (always (ST.mk (u - l / BitVec.ofInt 64 2) b (l / BitVec.ofInt 64 2)) && true && (!((stepW b (u - l / BitVec.ofInt 64 2) (l / BitVec.ofInt 64 2)).a == BitVec.ofInt 64 0 && ((stepW b (u - l / BitVec.ofInt 64 2) (l / BitVec.ofInt 64 2)).b == BitVec.ofInt 64 0 && ((stepW b (u - l / BitVec.ofInt 64 2) (l / BitVec.ofInt 64 2)).c == BitVec.ofInt 64 0 && ((stepW b (u - l / BitVec.ofInt 64 2) (l / BitVec.ofInt 64 2)).d == BitVec.ofInt 64 0 && true)))) && true && true && (always (WW.mk b (stepW b (u - l / BitVec.ofInt 64 2) (l / BitVec.ofInt 64 2))) && true && true)))) && true, .ret (W4.add b (stepW b (u - l / BitVec.ofInt 64 2) (l / BitVec.ofInt 64 2))).v, []) := by kernel_rfl
theorem next_c (b : W4) (u l : BitVec 64) : execFD Pr (withAsm OF1 [(12,false),(15,false),(21,true)]) noLoops [] 100 Go.Proofs.Try.f37 [b.v, .u64 u, .u64 l] [] =
  some (!l / BitVec.ofInt 64 2 == BitVec.ofInt 64 0 && (!u == l / BitVec.ofInt 64 2 && true) && true &&
      (decide (u < l / BitVec.ofInt 64 2) && true && (always (ST.mk (l / BitVec.ofInt 64 2 - u) b (l / BitVec.ofInt 64 2)) &&
       (always (WW.mk b (stepW b (l / BitVec.ofInt 64 2 - u) (l / BitVec.ofInt 64 2))) && true) && true)) && true,
   .ret (W4.sub b (stepW b (l / BitVec.ofInt 64 2 - u) (l / BitVec.ofInt 64 2))).v, []) := by kernel_rfl
def tgt (l : BitVec 64) : BitVec 64 := l / BitVec.ofInt 64 2
def bump (s : W4) : W4 := if s.n = 0 then W4.mk s.a s.b s.c (BitVec.ofInt 64 1) else s
def nextC (b : W4) (u l : BitVec 64) : W4 :=
  if tgt l = 0 then b else if u = tgt l then b else if u < tgt l then W4.sub b (stepW b (tgt l - u) (tgt l)) else W4.add b (bump (stepW b (u - tgt l) (tgt l)))
theorem next_fn (b : W4) (u l : BitVec 64) : LFn Pr 37 [b.v, .u64 u, .u64 l] [] (.ret (nextC b u l).v) [] := by
  have hs : ∀ {asm : List (Nat × Bool)}, OrcSound Pr (withAsm OF1 asm) := fun {_} => withAsm_sound OF1_sound
  by_cases h1 : tgt l = 0
  · refine execFD_sound (fn := Go.Proofs.Try.f37) hs mixed (by kernel_rfl) (fun _ _ _ _ => LoopOk.none) ((next_a b u l).trans (stF ?_ ?_ rfl))
    · unfold tgt at h1; rw [h1]; rfl
    · unfold nextC; rw [if_pos h1]
  · have b1 : (l / BitVec.ofInt 64 2 == BitVec.ofInt 64 0) = false := by rw [beq_eq_false_iff_ne]; exact h1
    by_cases h2 : u = tgt l
    · refine execFD_sound (fn := Go.Proofs.Try.f37) hs mixed (by kernel_rfl) (fun _ _ _ _ => LoopOk.none) ((next_b b u l).trans (stF ?_ ?_ rfl))
      · have b2 : (u == l / BitVec.ofInt 64 2) = true := by rw [beq_iff_eq]; exact h2
        rw [b1, b2]; rfl
      · unfold nextC; rw [if_neg h1, if_pos h2]
    · have b2 : (u == l / BitVec.ofInt 64 2) = false := by rw [beq_eq_false_iff_ne]; exact h2
      by_cases h3 : u < tgt l
      · have b3 : decide (u < l / BitVec.ofInt 64 2) = true := decide_eq_true h3
        refine execFD_sound (fn := Go.Proofs.Try.f37) hs mixed (by kernel_rfl) (fun _ _ _ _ => LoopOk.none) ((next_c b u l).trans (stF ?_ ?_ rfl))
        · rw [b1, b2, b3]; rfl
        · unfold nextC; rw [if_neg h1, if_neg h2, if_pos h3]; rfl
      · have b3 : decide (u < l / BitVec.ofInt 64 2) = false := decide_eq_false h3
        by_cases h4 : (stepW b (u - tgt l) (tgt l)).n = 0
        · refine execFD_sound (fn := Go.Proofs.Try.f37) hs mixed (by kernel_rfl) (fun _ _ _ _ => LoopOk.none) ((next_d b u l).trans (stF ?_ ?_ rfl))
          · rw [b1, b2, b3, W4.eq_zero, decide_eq_true (show (stepW b (u - l / BitVec.ofInt 64 2) (l / BitVec.ofInt 64 2)).n = 0 from h4)]; rfl
          · unfold nextC bump; rw [if_neg h1, if_neg h2, if_neg h3, if_pos h4]; rfl
        · refine execFD_sound (fn := Go.Proofs.Try.f37) hs mixed (by kernel_rfl) (fun _ _ _ _ => LoopOk.none) ((next_e b u l).trans (stF ?_ ?_ rfl))
          · rw [b1, b2, b3, W4.eq_zero, decide_eq_false (show ¬ (stepW b (u - l / BitVec.ofInt 64 2) (l / BitVec.ofInt 64 2)).n = 0 from h4)]; rfl
          · unfold nextC bump; rw [if_neg h1, if_neg h2, if_neg h3, if_neg h4]; rfl
theorem next_en : Enters Pr 37 := Enters.of (fn := Go.Proofs.Try.f37) (by kernel_rfl) (by kernel_rfl)
end
end Go.Proofs.Ytajbaocfdlopbaa.K
end
section
open Go Go.Lh
namespace Go.Proofs.Ytajbaocfdlopbaa.K
noncomputable section
set_option maxRecDepth 100000
def readWUU : List V → Heap → Option (W4 × BitVec 64 × BitVec 64) := fun args h => match args, h with
  | [.agg [.u64 a, .u64 b, .u64 c, .u64 d], .u64 u, .u64 l], [] => some (⟨a, b, c, d⟩, u, l)
  | _, _ => none
def next_g := ct readWUU always (fun a => .ret (nextC a.1 a.2.1 a.2.2).v) noHeap
theorem next_ok : ∀ args h fin h', next_g args h = some (true, fin, h') → LFn Pr 37 args h fin h' := by
  refine ct_ok (fun a => [a.1.v, .u64 a.2.1, .u64 a.2.2]) (fun _ => []) ?_ (fun a _ => next_fn a.1 a.2.1 a.2.2)
  intro args h a e
  unfold readWUU at e
  split at e <;> cases e
  exact ⟨rfl, rfl⟩
def KF2 : Known := (37, next_g) :: KF0
theorem KF2_ok : KOk Pr KF2 := KOk.cons next_en next_ok KF0_ok
def OF2 : Orc := auto Pr ext KF2 [41, 85] 4
theorem OF2_sound : OrcSound Pr OF2 := auto_sound mixed ext_ok KF2_ok (by kernel_rfl) 4
theorem ex_x : execFD Pr OF2 noLoops [] 100 Go.Proofs.Try.f35 [] [] = some (true, .ret (.bool true), []) := by kernel_rfl
theorem feeEx_fn : LFn Pr 35 [] [] (.ret (.bool true)) [] :=
  execFD_sound (fn := Go.Proofs.Try.f35) OF2_sound mixed (by kernel_rfl) (fun _ _ _ _ => LoopOk.none) ex_x
end
end Go.Proofs.Ytajbaocfdlopbaa.K
end
section
open Go Go.Lh
namespace Go.Proofs.Ytajbaocfdlopbaa.K
noncomputable section
set_option maxRecDepth 100000
def ex_g : List V → Heap → Option (Bool × Fin × Heap) := fun args h => match args, h with
  | [], [] => some (true, .ret (.bool true), [])
  | _, _ => none
theorem ex_ok : ∀ args h fin h', ex_g args h = some (true, fin, h') → LFn Pr 35 args h fin h' := by
  intro args h fin h' e
  unfold ex_g at e
  split at e <;> cases e
  exact feeEx_fn
theorem ex_en : Enters Pr 35 := Enters.of (fn := Go.Proofs.Try.f35) (by kernel_rfl) (by kernel_rfl)
def KF3 : Known := (35, ex_g) :: KF2
theorem KF3_ok : KOk Pr KF3 := KOk.cons ex_en ex_ok KF2_ok
def OF3 : Orc := auto Pr ext KF3 [85] 4
theorem OF3_sound : OrcSound Pr OF3 := auto_sound mixed ext_ok KF3_ok (by kernel_rfl) 4
end
end Go.Proofs.Ytajbaocfdlopbaa.K
end
section
open Go Go.Lh
namespace Go.Proofs.Ytajbaocfdlopbaa.K
noncomputable section
set_option maxRecDepth 100000
def OF4 : Orc := auto Pr ext KF0 [] 3
theorem OF4_sound : OrcSound Pr OF4 := auto_sound mixed ext_ok KF0_ok (by kernel_rfl) 3
def lesserC (a b : W4) : W4 := if W4.lt b a = true then b else a
theorem les_y (a b : W4) : execFD Pr OF4 noLoops [(7,true)] 100 Go.Proofs.Try.f85 [a.v, b.v] [] = some (always (WW.mk b a) && true && (W4.lt b a && true) && true, .ret b.v, []) := by kernel_rfl
theorem les_n (a b : W4) : execFD Pr OF4 noLoops [(7,false)] 100 Go.Proofs.Try.f85 [a.v, b.v] [] = some (always (WW.mk b a) && true && (!W4.lt b a && true) && true && true, .ret a.v, []) := by kernel_rfl
theorem lesser_fn (a b : W4) : LFn Pr 85 [a.v, b.v] [] (.ret (lesserC a b).v) [] := by
  by_cases h : W4.lt b a = true
  · refine execFD_sound (fn := Go.Proofs.Try.f85) OF4_sound mixed (by kernel_rfl) (fun _ _ _ _ => LoopOk.none) ((les_y a b).trans (stF ?_ ?_ rfl))
    · rw [h]; rfl
    · unfold lesserC; rw [if_pos h]
  · refine execFD_sound (fn := Go.Proofs.Try.f85) OF4_sound mixed (by kernel_rfl) (fun _ _ _ _ => LoopOk.none) ((les_n a b).trans (stF ?_ ?_ rfl))
    · rw [Bool.eq_false_iff.2 h]; rfl
    · unfold lesserC; rw [if_neg h]
def lesser_g := ctWW (fun a b => (lesserC a b).v)
theorem lesser_en : Enters Pr 85 := Enters.of (fn := Go.Proofs.Try.f85) (by kernel_rfl) (by kernel_rfl)
end
end Go.Proofs.Ytajbaocfdlopbaa.K
end
section
open Go Go.Lh
namespace Go.Proofs.Ytajbaocfdlopbaa.K
noncomputable section
set_option maxRecDepth 100000
structure TX where
  k : Int
  s1 : List (BitVec 8)
  s2 : List (BitVec 8)
  n : BitVec 64
  g : BitVec 64
  p : W4
  t : W4
  v : W4
  d : List (BitVec 8)
  a : V
def TX.val (x : TX) : V := .agg [.int .i64 x.k, .str x.s1, .str x.s2, .u64 x.n, .u64 x.g, .u64 x.p.a, .u64 x.p.b, .u64 x.p.c, .u64 x.p.d, .u64 x.t.a, .u64 x.t.b, .u64 x.t.c, .u64 x.t.d, .u64 x.v.a, .u64 x.v.b, .u64 x.v.c, .u64 x.v.d, .str x.d, x.a]
theorem lesser_ok : ∀ args h fin h', lesser_g args h = some (true, fin, h') → LFn Pr 85 args h fin h' := ctWW_ok lesser_fn
def KF5 : Known := (85, lesser_g) :: KF0
theorem KF5_ok : KOk Pr KF5 := KOk.cons lesser_en lesser_ok KF0_ok
def OF5 : Orc := auto Pr ext KF5 [] 3
theorem OF5_sound : OrcSound Pr OF5 := auto_sound mixed ext_ok KF5_ok (by kernel_rfl) 3
theorem pr_a (x : TX) (b : W4) : execFD Pr (withAsm OF5 [(9,true),(14,true)]) noLoops [(24,true)] 100 Go.Proofs.Try.f41 [x.val, b.v] [] = some (x.k == (2 : Int) && true && (always (WW.mk x.p b) && (x.p.lt b && true) && true) && true, .ret (.tup [W4.zero.v, W4.zero.v, .int .i64 17]), []) := by kernel_rfl
theorem pr_b (x : TX) (b : W4) : execFD Pr (withAsm OF5 [(9,false),(14,true)]) noLoops [(24,true)] 100 Go.Proofs.Try.f41 [x.val, b.v] [] = some (!x.k == (2 : Int) && true && (always (WW.mk x.p b) && (x.p.lt b && true) && true) && true, .ret (.tup [W4.zero.v, W4.zero.v, .int .i64 17]), []) := by kernel_rfl
theorem pr_c (x : TX) (b : W4) : execFD Pr (withAsm OF5 [(9,false),(14,false)]) noLoops [(24,false)] 100 Go.Proofs.Try.f41 [x.val, b.v] [] = some (!x.k == (2 : Int) && true && (always (WW.mk x.p b) && (!x.p.lt b && true) && true && (always (WW.mk x.p b) && true && (always (WW.mk b (x.p.sub b)) && true && true))) && true, .ret (.tup [(W4.add b (W4.sub x.p b)).v, (W4.sub x.p b).v, .int .i64 0]), []) := by kernel_rfl
theorem pr_d (x : TX) (b : W4) : execFD Pr (withAsm OF5 [(9,true),(14,false)]) noLoops [(24,true)] 100 Go.Proofs.Try.f41 [x.val, b.v] [] = some (x.k == (2 : Int) && true && (always (WW.mk x.p b) && (!x.p.lt b && (always (WW.mk x.p x.t) && true)) && ((bif false then true else bif true then x.p.lt x.t else false) && true)) && true, .ret (.tup [W4.zero.v, W4.zero.v, .int .i64 17]), []) := by kernel_rfl
theorem pr_e (x : TX) (b : W4) : execFD Pr (withAsm OF5 [(9,true),(14,false)]) noLoops [(24,false)] 100 Go.Proofs.Try.f41 [x.val, b.v] [] = some (x.k == (2 : Int) && true && (always (WW.mk x.p b) && (!x.p.lt b && (always (WW.mk x.p x.t) && true)) && ((!bif false then true else bif true then x.p.lt x.t else false) && true) && (always (WW.mk x.p b) && true && (always (WW.mk (x.p.sub b) x.t) && true && (always (WW.mk b (lesserC (x.p.sub b) x.t)) && true && true)))) && true, .ret (.tup [(W4.add b (lesserC (W4.sub x.p b) x.t)).v, (lesserC (W4.sub x.p b) x.t).v, .int .i64 0]), []) := by kernel_rfl
def tipC (x : TX) (b : W4) : W4 := if x.k = 2 then lesserC (W4.sub x.p b) x.t else W4.sub x.p b
def badC (x : TX) (b : W4) : Bool := x.p.lt b || (decide (x.k = 2) && x.p.lt x.t)
def priceV (x : TX) (b : W4) : V := if badC x b = true then .tup [W4.zero.v, W4.zero.v, .int .i64 17] else .tup [(W4.add b (tipC x b)).v, (tipC x b).v, .int .i64 0]
theorem price_fn (x : TX) (b : W4) : LFn Pr 41 [x.val, b.v] [] (.ret (priceV x b)) [] := by
  have hs : ∀ {asm : List (Nat × Bool)}, OrcSound Pr (withAsm OF5 asm) := fun {_} => withAsm_sound OF5_sound
  by_cases h1 : x.p.lt b = true
  · by_cases h2 : x.k = 2
    · refine execFD_sound (fn := Go.Proofs.Try.f41) hs mixed (by kernel_rfl) (fun _ _ _ _ => LoopOk.none) ((pr_a x b).trans (stF ?_ ?_ rfl))
      · rw [h1, beq_iff_eq.2 h2]; rfl
      · unfold priceV badC; rw [h1]; rfl
    · refine execFD_sound (fn := Go.Proofs.Try.f41) hs mixed (by kernel_rfl) (fun _ _ _ _ => LoopOk.none) ((pr_b x b).trans (stF ?_ ?_ rfl))
      · rw [h1, beq_eq_false_iff_ne.2 h2]; rfl
      · unfold priceV badC; rw [h1]; rfl
  · have h1 := Bool.eq_false_iff.2 h1
    by_cases h2 : x.k = 2
    · by_cases h3 : x.p.lt x.t = true
      · refine execFD_sound (fn := Go.Proofs.Try.f41) hs mixed (by kernel_rfl) (fun _ _ _ _ => LoopOk.none) ((pr_d x b).trans (stF ?_ ?_ rfl))
        · rw [h1, h3, beq_iff_eq.2 h2]; rfl
        · unfold priceV badC; rw [h1, h3, decide_eq_true h2]; rfl
      · have h3 := Bool.eq_false_iff.2 h3
        refine execFD_sound (fn := Go.Proofs.Try.f41) hs mixed (by kernel_rfl) (fun _ _ _ _ => LoopOk.none) ((pr_e x b).trans (stF ?_ ?_ rfl))
        · rw [h1, h3, beq_iff_eq.2 h2]; rfl
        · unfold priceV badC tipC; rw [h1, h3, if_pos h2, decide_eq_true h2]; rfl
    · refine execFD_sound (fn := Go.Proofs.Try.f41) hs mixed (by kernel_rfl) (fun _ _ _ _ => LoopOk.none) ((pr_c x b).trans (stF ?_ ?_ rfl))
      · rw [h1, beq_eq_false_iff_ne.2 h2]; rfl
      · unfold priceV badC tipC; rw [h1, if_neg h2, decide_eq_false h2]; rfl
theorem price_en : Enters Pr 41 := Enters.of (fn := Go.Proofs.Try.f41) (by kernel_rfl) (by kernel_rfl)
end
end Go.Proofs.Ytajbaocfdlopbaa.K
end
section
open Go Go.Lh
namespace Go.Proofs.Ytajbaocfdlopbaa.K
noncomputable section
set_option maxRecDepth 100000
structure TB where
  x : TX
  b : W4
def readTB : List V → Heap → Option TB := fun args h => match args, h with
  | [.agg [.int .i64 k, .str s1, .str s2, .u64 n, .u64 g, .u64 pa, .u64 pb, .u64 pc, .u64 pd, .u64 ta, .u64 tb, .u64 tc, .u64 td, .u64 va, .u64 vb, .u64 vc, .u64 vd, .str d, a], .agg [.u64 ba, .u64 bb, .u64 bc, .u64 bd]], [] =>
    some ⟨⟨k, s1, s2, n, g, ⟨pa, pb, pc, pd⟩, ⟨ta, tb, tc, td⟩, ⟨va, vb, vc, vd⟩, d, a⟩, ⟨ba, bb, bc, bd⟩⟩
  | _, _ => none
def price_E (a : TB) : Tr (Fin × Heap) := .br (badC a.x a.b) (.leaf (.ret (.tup [W4.zero.v, W4.zero.v, .int .i64 17]), [])) (.leaf (.ret (.tup [(W4.add a.b (tipC a.x a.b)).v, (tipC a.x a.b).v, .int .i64 0]), []))
def price_g := ctT readTB price_E
theorem price_ok : ∀ args h r, (price_g args h).is r → LFn Pr 41 args h r.1 r.2 := by
  refine ctT_ok (fun a => [a.x.val, a.b.v]) (fun _ => []) ?_ (fun a r ha => ?_)
  · intro args h a e
    unfold readTB at e
    split at e <;> cases e
    exact ⟨rfl, rfl⟩
  · have := price_fn a.x a.b
    unfold priceV at this
    rw [price_E, Tr.is_br] at ha
    split at ha <;> rename_i hb <;> rw [Tr.is_leaf] at ha <;> subst ha
    · rw [if_pos hb] at this; exact this
    · rw [if_neg hb] at this; exact this
def KT0 : KnownT := [(36, old from_g), (64, old mul_g), (80, old div_g), (39, old sub_g), (40, old add_g), (38, old less_g)]
theorem KT0_ok : KOkT Pr KT0 := KOkT.cons from_en (old_ok (ctU_ok from_fn)) (KOkT.cons mul_en (old_ok (ctWW_ok mul_fn)) (KOkT.cons div_en (old_ok (ctWW_ok div_fn)) (KOkT.cons sub_en (old_ok (ctWW_ok sub_fn)) (KOkT.cons add_en (old_ok (ctWW_ok add_fn)) (KOkT.cons less_en (old_ok (ctWW_ok less_fn)) KOkT.nil)))))
def KT6 : KnownT := (41, price_g) :: (35, old ex_g) :: KT0
theorem KT6_ok : KOkT Pr KT6 := KOkT.cons price_en price_ok (KOkT.cons ex_en (old_ok ex_ok) KT0_ok)
def OT6 : OrcT := autoT Pr ext KT6 [] 3
theorem OT6_sound : OrcSound Pr OT6.o := autoT_sound mixed ext_ok KT6_ok rfl 3
def txF (k : Int) (p q : W4) : TX := ⟨k, bytesOf (ByteArray.mk #[]), bytesOf (ByteArray.mk #[]), BitVec.ofInt 64 0, BitVec.ofInt 64 0, p, q, ⟨BitVec.ofInt 64 0, BitVec.ofInt 64 0, BitVec.ofInt 64 0, BitVec.ofInt 64 0⟩, bytesOf (ByteArray.mk #[]), .nilSl⟩
theorem fp_t (p : W4) (q : W4) (b : W4) : Tr.prune (((Tr.Sh.any.l.l.l.l.l.l.l.l.l.l.l.both
          (Tr.Sh.any.l.l.l.l.l.l.l.l.both Tr.Sh.any.r.r.r.r.r.r.r.r.r.r.r.r.r.r.r.r.l.l).r.l.l.l.r).both
      (Tr.Sh.any.r.r.r.r.r.r.l.l.l.l.l.both
        (Tr.Sh.any.r.r.r.r.r.r.l.l.both
                    ((Tr.Sh.any.l.r.r.r.r.l.l.l.l.l.l.l.l.both Tr.Sh.any.r.r.r.r.r.r).l.l.l.l.both
                                  Tr.Sh.any.r.r.r.r.r.r.r.r.r.r.r).l.l.l.l.l.l).r.l.l.l.r)).l.r)
  (execBF Pr OT6 noLoopsT (100 : Nat) Go.Proofs.Try.f9 [V.bool true, p.v, q.v, b.v] []) =
  Tr.chk true
  (Tr.br (badC (txF (2 : Int) p q) b)
    (Tr.chk true
      (Tr.br (p.lt b) (Tr.chk true (Tr.leaf (Fin.ret (V.bool true), [])))
        (Tr.chk true
          (Tr.br (p.lt q) (Tr.chk true (Tr.leaf (Fin.ret (V.bool true), [])))
            (Tr.chk true (Tr.leaf (Fin.ret (V.bool false), [])))))))
    (Tr.chk true
      (Tr.br (p.lt b) (Tr.chk true (Tr.leaf (Fin.ret (V.bool false), [])))
        (Tr.chk true
          (Tr.br (p.lt q) (Tr.chk true (Tr.leaf (Fin.ret (V.bool false), [])))
            (Tr.chk true
              (Tr.br (!p.lt (b.add (tipC (txF (2 : Int) p q) b)))
                (Tr.chk true
                  (Tr.br
                    (((b.add (tipC (txF (2 : Int) p q) b)).sub (tipC (txF (2 : Int) p q) b)).a == b.a &&
                      (((b.add (tipC (txF (2 : Int) p q) b)).sub (tipC (txF (2 : Int) p q) b)).b == b.b &&
                        (((b.add (tipC (txF (2 : Int) p q) b)).sub (tipC (txF (2 : Int) p q) b)).c == b.c &&
                          (((b.add (tipC (txF (2 : Int) p q) b)).sub (tipC (txF (2 : Int) p q) b)).d == b.d && true))))
                    (Tr.chk true (Tr.leaf (Fin.ret (V.bool !q.lt (tipC (txF (2 : Int) p q) b)), [])))
                    (Tr.chk true (Tr.leaf (Fin.ret (V.bool false), [])))))
                (Tr.chk true (Tr.leaf (Fin.ret (V.bool false), [])))))))))) := by kernel_rfl
theorem fp_f (p : W4) (q : W4) (b : W4) : Tr.prune (((Tr.Sh.any.l.l.l.l.l.l.l.l.l.l.l.both
          Tr.Sh.any.r.r.r.r.r.r.r.r.r.r.r.r.r.r.r.r.l.l.r.r.r.r.r.r).both
      (Tr.Sh.any.r.r.r.r.r.r.l.l.l.l.l.both
        (((Tr.Sh.any.l.l.l.l.l.l.l.both Tr.Sh.any.r.r.r).l.r.r.r.l.both Tr.Sh.any.r.r.r.r.r.r).l.l.l.l.both
                                  Tr.Sh.any.r.r.r.r.r.r.r.r.r.r.r).l.l.l.l.l.l.r.r.r.r.r.r)).r.r)
  (execBF Pr OT6 noLoopsT (100 : Nat) Go.Proofs.Try.f9 [V.bool false, p.v, q.v, b.v] []) =
  Tr.chk true
  (Tr.br
    (badC
      (TX.mk (0 : Int) (bytesOf (ByteArray.mk #[])) (bytesOf (ByteArray.mk #[])) (BitVec.ofInt (64 : Nat) (0 : Int))
        (BitVec.ofInt (64 : Nat) (0 : Int)) p
        (W4.mk (BitVec.ofInt (64 : Nat) (0 : Int)) (BitVec.ofInt (64 : Nat) (0 : Int))
          (BitVec.ofInt (64 : Nat) (0 : Int)) (BitVec.ofInt (64 : Nat) (0 : Int)))
        (W4.mk (BitVec.ofInt (64 : Nat) (0 : Int)) (BitVec.ofInt (64 : Nat) (0 : Int))
          (BitVec.ofInt (64 : Nat) (0 : Int)) (BitVec.ofInt (64 : Nat) (0 : Int)))
        (bytesOf (ByteArray.mk #[])) V.nilSl)
      b)
    (Tr.chk true
      (Tr.br (p.lt b) (Tr.chk true (Tr.leaf (Fin.ret (V.bool true), [])))
        (Tr.chk true (Tr.leaf (Fin.ret (V.bool false), [])))))
    (Tr.chk true
      (Tr.br (p.lt b) (Tr.chk true (Tr.leaf (Fin.ret (V.bool false), [])))
        (Tr.chk true
          (Tr.br
            (!p.lt
                (b.add
                  (tipC
                    (TX.mk (0 : Int) (bytesOf (ByteArray.mk #[])) (bytesOf (ByteArray.mk #[]))
                      (BitVec.ofInt (64 : Nat) (0 : Int)) (BitVec.ofInt (64 : Nat) (0 : Int)) p
                      (W4.mk (BitVec.ofInt (64 : Nat) (0 : Int)) (BitVec.ofInt (64 : Nat) (0 : Int))
                        (BitVec.ofInt (64 : Nat) (0 : Int)) (BitVec.ofInt (64 : Nat) (0 : Int)))
                      (W4.mk (BitVec.ofInt (64 : Nat) (0 : Int)) (BitVec.ofInt (64 : Nat) (0 : Int))
                        (BitVec.ofInt (64 : Nat) (0 : Int)) (BitVec.ofInt (64 : Nat) (0 : Int)))
                      (bytesOf (ByteArray.mk #[])) V.nilSl)
                    b)))
            (Tr.chk true
              (Tr.br
                (((b.add
                            (tipC
                              (TX.mk (0 : Int) (bytesOf (ByteArray.mk #[])) (bytesOf (ByteArray.mk #[]))
                                (BitVec.ofInt (64 : Nat) (0 : Int)) (BitVec.ofInt (64 : Nat) (0 : Int)) p
                                (W4.mk (BitVec.ofInt (64 : Nat) (0 : Int)) (BitVec.ofInt (64 : Nat) (0 : Int))
                                  (BitVec.ofInt (64 : Nat) (0 : Int)) (BitVec.ofInt (64 : Nat) (0 : Int)))
                                (W4.mk (BitVec.ofInt (64 : Nat) (0 : Int)) (BitVec.ofInt (64 : Nat) (0 : Int))
                                  (BitVec.ofInt (64 : Nat) (0 : Int)) (BitVec.ofInt (64 : Nat) (0 : Int)))
                                (bytesOf (ByteArray.mk #[])) V.nilSl)
                              b)).sub
                        (tipC
                          (TX.mk (0 : Int) (bytesOf (ByteArray.mk #[])) (bytesOf (ByteArray.mk #[]))
                            (BitVec.ofInt (64 : Nat) (0 : Int)) (BitVec.ofInt (64 : Nat) (0 : Int)) p
                            (W4.mk (BitVec.ofInt (64 : Nat) (0 : Int)) (BitVec.ofInt (64 : Nat) (0 : Int))
                              (BitVec.ofInt (64 : Nat) (0 : Int)) (BitVec.ofInt (64 : Nat) (0 : Int)))
                            (W4.mk (BitVec.ofInt (64 : Nat) (0 : Int)) (BitVec.ofInt (64 : Nat) (0 : Int))
                              (BitVec.ofInt (64 : Nat) (0 : Int)) (BitVec.ofInt (64 : Nat) (0 : Int)))
                            (bytesOf (ByteArray.mk #[])) V.nilSl)
                          b)).a ==
                    b.a &&
                  (((b.add
                              (tipC
                                (TX.mk (0 : Int) (bytesOf (ByteArray.mk #[])) (bytesOf (ByteArray.mk #[]))
                                  (BitVec.ofInt (64 : Nat) (0 : Int)) (BitVec.ofInt (64 : Nat) (0 : Int)) p
                                  (W4.mk (BitVec.ofInt (64 : Nat) (0 : Int)) (BitVec.ofInt (64 : Nat) (0 : Int))
                                    (BitVec.ofInt (64 : Nat) (0 : Int)) (BitVec.ofInt (64 : Nat) (0 : Int)))
                                  (W4.mk (BitVec.ofInt (64 : Nat) (0 : Int)) (BitVec.ofInt (64 : Nat) (0 : Int))
                                    (BitVec.ofInt (64 : Nat) (0 : Int)) (BitVec.ofInt (64 : Nat) (0 : Int)))
                                  (bytesOf (ByteArray.mk #[])) V.nilSl)
                                b)).sub
                          (tipC
                            (TX.mk (0 : Int) (bytesOf (ByteArray.mk #[])) (bytesOf (ByteArray.mk #[]))
                              (BitVec.ofInt (64 : Nat) (0 : Int)) (BitVec.ofInt (64 : Nat) (0 : Int)) p
                              (W4.mk (BitVec.ofInt (64 : Nat) (0 : Int)) (BitVec.ofInt (64 : Nat) (0 : Int))
                                (BitVec.ofInt (64 : Nat) (0 : Int)) (BitVec.ofInt (64 : Nat) (0 : Int)))
                              (W4.mk (BitVec.ofInt (64 : Nat) (0 : Int)) (BitVec.ofInt (64 : Nat) (0 : Int))
                                (BitVec.ofInt (64 : Nat) (0 : Int)) (BitVec.ofInt (64 : Nat) (0 : Int)))
                              (bytesOf (ByteArray.mk #[])) V.nilSl)
                            b)).b ==
                      b.b &&
                    (((b.add
                                (tipC
                                  (TX.mk (0 : Int) (bytesOf (ByteArray.mk #[])) (bytesOf (ByteArray.mk #[]))
                                    (BitVec.ofInt (64 : Nat) (0 : Int)) (BitVec.ofInt (64 : Nat) (0 : Int)) p
                                    (W4.mk (BitVec.ofInt (64 : Nat) (0 : Int)) (BitVec.ofInt (64 : Nat) (0 : Int))
                                      (BitVec.ofInt (64 : Nat) (0 : Int)) (BitVec.ofInt (64 : Nat) (0 : Int)))
                                    (W4.mk (BitVec.ofInt (64 : Nat) (0 : Int)) (BitVec.ofInt (64 : Nat) (0 : Int))
                                      (BitVec.ofInt (64 : Nat) (0 : Int)) (BitVec.ofInt (64 : Nat) (0 : Int)))
                                    (bytesOf (ByteArray.mk #[])) V.nilSl)
                                  b)).sub
                            (tipC
                              (TX.mk (0 : Int) (bytesOf (ByteArray.mk #[])) (bytesOf (ByteArray.mk #[]))
                                (BitVec.ofInt (64 : Nat) (0 : Int)) (BitVec.ofInt (64 : Nat) (0 : Int)) p
                                (W4.mk (BitVec.ofInt (64 : Nat) (0 : Int)) (BitVec.ofInt (64 : Nat) (0 : Int))
                                  (BitVec.ofInt (64 : Nat) (0 : Int)) (BitVec.ofInt (64 : Nat) (0 : Int)))
                                (W4.mk (BitVec.ofInt (64 : Nat) (0 : Int)) (BitVec.ofInt (64 : Nat) (0 : Int))
                                  (BitVec.ofInt (64 : Nat) (0 : Int)) (BitVec.ofInt (64 : Nat) (0 : Int)))
                                (bytesOf (ByteArray.mk #[])) V.nilSl)
                              b)).c ==
                        b.c &&
                      (((b.add
                                  (tipC
                                    (TX.mk (0 : Int) (bytesOf (ByteArray.mk #[])) (bytesOf (ByteArray.mk #[]))
                                      (BitVec.ofInt (64 : Nat) (0 : Int)) (BitVec.ofInt (64 : Nat) (0 : Int)) p
                                      (W4.mk (BitVec.ofInt (64 : Nat) (0 : Int)) (BitVec.ofInt (64 : Nat) (0 : Int))
                                        (BitVec.ofInt (64 : Nat) (0 : Int)) (BitVec.ofInt (64 : Nat) (0 : Int)))
                                      (W4.mk (BitVec.ofInt (64 : Nat) (0 : Int)) (BitVec.ofInt (64 : Nat) (0 : Int))
                                        (BitVec.ofInt (64 : Nat) (0 : Int)) (BitVec.ofInt (64 : Nat) (0 : Int)))
                                      (bytesOf (ByteArray.mk #[])) V.nilSl)
                                    b)).sub
                              (tipC
                                (TX.mk (0 : Int) (bytesOf (ByteArray.mk #[])) (bytesOf (ByteArray.mk #[]))
                                  (BitVec.ofInt (64 : Nat) (0 : Int)) (BitVec.ofInt (64 : Nat) (0 : Int)) p
                                  (W4.mk (BitVec.ofInt (64 : Nat) (0 : Int)) (BitVec.ofInt (64 : Nat) (0 : Int))
                                    (BitVec.ofInt (64 : Nat) (0 : Int)) (BitVec.ofInt (64 : Nat) (0 : Int)))
                                  (W4.mk (BitVec.ofInt (64 : Nat) (0 : Int)) (BitVec.ofInt (64 : Nat) (0 : Int))
                                    (BitVec.ofInt (64 : Nat) (0 : Int)) (BitVec.ofInt (64 : Nat) (0 : Int)))
                                  (bytesOf (ByteArray.mk #[])) V.nilSl)
                                b)).d ==
                          b.d &&
                        true))))
                (Tr.chk true
                  (Tr.br
                    ((b.add
                            (tipC
                              (TX.mk (0 : Int) (bytesOf (ByteArray.mk #[])) (bytesOf (ByteArray.mk #[]))
                                (BitVec.ofInt (64 : Nat) (0 : Int)) (BitVec.ofInt (64 : Nat) (0 : Int)) p
                                (W4.mk (BitVec.ofInt (64 : Nat) (0 : Int)) (BitVec.ofInt (64 : Nat) (0 : Int))
                                  (BitVec.ofInt (64 : Nat) (0 : Int)) (BitVec.ofInt (64 : Nat) (0 : Int)))
                                (W4.mk (BitVec.ofInt (64 : Nat) (0 : Int)) (BitVec.ofInt (64 : Nat) (0 : Int))
                                  (BitVec.ofInt (64 : Nat) (0 : Int)) (BitVec.ofInt (64 : Nat) (0 : Int)))
                                (bytesOf (ByteArray.mk #[])) V.nilSl)
                              b)).a ==
                        p.a &&
                      ((b.add
                              (tipC
                                (TX.mk (0 : Int) (bytesOf (ByteArray.mk #[])) (bytesOf (ByteArray.mk #[]))
                                  (BitVec.ofInt (64 : Nat) (0 : Int)) (BitVec.ofInt (64 : Nat) (0 : Int)) p
                                  (W4.mk (BitVec.ofInt (64 : Nat) (0 : Int)) (BitVec.ofInt (64 : Nat) (0 : Int))
                                    (BitVec.ofInt (64 : Nat) (0 : Int)) (BitVec.ofInt (64 : Nat) (0 : Int)))
                                  (W4.mk (BitVec.ofInt (64 : Nat) (0 : Int)) (BitVec.ofInt (64 : Nat) (0 : Int))
                                    (BitVec.ofInt (64 : Nat) (0 : Int)) (BitVec.ofInt (64 : Nat) (0 : Int)))
                                  (bytesOf (ByteArray.mk #[])) V.nilSl)
                                b)).b ==
                          p.b &&
                        ((b.add
                                (tipC
                                  (TX.mk (0 : Int) (bytesOf (ByteArray.mk #[])) (bytesOf (ByteArray.mk #[]))
                                    (BitVec.ofInt (64 : Nat) (0 : Int)) (BitVec.ofInt (64 : Nat) (0 : Int)) p
                                    (W4.mk (BitVec.ofInt (64 : Nat) (0 : Int)) (BitVec.ofInt (64 : Nat) (0 : Int))
                                      (BitVec.ofInt (64 : Nat) (0 : Int)) (BitVec.ofInt (64 : Nat) (0 : Int)))
                                    (W4.mk (BitVec.ofInt (64 : Nat) (0 : Int)) (BitVec.ofInt (64 : Nat) (0 : Int))
                                      (BitVec.ofInt (64 : Nat) (0 : Int)) (BitVec.ofInt (64 : Nat) (0 : Int)))
                                    (bytesOf (ByteArray.mk #[])) V.nilSl)
                                  b)).c ==
                            p.c &&
                          ((b.add
                                  (tipC
                                    (TX.mk (0 : Int) (bytesOf (ByteArray.mk #[])) (bytesOf (ByteArray.mk #[]))
                                      (BitVec.ofInt (64 : Nat) (0 : Int)) (BitVec.ofInt (64 : Nat) (0 : Int)) p
                                      (W4.mk (BitVec.ofInt (64 : Nat) (0 : Int)) (BitVec.ofInt (64 : Nat) (0 : Int))
                                        (BitVec.ofInt (64 : Nat) (0 : Int)) (BitVec.ofInt (64 : Nat) (0 : Int)))
                                      (W4.mk (BitVec.ofInt (64 : Nat) (0 : Int)) (BitVec.ofInt (64 : Nat) (0 : Int))
                                        (BitVec.ofInt (64 : Nat) (0 : Int)) (BitVec.ofInt (64 : Nat) (0 : Int)))
                                      (bytesOf (ByteArray.mk #[])) V.nilSl)
                                    b)).d ==
                              p.d &&
                            true))))
                    (Tr.chk true (Tr.leaf (Fin.ret (V.bool true), [])))
                    (Tr.chk true (Tr.leaf (Fin.ret (V.bool false), [])))))
                (Tr.chk true (Tr.leaf (Fin.ret (V.bool false), [])))))
            (Tr.chk true (Tr.leaf (Fin.ret (V.bool false), [])))))))) := by kernel_rfl
end
end Go.Proofs.Ytajbaocfdlopbaa.K
end
section
open Go Go.Lh
namespace Go.Proofs.Ytajbaocfdlopbaa.K
noncomputable section
set_option maxRecDepth 100000
theorem feePrice_t (p q b : W4) : LFn Pr 9 [.bool true, p.v, q.v, b.v] [] (.ret (.bool true)) [] := by
  refine fnT OT6_sound mixed (by kernel_rfl) LoopsOk.noneT (fp_t p q b) ?_
  simp only [wp_chk_true, wp_leaf, wp_br, ret_bool, badC, tipC, txF, lesserC, W4.eqT, if_true, decide_true, Bool.true_and, Bool.or_eq_true, Bool.or_eq_false_iff, W4.lt_iff, W4.lt_false, Bool.not_eq_true', Bool.not_eq_false', decide_eq_true_eq, decide_eq_false_iff_not, and_true, Bool.false_eq_true, false_and]
  refine ⟨fun h => ⟨fun _ => trivial, fun h1 => ⟨fun _ => trivial, fun h2 => by omega⟩⟩, fun h => ⟨fun h1 => by omega, fun h1 => ⟨fun h2 => by omega, fun h2 => ?_⟩⟩⟩
  have hs := W4.sub_n' h1
  have hp := p.n_lt
  by_cases hq : q.n < (p.sub b).n
  · rw [if_pos hq]
    have ha : (b.add q).n = b.n + q.n := W4.add_n' (by omega)
    have hb : ((b.add q).sub q).n = (b.add q).n - q.n := W4.sub_n' (by omega)
    refine ⟨fun _ => ⟨fun _ => by omega, fun h => by omega⟩, fun h => by omega⟩
  · rw [if_neg hq]
    have ha : (b.add (p.sub b)).n = b.n + (p.sub b).n := W4.add_n' (by omega)
    have hb : ((b.add (p.sub b)).sub (p.sub b)).n = (b.add (p.sub b)).n - (p.sub b).n := W4.sub_n' (by omega)
    refine ⟨fun _ => ⟨fun _ => by omega, fun h => by omega⟩, fun h => by omega⟩
theorem feePrice_f (p q b : W4) : LFn Pr 9 [.bool false, p.v, q.v, b.v] [] (.ret (.bool true)) [] := by
  refine fnT OT6_sound mixed (by kernel_rfl) LoopsOk.noneT (fp_f p q b) ?_
  simp only [wp_chk_true, wp_leaf, wp_br, ret_bool, badC, tipC, txF, lesserC, W4.eqT, show ¬ ((0 : Int) = 2) from by omega, if_false, decide_false, Bool.false_and, Bool.or_false, W4.lt_iff, W4.lt_false, Bool.not_eq_true', Bool.not_eq_false', decide_eq_true_eq, decide_eq_false_iff_not, and_true, Bool.false_eq_true, false_and]
  refine ⟨fun h => ⟨fun _ => trivial, fun h1 => by omega⟩, fun h => ⟨fun h1 => by omega, fun h1 => ?_⟩⟩
  have hs := W4.sub_n' h1
  have hp := p.n_lt
  have ha : (b.add (p.sub b)).n = b.n + (p.sub b).n := W4.add_n' (by omega)
  have hb : ((b.add (p.sub b)).sub (p.sub b)).n = (b.add (p.sub b)).n - (p.sub b).n := W4.sub_n' (by omega)
  refine ⟨fun _ => ⟨fun _ => ⟨fun _ => trivial, fun h => by omega⟩, fun h => by omega⟩, fun h => by omega⟩
theorem feePrice_fn (two : Bool) (p q b : W4) : LFn Pr 9 [.bool two, p.v, q.v, b.v] [] (.ret (.bool true)) [] := by
  cases two with
  | true => exact feePrice_t p q b
  | false => exact feePrice_f p q b
end
end Go.Proofs.Ytajbaocfdlopbaa.K
end
section
open Go Go.Lh
namespace Go.Proofs.Ytajbaocfdlopbaa.K
noncomputable section
set_option maxRecDepth 100000
def KT8 : KnownT := (37, old next_g) :: KT6
theorem KT8_ok : KOkT Pr KT8 := KOkT.cons next_en (old_ok next_ok) KT6_ok
def OT8 : OrcT := autoT Pr ext KT8 [] 3
theorem OT8_sound : OrcSound Pr OT8.o := autoT_sound mixed ext_ok KT8_ok rfl 3
def limN (l : BitVec 32) : BitVec 64 := BitVec.ofInt 64 2 + BitVec.setWidth 64 l % BitVec.ofInt 64 30000000
def useN (l u : BitVec 32) : BitVec 64 := BitVec.setWidth 64 u % (limN l + BitVec.ofInt 64 1)
theorem fn_x (b : BitVec 64) (l : BitVec 32) (u : BitVec 32) : Tr.prune ((Tr.Sh.any.l.l.l.both
    ((Tr.Sh.any.l.l.l.l.l.both Tr.Sh.any.r.r.r.r.r).l.l.l.l.both (Tr.Sh.any.l.l.l.both Tr.Sh.any.r.r.r).l.l.l)).r)
  (execBF Pr OT8 noLoopsT (100 : Nat) Go.Proofs.Try.f8 [V.u64 b, V.u32 l, V.u32 u] []) =
  Tr.chk (!limN l + BitVec.ofInt (64 : Nat) (1 : Int) == BitVec.ofNat (64 : Nat) (0 : Nat) && true && true)
  (Tr.br (useN l u == limN l / BitVec.ofInt (64 : Nat) (2 : Int))
    (Tr.chk true
      (Tr.leaf
        (Fin.ret
            (V.bool
              ((nextC (W4.small b) (useN l u) (limN l)).a == (W4.small b).a &&
                ((nextC (W4.small b) (useN l u) (limN l)).b == (W4.small b).b &&
                  ((nextC (W4.small b) (useN l u) (limN l)).c == (W4.small b).c &&
                    ((nextC (W4.small b) (useN l u) (limN l)).d == (W4.small b).d && true))))),
          [])))
    (Tr.chk true
      (Tr.br (decide (useN l u < limN l / BitVec.ofInt (64 : Nat) (2 : Int)))
        (Tr.chk true
          (Tr.br (!(W4.small b).lt (nextC (W4.small b) (useN l u) (limN l)))
            (Tr.chk true
              (Tr.leaf
                (Fin.ret
                    (V.bool
                      !(W4.small (b / BitVec.ofInt (64 : Nat) (8 : Int))).lt
                          ((W4.small b).sub (nextC (W4.small b) (useN l u) (limN l)))),
                  [])))
            (Tr.chk true (Tr.leaf (Fin.ret (V.bool false), [])))))
        (Tr.chk true
          (Tr.br ((W4.small b).lt (nextC (W4.small b) (useN l u) (limN l)))
            (Tr.chk true
              (Tr.leaf
                (Fin.ret
                    (V.bool
                      !(((W4.small (b / BitVec.ofInt (64 : Nat) (8 : Int))).add
                                  (W4.small (b / BitVec.ofInt (64 : Nat) (8 : Int)))).add
                              (W4.small (BitVec.ofInt (64 : Nat) (1 : Int)))).lt
                          ((nextC (W4.small b) (useN l u) (limN l)).sub (W4.small b))),
                  [])))
            (Tr.chk true (Tr.leaf (Fin.ret (V.bool false), [])))))))) := by kernel_rfl
structure FS where
  n : BitVec 8
  L : BitVec 64
  b : W4
  x : W4
  i : Nat
theorem fs_x (n : BitVec 8) (L : BitVec 64) (b : W4) (x : W4) (i : Nat) : Tr.prune ((Tr.Sh.any.l.l.l.l.l.l.l.l.l.l.l.l.l.l.both
      (Tr.Sh.any.l.l.l.l.l.l.l.l.l.l.both
              (Tr.Sh.any.l.l.l.l.l.l.l.both
                    ((Tr.Sh.any.both Tr.Sh.any).r.l.l.both Tr.Sh.any.r.r.r.r).r.r.r.r.r).r.r).r.r.r).both
  Tr.Sh.any)
  (execBN Pr OT8 noLoopsT (100 : Nat) (0 : Nat) [(2 : Nat), (7 : Nat), (8 : Nat), (9 : Nat), (10 : Nat), (11 : Nat)]
  [(7 : Nat), (9 : Nat), (10 : Nat)] (loopBody Go.Proofs.Try.f10 (0 : Nat))
  [((2 : Nat), V.u8 n), ((7 : Nat), V.bool true), ((8 : Nat), V.u64 L), ((9 : Nat), V.ptr (0 : Nat) (0 : Nat)),
    ((10 : Nat), V.ptr (1 : Nat) (0 : Nat)), ((11 : Nat), V.int IntKind.i64 (↑i : Int))]
  [Blk.b64 (wl b), Blk.b64 (wl x)]) =
  Tr.chk true
  (Tr.br (decide ((↑i : Int) < (↑(n % BitVec.ofInt (8 : Nat) (31 : Int)).toNat : Int)))
    (Tr.chk true
      (Tr.br (x.lt (nextC x (BitVec.ofInt (64 : Nat) (0 : Int)) L))
        (Tr.chk true
          (Tr.leaf
            (X.ret,
              [((7 : Nat), V.bool true), ((9 : Nat), V.ptr (0 : Nat) (0 : Nat)),
                ((10 : Nat), V.ptr (1 : Nat) (0 : Nat))],
              [Blk.b64 (wl b), Blk.b64 (wl x)])))
        (Tr.chk true
          (Tr.br (!x.lt (nextC x L L))
            (Tr.chk true
              (Tr.leaf
                (X.ret,
                  [((7 : Nat), V.bool true), ((9 : Nat), V.ptr (0 : Nat) (0 : Nat)),
                    ((10 : Nat), V.ptr (1 : Nat) (0 : Nat))],
                  [Blk.b64 (wl b), Blk.b64 (wl x)])))
            (Tr.chk true
              (Tr.br
                (!((nextC x (L / BitVec.ofInt (64 : Nat) (2 : Int)) L).a == x.a &&
                    ((nextC x (L / BitVec.ofInt (64 : Nat) (2 : Int)) L).b == x.b &&
                      ((nextC x (L / BitVec.ofInt (64 : Nat) (2 : Int)) L).c == x.c &&
                        ((nextC x (L / BitVec.ofInt (64 : Nat) (2 : Int)) L).d == x.d && true)))))
                (Tr.chk true
                  (Tr.leaf
                    (X.ret,
                      [((7 : Nat), V.bool true), ((9 : Nat), V.ptr (0 : Nat) (0 : Nat)),
                        ((10 : Nat), V.ptr (1 : Nat) (0 : Nat))],
                      [Blk.b64 (wl b), Blk.b64 (wl x)])))
                (Tr.chk true
                  (Tr.br (x.lt (nextC (nextC x L L) (BitVec.ofInt (64 : Nat) (0 : Int)) L))
                    (Tr.chk true
                      (Tr.br ((W4.small (BitVec.ofInt (64 : Nat) (8 : Int))).lt x)
                        (Tr.chk true
                          (Tr.leaf
                            (X.ret,
                              [((7 : Nat), V.bool true), ((9 : Nat), V.ptr (0 : Nat) (0 : Nat)),
                                ((10 : Nat), V.ptr (1 : Nat) (0 : Nat))],
                              [Blk.b64 (wl b), Blk.b64 (wl x)])))
                        (Tr.chk true
                          (Tr.leaf
                            (X.normal,
                              [((2 : Nat), V.u8 n), ((7 : Nat), V.bool true), ((8 : Nat), V.u64 L),
                                ((9 : Nat), V.ptr (0 : Nat) (0 : Nat)), ((10 : Nat), V.ptr (1 : Nat) (0 : Nat)),
                                ((11 : Nat), V.int IntKind.i64 (wrapI IntKind.i64 ((↑i : Int) + (1 : Int))))],
                              [Blk.b64 (wl b),
                                Blk.b64
                                  (((((wl x).set (0 : Nat) (nextC x (BitVec.ofInt (64 : Nat) (0 : Int)) L).a).set
                                            (1 : Nat) (nextC x (BitVec.ofInt (64 : Nat) (0 : Int)) L).b).set
                                        (2 : Nat) (nextC x (BitVec.ofInt (64 : Nat) (0 : Int)) L).c).set
                                    (3 : Nat) (nextC x (BitVec.ofInt (64 : Nat) (0 : Int)) L).d)])))))
                    (Tr.chk true
                      (Tr.leaf
                        (X.normal,
                          [((2 : Nat), V.u8 n), ((7 : Nat), V.bool true), ((8 : Nat), V.u64 L),
                            ((9 : Nat), V.ptr (0 : Nat) (0 : Nat)), ((10 : Nat), V.ptr (1 : Nat) (0 : Nat)),
                            ((11 : Nat), V.int IntKind.i64 (wrapI IntKind.i64 ((↑i : Int) + (1 : Int))))],
                          [Blk.b64 (wl b),
                            Blk.b64
                              (((((wl x).set (0 : Nat) (nextC x (BitVec.ofInt (64 : Nat) (0 : Int)) L).a).set (1 : Nat)
                                        (nextC x (BitVec.ofInt (64 : Nat) (0 : Int)) L).b).set
                                    (2 : Nat) (nextC x (BitVec.ofInt (64 : Nat) (0 : Int)) L).c).set
                                (3 : Nat) (nextC x (BitVec.ofInt (64 : Nat) (0 : Int)) L).d)])))))))))))
    (Tr.leaf
      (X.exit (0 : Nat),
        [((7 : Nat), V.bool true), ((9 : Nat), V.ptr (0 : Nat) (0 : Nat)), ((10 : Nat), V.ptr (1 : Nat) (0 : Nat))],
        [Blk.b64 (wl b), Blk.b64 (wl x)]))) := by kernel_rfl
def itW (L : BitVec 64) : Nat → W4 → W4
  | 0, x => x
  | k + 1, x => itW L k (nextC x (BitVec.ofInt 64 0) L)
def fs_S (a : FS) : Fr × Heap := ([(2,.u8 a.n),(7,.bool true),(8,.u64 a.L),(9,.ptr 0 0),(10,.ptr 1 0),(11,.int .i64 a.i)], [.b64 (wl a.b), .b64 (wl a.x)])
def fs_read : Fr → Heap → Option FS := fun f h => match f, h with
  | [(2,.u8 n),(7,.bool true),(8,.u64 L),(9,.ptr 0 0),(10,.ptr 1 0),(11,.int .i64 0)], [.b64 [b1,b2,b3,b4], .b64 [x1,x2,x3,x4]] => some ⟨n, L, ⟨b1,b2,b3,b4⟩, ⟨x1,x2,x3,x4⟩, 0⟩
  | _, _ => none
def evenL (L : BitVec 64) : Bool := decide (2 ≤ L.toNat) && decide (L.toNat ≤ 30000000) && decide (L.toNat % 2 = 0)
def fs_ok (a : FS) : Bool := evenL a.L && decide (a.x.n < 2 ^ 48) && decide (a.i ≤ a.n.toNat % 31)
def fs_E (a : FS) : Tr (X × Fr × Heap) := .leaf (.exit 0, [(7,.bool true),(9,.ptr 0 0),(10,.ptr 1 0)], [.b64 (wl a.b), .b64 (wl (itW a.L (a.n.toNat % 31 - a.i) a.x))])
def fs_s : SmT := whT 8 [2,7,8,9,10,11] fs_read fs_ok fs_E
end
end Go.Proofs.Ytajbaocfdlopbaa.K
end
section
open Go Go.Lh
namespace Go.Proofs.Ytajbaocfdlopbaa.K
noncomputable section
set_option maxRecDepth 100000
theorem divQ_n (x y : W4) : (divQ x y).n = x.n / y.n := by
  have := x.n_lt
  rw [divQ, W4.of_toNat, BitVec.toNat_ofNat, Nat.mod_eq_of_lt (Nat.lt_of_le_of_lt (Nat.div_le_self _ _) this)]
theorem stepW_n {b : W4} {far t : BitVec 64} (h : b.n * far.toNat < 2 ^ 256) : (stepW b far t).n = b.n * far.toNat / t.toNat / 8 := by
  rw [stepW, divQ_n, divQ_n, W4.mul_n' (by rw [W4.small_n]; exact h), W4.small_n, W4.small_n, W4.small_n]
  rfl
theorem tgt_n (l : BitVec 64) : (tgt l).toNat = l.toNat / 2 := by
  rw [tgt, BitVec.toNat_udiv]; rfl
theorem bump_n (s : W4) (hs : s.n < 2 ^ 64) : (bump s).n = max 1 s.n := by
  unfold bump
  split
  · rename_i h
    have ha : s.a.toNat = 0 := by unfold W4.n at h; omega
    have hb : s.b.toNat = 0 := by unfold W4.n at h; omega
    have hc : s.c.toNat = 0 := by unfold W4.n at h; omega
    rw [h]
    have e1 : (BitVec.ofInt 64 1).toNat = 1 := rfl
    simp only [W4.n, ha, hb, hc, e1]
    decide
  · rename_i h; omega
theorem small_lt (b : BitVec 64) : (W4.small b).n < 2 ^ 64 := by rw [W4.small_n]; exact b.isLt
theorem bv_lt {a b : BitVec 64} : (a < b) ↔ a.toNat < b.toNat := Iff.rfl
theorem bv_eq {a b : BitVec 64} : a = b ↔ a.toNat = b.toNat := BitVec.toNat_inj.symm
theorem sub_toNat {a b : BitVec 64} (h : b.toNat ≤ a.toNat) : (a - b).toNat = a.toNat - b.toNat := by
  rw [BitVec.toNat_sub]; have := a.isLt; have := b.isLt; omega
/-- the base goes down -/
theorem next_down {b : W4} {u l : BitVec 64} (hb : b.n < 2 ^ 64) (hl : 2 ≤ l.toNat) (hu : u.toNat < l.toNat / 2) :
    (nextC b u l).n = b.n - b.n * (l.toNat / 2 - u.toNat) / (l.toNat / 2) / 8 := by
  have ht := tgt_n l
  have h1 : ¬ (tgt l = 0) := by rw [bv_eq, ht]; simp; omega
  have h2 : ¬ (u = tgt l) := by rw [bv_eq, ht]; omega
  have h3 : u < tgt l := by rw [bv_lt, ht]; exact hu
  unfold nextC
  rw [if_neg h1, if_neg h2, if_pos h3]
  have hf : (tgt l - u).toNat = l.toNat / 2 - u.toNat := by rw [sub_toNat (by omega), ht]
  have hm : b.n * (tgt l - u).toNat < 2 ^ 256 := by
    have : b.n * (tgt l - u).toNat < 2 ^ 64 * 2 ^ 64 := Nat.mul_lt_mul_of_lt_of_lt hb (tgt l - u).isLt
    omega
  have hs := stepW_n (t := tgt l) hm
  rw [hf, ht] at hs
  have hle : b.n * (l.toNat / 2 - u.toNat) / (l.toNat / 2) ≤ b.n := by
    refine Nat.div_le_of_le_mul ?_
    rw [Nat.mul_comm]
    exact Nat.mul_le_mul_right _ (by omega)
  rw [W4.sub_n' (by omega), hs]
theorem up_le {b f t : Nat} (hf : f ≤ t + 1) (ht : 1 ≤ t) : b * f / t ≤ 2 * b := by
  refine Nat.div_le_of_le_mul ?_
  have : b * f ≤ b * (2 * t) := Nat.mul_le_mul_left _ (by omega)
  calc b * f ≤ b * (2 * t) := this
    _ = t * (2 * b) := by rw [Nat.mul_comm b, Nat.mul_assoc, Nat.mul_comm 2 b, ← Nat.mul_assoc, Nat.mul_comm 2, Nat.mul_assoc, Nat.mul_comm 2]
/-- the base goes up -/
theorem next_up {b : W4} {u l : BitVec 64} (hb : b.n < 2 ^ 64) (hl : 2 ≤ l.toNat) (hu : l.toNat / 2 < u.toNat) (hu2 : u.toNat ≤ l.toNat) :
    (nextC b u l).n = b.n + max 1 (b.n * (u.toNat - l.toNat / 2) / (l.toNat / 2) / 8) ∧ b.n * (u.toNat - l.toNat / 2) / (l.toNat / 2) ≤ 2 * b.n := by
  have ht := tgt_n l
  have h1 : ¬ (tgt l = 0) := by rw [bv_eq, ht]; simp; omega
  have h2 : ¬ (u = tgt l) := by rw [bv_eq, ht]; omega
  have h3 : ¬ (u < tgt l) := by rw [bv_lt, ht]; omega
  have hle : b.n * (u.toNat - l.toNat / 2) / (l.toNat / 2) ≤ 2 * b.n := up_le (by omega) (by omega)
  refine ⟨?_, hle⟩
  unfold nextC
  rw [if_neg h1, if_neg h2, if_neg h3]
  have hf : (u - tgt l).toNat = u.toNat - l.toNat / 2 := by rw [sub_toNat (by omega), ht]
  have := u.isLt
  have hm2 : b.n * (u.toNat - l.toNat / 2) < 2 ^ 64 * 2 ^ 64 := Nat.mul_lt_mul_of_lt_of_lt hb (by omega)
  have hm : b.n * (u - tgt l).toNat < 2 ^ 256 := by rw [hf]; omega
  have hs := stepW_n (t := tgt l) hm
  rw [hf, ht] at hs
  have hbu := bump_n (stepW b (u - tgt l) (tgt l)) (by omega)
  rw [W4.add_n' (by omega), hbu, hs]
theorem next_same {b : W4} {u l : BitVec 64} (hu : u.toNat = l.toNat / 2) : nextC b u l = b := by
  unfold nextC
  split
  · rfl
  · rw [if_pos (by rw [bv_eq, tgt_n]; exact hu)]
theorem limN_n (l : BitVec 32) : (limN l).toNat = 2 + l.toNat % 30000000 := by
  have := l.isLt
  have e1 : (BitVec.ofInt 64 2).toNat = 2 := rfl
  have e2 : (BitVec.ofInt 64 30000000).toNat = 30000000 := rfl
  rw [limN, BitVec.toNat_add, BitVec.toNat_umod, BitVec.toNat_setWidth, e1, e2]
  omega
theorem useN_n (l u : BitVec 32) : (useN l u).toNat = u.toNat % (limN l).toNat.succ := by
  have := u.isLt
  have := limN_n l
  have e1 : (BitVec.ofInt 64 1).toNat = 1 := rfl
  rw [useN, BitVec.toNat_umod, BitVec.toNat_add, BitVec.toNat_setWidth, e1, Nat.mod_eq_of_lt (show u.toNat < 2 ^ 64 by omega), Nat.mod_eq_of_lt (show (limN l).toNat + 1 < 2 ^ 64 by omega)]
theorem feeNext_fn (b : BitVec 64) (l u : BitVec 32) : LFn Pr 8 [.u64 b, .u32 l, .u32 u] [] (.ret (.bool true)) [] := by
  refine fnT OT8_sound mixed (by kernel_rfl) LoopsOk.noneT (fn_x b l u) ?_
  have hL := limN_n l
  have hU := useN_n l u
  have hU2 : (useN l u).toNat ≤ (limN l).toNat := by rw [hU]; exact Nat.le_of_lt_succ (Nat.mod_lt _ (Nat.succ_pos _))
  have hs := small_lt b
  have e2 : (limN l / BitVec.ofInt 64 2).toNat = (limN l).toNat / 2 := BitVec.toNat_udiv
  have e8 : (W4.small (b / BitVec.ofInt 64 8)).n = (W4.small b).n / 8 := by rw [W4.small_n, W4.small_n, BitVec.toNat_udiv]; rfl
  have e1 : (W4.small (BitVec.ofInt 64 1)).n = 1 := rfl
  simp only [wp_chk, wp_leaf, wp_br, ret_bool, W4.eqT', Bool.and_true, Bool.not_eq_true', Bool.not_eq_false', decide_eq_true_eq, decide_eq_false_iff_not, W4.lt_iff, W4.lt_false, and_true, true_and, beq_eq_false_iff_ne, beq_iff_eq, Bool.false_eq_true, bv_lt, e2]
  refine ⟨?_, ?_, ?_⟩
  · intro h
    rw [bv_eq] at h
    have e3 : (BitVec.ofInt 64 1).toNat = 1 := rfl
    rw [BitVec.toNat_add, e3] at h
    have e4 : (BitVec.ofNat 64 0).toNat = 0 := rfl
    omega
  · intro h
    rw [bv_eq, e2] at h
    rw [next_same h]
  · intro h
    have h : (useN l u).toNat ≠ (limN l).toNat / 2 := fun e => h (by rw [bv_eq, e2]; exact e)
    refine ⟨fun h1 => ?_, fun h1 => ?_⟩
    · have hd := next_down (b := W4.small b) hs (by omega) h1
      have hle : (W4.small b).n * ((limN l).toNat / 2 - (useN l u).toNat) / ((limN l).toNat / 2) ≤ (W4.small b).n := by
        refine Nat.div_le_of_le_mul ?_
        rw [Nat.mul_comm]
        exact Nat.mul_le_mul_right _ (by omega)
      generalize (W4.small b).n * ((limN l).toNat / 2 - (useN l u).toNat) / ((limN l).toNat / 2) = z at hd hle
      have hsub := W4.sub_n' (x := W4.small b) (y := nextC (W4.small b) (useN l u) (limN l)) (by omega)
      refine ⟨fun _ => by omega, fun h => by omega⟩
    · obtain ⟨hu, hle⟩ := next_up (b := W4.small b) hs (l := limN l) (u := useN l u) (by omega) (by omega) hU2
      generalize (W4.small b).n * ((useN l u).toNat - (limN l).toNat / 2) / ((limN l).toNat / 2) = z at hu hle
      have hsub := W4.sub_n' (x := nextC (W4.small b) (useN l u) (limN l)) (y := W4.small b) (by omega)
      have ha := W4.add_n' (x := W4.small (b / BitVec.ofInt 64 8)) (y := W4.small (b / BitVec.ofInt 64 8)) (by omega)
      have ha2 := W4.add_n' (x := (W4.small (b / BitVec.ofInt 64 8)).add (W4.small (b / BitVec.ofInt 64 8))) (y := W4.small (BitVec.ofInt 64 1)) (by omega)
      refine ⟨fun _ => by omega, fun h => by omega⟩
end
end Go.Proofs.Ytajbaocfdlopbaa.K
end
