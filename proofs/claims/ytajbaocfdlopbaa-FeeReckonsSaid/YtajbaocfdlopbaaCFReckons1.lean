/- The functions that this law reaches: what each comes to. -/
import Derived.Test.YtajbaocfdlopbaaProg
import Derived.Test.YtajbaocfdlopbaaLh5
set_option linter.unusedSimpArgs false
set_option linter.unusedVariables false
section
open Go Go.Lh
namespace Go.Proofs.Ytajbaocfdlopbaa.K
noncomputable section
set_option maxRecDepth 100000
abbrev Pr : Program := Go.Proofs.Try.prog
theorem mixed : Pr.follows .mixedOrders = true := by kernel_rfl
def ext : FuncId → List V → Option (Bool × V) := extL [(82, subX), (84, addX), (114, cntX)]
theorem ext_ok : ExtOk Pr ext :=
  extL_cons (subX_at (fn := Go.Proofs.Try.f82) (by kernel_rfl) (by kernel_rfl) (by kernel_rfl) (by kernel_rfl) (by kernel_rfl))
  (extL_cons (addX_at (fn := Go.Proofs.Try.f84) (by kernel_rfl) (by kernel_rfl) (by kernel_rfl) (by kernel_rfl) (by kernel_rfl))
  (extL_cons (cntX_at (fn := Go.Proofs.Try.f114) (by kernel_rfl) (by kernel_rfl) (by kernel_rfl) (by kernel_rfl) (by kernel_rfl)) extL_nil))
end
end Go.Proofs.Ytajbaocfdlopbaa.K
end
section
open Go Go.Lh
namespace Go.Proofs.Ytajbaocfdlopbaa.K
noncomputable section
set_option maxRecDepth 100000
def OW0 : Orc := auto Pr ext [] [81, 107, 83, 106] 4
theorem OW0_sound : OrcSound Pr OW0 := auto_sound mixed ext_ok KOk.nil (by kernel_rfl) 4
theorem add_x (x : W4) (y : W4) :
  execFD Pr OW0 noLoops [] (100 : Nat) Go.Proofs.Try.f40 [x.v, y.v] [] =
  some
  (decide ((outC x.d y.d (BitVec.ofInt (64 : Nat) (0 : Int))).toNat ≤ (1 : Nat)) && true && true &&
                (decide ((outC x.c y.c (outC x.d y.d (BitVec.ofInt (64 : Nat) (0 : Int)))).toNat ≤ (1 : Nat)) && true &&
                    true &&
                  (decide
                          ((outC x.b y.b (outC x.c y.c (outC x.d y.d (BitVec.ofInt (64 : Nat) (0 : Int))))).toNat ≤
                            (1 : Nat)) &&
                        true &&
                      true &&
                    true)) &&
              true &&
            true &&
          true &&
        true &&
      true,
    Fin.ret
      (V.agg
        [V.u64 (sumC x.a y.a (outC x.b y.b (outC x.c y.c (outC x.d y.d (BitVec.ofInt (64 : Nat) (0 : Int)))))),
          V.u64 (sumC x.b y.b (outC x.c y.c (outC x.d y.d (BitVec.ofInt (64 : Nat) (0 : Int))))),
          V.u64 (sumC x.c y.c (outC x.d y.d (BitVec.ofInt (64 : Nat) (0 : Int)))),
          V.u64 (sumC x.d y.d (BitVec.ofInt (64 : Nat) (0 : Int)))]),
    []) := by kernel_rfl
theorem sub_x (x : W4) (y : W4) :
  execFD Pr OW0 noLoops [] (100 : Nat) Go.Proofs.Try.f39 [x.v, y.v] [] =
  some
  (decide ((outB x.d y.d (BitVec.ofInt (64 : Nat) (0 : Int))).toNat ≤ (1 : Nat)) && true && true &&
                (decide ((outB x.c y.c (outB x.d y.d (BitVec.ofInt (64 : Nat) (0 : Int)))).toNat ≤ (1 : Nat)) && true &&
                    true &&
                  (decide
                          ((outB x.b y.b (outB x.c y.c (outB x.d y.d (BitVec.ofInt (64 : Nat) (0 : Int))))).toNat ≤
                            (1 : Nat)) &&
                        true &&
                      true &&
                    true)) &&
              true &&
            true &&
          true &&
        true &&
      true,
    Fin.ret
      (V.agg
        [V.u64 (difB x.a y.a (outB x.b y.b (outB x.c y.c (outB x.d y.d (BitVec.ofInt (64 : Nat) (0 : Int)))))),
          V.u64 (difB x.b y.b (outB x.c y.c (outB x.d y.d (BitVec.ofInt (64 : Nat) (0 : Int))))),
          V.u64 (difB x.c y.c (outB x.d y.d (BitVec.ofInt (64 : Nat) (0 : Int)))),
          V.u64 (difB x.d y.d (BitVec.ofInt (64 : Nat) (0 : Int)))]),
    []) := by kernel_rfl
theorem less_x (x : W4) (y : W4) :
  execFD Pr OW0 noLoops [] (100 : Nat) Go.Proofs.Try.f38 [x.v, y.v] [] =
  some
  (decide ((outB x.d y.d (BitVec.ofInt (64 : Nat) (0 : Int))).toNat ≤ (1 : Nat)) && true && true &&
          (decide ((outB x.c y.c (outB x.d y.d (BitVec.ofInt (64 : Nat) (0 : Int)))).toNat ≤ (1 : Nat)) && true &&
              true &&
            (decide
                    ((outB x.b y.b (outB x.c y.c (outB x.d y.d (BitVec.ofInt (64 : Nat) (0 : Int))))).toNat ≤
                      (1 : Nat)) &&
                  true &&
                true &&
              true)) &&
        true &&
      true,
    Fin.ret
      (V.bool
        (outB x.a y.a (outB x.b y.b (outB x.c y.c (outB x.d y.d (BitVec.ofInt (64 : Nat) (0 : Int))))) ==
          BitVec.ofInt (64 : Nat) (1 : Int))),
    []) := by kernel_rfl
theorem mul64_x (x : BitVec 64) (y : BitVec 64) :
  execFD Pr OW0 noLoops [] (100 : Nat) Go.Proofs.Try.f106 [V.u64 x, V.u64 y] [] =
  some
  (true,
    Fin.ret
      (V.tup
        [V.u64
            (x >>> (32 : Nat) * y >>> (32 : Nat) +
                (x >>> (32 : Nat) * (y &&& BitVec.ofInt (64 : Nat) (4294967295 : Int)) +
                    ((x &&& BitVec.ofInt (64 : Nat) (4294967295 : Int)) *
                        (y &&& BitVec.ofInt (64 : Nat) (4294967295 : Int))) >>>
                      (32 : Nat)) >>>
                  (32 : Nat) +
              ((x >>> (32 : Nat) * (y &&& BitVec.ofInt (64 : Nat) (4294967295 : Int)) +
                      ((x &&& BitVec.ofInt (64 : Nat) (4294967295 : Int)) *
                          (y &&& BitVec.ofInt (64 : Nat) (4294967295 : Int))) >>>
                        (32 : Nat) &&&
                    BitVec.ofInt (64 : Nat) (4294967295 : Int)) +
                  (x &&& BitVec.ofInt (64 : Nat) (4294967295 : Int)) * y >>> (32 : Nat)) >>>
                (32 : Nat)),
          V.u64 (x * y)]),
    []) := by kernel_rfl
theorem c0 : (BitVec.ofInt 64 0).toNat ≤ 1 := by decide
theorem add_fn (x y : W4) : LFn Pr 40 [x.v, y.v] [] (.ret (W4.add x y).v) [] := by
  refine execFD_sound (fn := Go.Proofs.Try.f40) OW0_sound mixed (by kernel_rfl) (fun _ _ _ _ => LoopOk.none) ((add_x x y).trans (stF ?_ ?_ rfl))
  · have l1 := outC_le x.d y.d _ c0
    have l2 := outC_le x.c y.c _ l1
    have l3 := outC_le x.b y.b _ l2
    simp only [decide_eq_true l1, decide_eq_true l2, decide_eq_true l3, Bool.and_true]
  · rw [← W4.addP_eq]; rfl
theorem sub_fn (x y : W4) : LFn Pr 39 [x.v, y.v] [] (.ret (W4.sub x y).v) [] := by
  refine execFD_sound (fn := Go.Proofs.Try.f39) OW0_sound mixed (by kernel_rfl) (fun _ _ _ _ => LoopOk.none) ((sub_x x y).trans (stF ?_ ?_ rfl))
  · have l1 := outB_le x.d y.d _ c0
    have l2 := outB_le x.c y.c _ l1
    have l3 := outB_le x.b y.b _ l2
    simp only [decide_eq_true l1, decide_eq_true l2, decide_eq_true l3, Bool.and_true]
  · rw [← W4.subP_eq]; rfl
theorem less_fn (x y : W4) : LFn Pr 38 [x.v, y.v] [] (.ret (.bool (W4.lt x y))) [] := by
  refine execFD_sound (fn := Go.Proofs.Try.f38) OW0_sound mixed (by kernel_rfl) (fun _ _ _ _ => LoopOk.none) ((less_x x y).trans (stF ?_ ?_ rfl))
  · have l1 := outB_le x.d y.d _ c0
    have l2 := outB_le x.c y.c _ l1
    have l3 := outB_le x.b y.b _ l2
    simp only [decide_eq_true l1, decide_eq_true l2, decide_eq_true l3, Bool.and_true]
  · rw [← W4.ltP_eq]; rfl
theorem mul64_fn (x y : BitVec 64) : LFn Pr 106 [.u64 x, .u64 y] [] (.ret (.tup [.u64 (mulHi x y), .u64 (x * y)])) [] :=
  execFD_sound (fn := Go.Proofs.Try.f106) OW0_sound mixed (by kernel_rfl) (fun _ _ _ _ => LoopOk.none) ((mul64_x x y).trans (stF rfl rfl rfl))
theorem mul64_en : Enters Pr 106 := Enters.of (fn := Go.Proofs.Try.f106) (by kernel_rfl) (by kernel_rfl)
def mul64_g := ctUU (fun x y => .tup [.u64 (mulHi x y), .u64 (x * y)])
def OW1 : Orc := auto Pr ext [(106, mul64_g)] [81, 107] 3
theorem OW1_sound : OrcSound Pr OW1 := auto_sound mixed ext_ok (KOk.cons mul64_en (ctUU_ok mul64_fn) KOk.nil) (by kernel_rfl) 3
theorem mul_x (x y : W4) : execFD Pr OW1 noLoops [] 100 Go.Proofs.Try.f64 [x.v, y.v] [] = some (true, .ret (W4.mulP x y).v, []) := by kernel_rfl
theorem mul_fn (x y : W4) : LFn Pr 64 [x.v, y.v] [] (.ret (W4.mul x y).v) [] := by
  rw [← W4.mulP_eq]
  exact execFD_sound (fn := Go.Proofs.Try.f64) OW1_sound mixed (by kernel_rfl) (fun _ _ _ _ => LoopOk.none) (mul_x x y)
end
end Go.Proofs.Ytajbaocfdlopbaa.K
end
section
open Go Go.Lh
namespace Go.Proofs.Ytajbaocfdlopbaa.K
noncomputable section
set_option maxRecDepth 100000
def iAdd (i : Int) : Nat → Int
  | 0 => i
  | n + 1 => i + ((n + 1 : Nat) : Int)
theorem iAdd_eq (i : Int) (n : Nat) : iAdd i n = i + n := by cases n <;> simp [iAdd]
structure MV where
  ls : List (BitVec 64)
  os : List (BitVec 64)
  xs : List (BitVec 64)
  n : Int
  i : Int
/-- part k, of what is moved left by r -/
def lPart (ls : List (BitVec 64)) (r k : Nat) : BitVec 64 := if 0 < r ∧ 0 < k then ls.getD k 0 <<< r ||| ls.getD (k - 1) 0 >>> (64 - r) else ls.getD k 0 <<< r
def leftN (ls os : List (BitVec 64)) (q r : Nat) : Nat → List (BitVec 64)
  | 0 => os
  | n + 1 => (leftN ls os q r n).set (q + n) (lPart ls r n)
theorem leftN_length (ls os : List (BitVec 64)) (q r : Nat) : ∀ n, (leftN ls os q r n).length = os.length
  | 0 => rfl
  | n + 1 => by simp [leftN, leftN_length ls os q r n]
def rPart (ls : List (BitVec 64)) (q r j : Nat) : BitVec 64 := if 0 < r ∧ j + q + 1 < 4 then ls.getD (j + q) 0 >>> r ||| ls.getD (j + q + 1) 0 <<< (64 - r) else ls.getD (j + q) 0 >>> r
def rightN (ls os : List (BitVec 64)) (q r : Nat) : Nat → List (BitVec 64)
  | 0 => os
  | n + 1 => (rightN ls os q r n).set n (rPart ls q r n)
theorem rightN_length (ls os : List (BitVec 64)) (q r : Nat) : ∀ n, (rightN ls os q r n).length = os.length
  | 0 => rfl
  | n + 1 => by simp [rightN, rightN_length ls os q r n]
theorem getD_set_self (xs : List (BitVec 64)) (i : Nat) (v : BitVec 64) (h : i < xs.length) : (xs.set i v).getD i 0 = v := by
  rw [List.getD_eq_getElem?_getD, List.getElem?_set_self h]; rfl
theorem leftA (ls : List (BitVec 64)) (os : List (BitVec 64)) (xs : List (BitVec 64)) (n : Int) (i : Int) :
  execN Pr (withAsm noOrc [((13 : Nat), true), ((30 : Nat), true), ((33 : Nat), true)]) noLoops [] (100 : Nat) (0 : Nat)
  [(1 : Nat), (4 : Nat), (5 : Nat), (6 : Nat), (7 : Nat)] (loopBody Go.Proofs.Try.f104 (0 : Nat))
  [((1 : Nat), V.int IntKind.i64 n), ((4 : Nat), V.ptr (0 : Nat) (0 : Nat)), ((5 : Nat), V.ptr (1 : Nat) (0 : Nat)),
    ((6 : Nat), V.ptr (2 : Nat) (0 : Nat)), ((7 : Nat), V.int IntKind.i64 i)]
  [Blk.b64 xs, Blk.b64 ls, Blk.b64 os] =
  some
  (decide (i < (4 : Int)) && true && true &&
      (decide ((0 : Int) ≤ wrapI IntKind.i64 (i - wrapI IntKind.i64 (n.tdiv (64 : Int)))) &&
              decide (wrapI IntKind.i64 (i - wrapI IntKind.i64 (n.tdiv (64 : Int))) < (4 : Int)) &&
            (decide
                ((0 : Nat) + (wrapI IntKind.i64 (i - wrapI IntKind.i64 (n.tdiv (64 : Int)))).toNat * (1 : Nat) <
                  ls.length) &&
              (decide ((0 : Int) ≤ n.tmod (64 : Int)) &&
                (decide ((0 : Int) ≤ i) && decide (i < (4 : Int)) &&
                  (decide ((0 : Nat) + i.toNat * (1 : Nat) + (1 : Nat) ≤ os.length) && true)))) &&
          (decide (n.tmod (64 : Int) > (0 : Int)) &&
              (decide (wrapI IntKind.i64 (i - wrapI IntKind.i64 (n.tdiv (64 : Int))) > (0 : Int)) && true) &&
            (decide ((0 : Int) ≤ i) && decide (i < (4 : Int)) &&
              (decide
                  ((0 : Nat) + i.toNat * (1 : Nat) <
                    (os.set ((0 : Nat) + i.toNat * (1 : Nat))
                        (ls.getD
                            ((0 : Nat) +
                              (wrapI IntKind.i64 (i - wrapI IntKind.i64 (n.tdiv (64 : Int)))).toNat * (1 : Nat))
                            (OfNat.ofNat (0 : Nat)) <<<
                          (n.tmod (64 : Int)).toNat)).length) &&
                (decide
                      ((0 : Int) ≤
                        wrapI IntKind.i64
                          (wrapI IntKind.i64 (i - wrapI IntKind.i64 (n.tdiv (64 : Int))) - (1 : Int))) &&
                    decide
                      (wrapI IntKind.i64 (wrapI IntKind.i64 (i - wrapI IntKind.i64 (n.tdiv (64 : Int))) - (1 : Int)) <
                        (4 : Int)) &&
                  (decide
                      ((0 : Nat) +
                          (wrapI IntKind.i64
                                (wrapI IntKind.i64 (i - wrapI IntKind.i64 (n.tdiv (64 : Int))) - (1 : Int))).toNat *
                            (1 : Nat) <
                        ls.length) &&
                    (decide ((0 : Int) ≤ wrapI IntKind.i64 ((64 : Int) - n.tmod (64 : Int))) &&
                      (decide ((0 : Int) ≤ i) && decide (i < (4 : Int)) &&
                        (decide
                            ((0 : Nat) + i.toNat * (1 : Nat) + (1 : Nat) ≤
                              (os.set ((0 : Nat) + i.toNat * (1 : Nat))
                                  (ls.getD
                                      ((0 : Nat) +
                                        (wrapI IntKind.i64 (i - wrapI IntKind.i64 (n.tdiv (64 : Int)))).toNat *
                                          (1 : Nat))
                                      (OfNat.ofNat (0 : Nat)) <<<
                                    (n.tmod (64 : Int)).toNat)).length) &&
                          true)))))))) &&
        true),
    X.normal,
    [((1 : Nat), V.int IntKind.i64 n), ((4 : Nat), V.ptr (0 : Nat) (0 : Nat)), ((5 : Nat), V.ptr (1 : Nat) (0 : Nat)),
      ((6 : Nat), V.ptr (2 : Nat) (0 : Nat)), ((7 : Nat), V.int IntKind.i64 (wrapI IntKind.i64 (i + (1 : Int))))],
    [Blk.b64 xs, Blk.b64 ls,
      Blk.b64
        ((os.set ((0 : Nat) + i.toNat * (1 : Nat))
              (ls.getD ((0 : Nat) + (wrapI IntKind.i64 (i - wrapI IntKind.i64 (n.tdiv (64 : Int)))).toNat * (1 : Nat))
                  (OfNat.ofNat (0 : Nat)) <<<
                (n.tmod (64 : Int)).toNat)).set
          ((0 : Nat) + i.toNat * (1 : Nat))
          ((os.set ((0 : Nat) + i.toNat * (1 : Nat))
                  (ls.getD
                      ((0 : Nat) + (wrapI IntKind.i64 (i - wrapI IntKind.i64 (n.tdiv (64 : Int)))).toNat * (1 : Nat))
                      (OfNat.ofNat (0 : Nat)) <<<
                    (n.tmod (64 : Int)).toNat)).getD
              ((0 : Nat) + i.toNat * (1 : Nat)) (OfNat.ofNat (0 : Nat)) |||
            ls.getD
                ((0 : Nat) +
                  (wrapI IntKind.i64
                        (wrapI IntKind.i64 (i - wrapI IntKind.i64 (n.tdiv (64 : Int))) - (1 : Int))).toNat *
                    (1 : Nat))
                (OfNat.ofNat (0 : Nat)) >>>
              (wrapI IntKind.i64 ((64 : Int) - n.tmod (64 : Int))).toNat))]) := by kernel_rfl
theorem leftB (ls : List (BitVec 64)) (os : List (BitVec 64)) (xs : List (BitVec 64)) (n : Int) (i : Int) :
  execN Pr (withAsm noOrc [((13 : Nat), true), ((30 : Nat), true), ((33 : Nat), false)]) noLoops [] (100 : Nat)
  (0 : Nat) [(1 : Nat), (4 : Nat), (5 : Nat), (6 : Nat), (7 : Nat)] (loopBody Go.Proofs.Try.f104 (0 : Nat))
  [((1 : Nat), V.int IntKind.i64 n), ((4 : Nat), V.ptr (0 : Nat) (0 : Nat)), ((5 : Nat), V.ptr (1 : Nat) (0 : Nat)),
    ((6 : Nat), V.ptr (2 : Nat) (0 : Nat)), ((7 : Nat), V.int IntKind.i64 i)]
  [Blk.b64 xs, Blk.b64 ls, Blk.b64 os] =
  some
  (decide (i < (4 : Int)) && true && true &&
      (decide ((0 : Int) ≤ wrapI IntKind.i64 (i - wrapI IntKind.i64 (n.tdiv (64 : Int)))) &&
              decide (wrapI IntKind.i64 (i - wrapI IntKind.i64 (n.tdiv (64 : Int))) < (4 : Int)) &&
            (decide
                ((0 : Nat) + (wrapI IntKind.i64 (i - wrapI IntKind.i64 (n.tdiv (64 : Int)))).toNat * (1 : Nat) <
                  ls.length) &&
              (decide ((0 : Int) ≤ n.tmod (64 : Int)) &&
                (decide ((0 : Int) ≤ i) && decide (i < (4 : Int)) &&
                  (decide ((0 : Nat) + i.toNat * (1 : Nat) + (1 : Nat) ≤ os.length) && true)))) &&
          (decide (n.tmod (64 : Int) > (0 : Int)) &&
              (!decide (wrapI IntKind.i64 (i - wrapI IntKind.i64 (n.tdiv (64 : Int))) > (0 : Int)) && true) &&
            true) &&
        true),
    X.normal,
    [((1 : Nat), V.int IntKind.i64 n), ((4 : Nat), V.ptr (0 : Nat) (0 : Nat)), ((5 : Nat), V.ptr (1 : Nat) (0 : Nat)),
      ((6 : Nat), V.ptr (2 : Nat) (0 : Nat)), ((7 : Nat), V.int IntKind.i64 (wrapI IntKind.i64 (i + (1 : Int))))],
    [Blk.b64 xs, Blk.b64 ls,
      Blk.b64
        (os.set ((0 : Nat) + i.toNat * (1 : Nat))
          (ls.getD ((0 : Nat) + (wrapI IntKind.i64 (i - wrapI IntKind.i64 (n.tdiv (64 : Int)))).toNat * (1 : Nat))
              (OfNat.ofNat (0 : Nat)) <<<
            (n.tmod (64 : Int)).toNat))]) := by kernel_rfl
theorem leftC (ls : List (BitVec 64)) (os : List (BitVec 64)) (xs : List (BitVec 64)) (n : Int) (i : Int) :
  execN Pr (withAsm noOrc [((13 : Nat), true), ((30 : Nat), false)]) noLoops [] (100 : Nat) (0 : Nat)
  [(1 : Nat), (4 : Nat), (5 : Nat), (6 : Nat), (7 : Nat)] (loopBody Go.Proofs.Try.f104 (0 : Nat))
  [((1 : Nat), V.int IntKind.i64 n), ((4 : Nat), V.ptr (0 : Nat) (0 : Nat)), ((5 : Nat), V.ptr (1 : Nat) (0 : Nat)),
    ((6 : Nat), V.ptr (2 : Nat) (0 : Nat)), ((7 : Nat), V.int IntKind.i64 i)]
  [Blk.b64 xs, Blk.b64 ls, Blk.b64 os] =
  some
  (decide (i < (4 : Int)) && true && true &&
      (decide ((0 : Int) ≤ wrapI IntKind.i64 (i - wrapI IntKind.i64 (n.tdiv (64 : Int)))) &&
              decide (wrapI IntKind.i64 (i - wrapI IntKind.i64 (n.tdiv (64 : Int))) < (4 : Int)) &&
            (decide
                ((0 : Nat) + (wrapI IntKind.i64 (i - wrapI IntKind.i64 (n.tdiv (64 : Int)))).toNat * (1 : Nat) <
                  ls.length) &&
              (decide ((0 : Int) ≤ n.tmod (64 : Int)) &&
                (decide ((0 : Int) ≤ i) && decide (i < (4 : Int)) &&
                  (decide ((0 : Nat) + i.toNat * (1 : Nat) + (1 : Nat) ≤ os.length) && true)))) &&
          (!decide (n.tmod (64 : Int) > (0 : Int)) && true && true) &&
        true),
    X.normal,
    [((1 : Nat), V.int IntKind.i64 n), ((4 : Nat), V.ptr (0 : Nat) (0 : Nat)), ((5 : Nat), V.ptr (1 : Nat) (0 : Nat)),
      ((6 : Nat), V.ptr (2 : Nat) (0 : Nat)), ((7 : Nat), V.int IntKind.i64 (wrapI IntKind.i64 (i + (1 : Int))))],
    [Blk.b64 xs, Blk.b64 ls,
      Blk.b64
        (os.set ((0 : Nat) + i.toNat * (1 : Nat))
          (ls.getD ((0 : Nat) + (wrapI IntKind.i64 (i - wrapI IntKind.i64 (n.tdiv (64 : Int)))).toNat * (1 : Nat))
              (OfNat.ofNat (0 : Nat)) <<<
            (n.tmod (64 : Int)).toNat))]) := by kernel_rfl
theorem leftZ (ls : List (BitVec 64)) (os : List (BitVec 64)) (xs : List (BitVec 64)) (n : Int) (i : Int) :
  execN Pr (withAsm noOrc [((13 : Nat), false)]) noLoops [] (100 : Nat) (0 : Nat) [(4 : Nat), (6 : Nat)]
  (loopBody Go.Proofs.Try.f104 (0 : Nat))
  [((1 : Nat), V.int IntKind.i64 n), ((4 : Nat), V.ptr (0 : Nat) (0 : Nat)), ((5 : Nat), V.ptr (1 : Nat) (0 : Nat)),
    ((6 : Nat), V.ptr (2 : Nat) (0 : Nat)), ((7 : Nat), V.int IntKind.i64 i)]
  [Blk.b64 xs, Blk.b64 ls, Blk.b64 os] =
  some
  (!decide (i < (4 : Int)) && true && true, X.exit (0 : Nat),
    [((4 : Nat), V.ptr (0 : Nat) (0 : Nat)), ((6 : Nat), V.ptr (1 : Nat) (0 : Nat))],
    [Blk.b64 xs, Blk.b64 os]) := by kernel_rfl

def left_S : MV → Nat → Fr × Heap := fun a j => ([(1,.int .i64 a.n),(4,.ptr 0 0),(5,.ptr 1 0),(6,.ptr 2 0),(7,.int .i64 (iAdd a.i j))], [.b64 a.xs, .b64 a.ls, .b64 (leftN a.ls a.os (a.n.toNat / 64) (a.n.toNat % 64) j)])
def left_read : Fr → Heap → Option MV := fun f h => match f, h with
  | [(1,.int .i64 n),(4,.ptr 0 0),(5,.ptr 1 0),(6,.ptr 2 0),(7,.int .i64 i)], [.b64 xs, .b64 ls, .b64 os] => some ⟨ls, os, xs, n, i⟩
  | _, _ => none
def left_ok : MV → Bool := fun a => decide (a.ls.length = 4) && decide (a.os.length = 4) && decide (0 ≤ a.n) && decide (a.n < 256) && decide (a.i = ((a.n.toNat / 64 : Nat) : Int))
def left_E : MV → X × Fr × Heap := fun a => (.exit 0, [(4,.ptr 0 0),(6,.ptr 1 0)], [.b64 a.xs, .b64 (leftN a.ls a.os (a.n.toNat / 64) (a.n.toNat % 64) (4 - a.n.toNat / 64))])
def left_k : Nat := 0
def left_s : Sm := whS 4 [1,4,5,6,7] left_read left_ok left_E
theorem left_at : SmAt Pr Go.Proofs.Try.f104 0 left_s left_k := by
  refine cnt_at left_S (fun a => 4 - a.n.toNat / 64) (by kernel_rfl) (by kernel_rfl) ?_ ?_ ?_ ?_
  · intro f g a h
    unfold left_read at h
    split at h <;> cases h
    rfl
  · intro a h; cases h
  · intro a hok j hj
    simp only [left_ok, Bool.and_eq_true, decide_eq_true_eq] at hok
    obtain ⟨⟨⟨⟨h1, h2⟩, h3⟩, h4⟩, h5⟩ := hok
    obtain ⟨q, hq⟩ : ∃ q, a.n.toNat / 64 = q := ⟨_, rfl⟩
    obtain ⟨r, hr⟩ : ∃ r, a.n.toNat % 64 = r := ⟨_, rfl⟩
    have hq4 : q < 4 := by omega
    have hr4 : r < 64 := by omega
    have en : a.n = ((a.n.toNat : Nat) : Int) := by omega
    have ed : wrapI .i64 (a.n.tdiv 64) = (q : Int) := by rw [en, tdiv_lit, wrapI_nat (by omega)]; exact congrArg _ hq
    have er : a.n.tmod 64 = (r : Int) := by rw [en, tmod_lit]; exact congrArg _ hr
    have e64 : wrapI .i64 ((64 : Int) - (r : Int)) = ((64 - r : Nat) : Int) := by rw [lit_sub _ _ (by omega), wrapI_nat (by omega)]
    have hl := leftN_length a.ls a.os (a.n.toNat / 64) (a.n.toNat % 64) j
    have hlt : q + j < (leftN a.ls a.os (a.n.toNat / 64) (a.n.toNat % 64) j).length := by omega
    rw [hq] at hj h5
    have ei : iAdd a.i j = ((q + j : Nat) : Int) := by rw [iAdd_eq, h5]; omega
    have ek : wrapI .i64 (((q + j : Nat) : Int) - wrapI .i64 (a.n.tdiv 64)) = ((j : Nat) : Int) := by rw [ed, show ((q + j : Nat) : Int) - (q : Int) = ((j : Nat) : Int) by omega, wrapI_nat (by omega)]
    have ez : wrapI .i64 (((q + j : Nat) : Int) + 1) = iAdd a.i (j + 1) := by rw [add_lit, wrapI_nat (by omega), iAdd_eq, h5]; omega
    by_cases hc : 0 < r ∧ 0 < j
    · refine execN_sound (withAsm_sound (noOrc_sound _)) mixed (LoopsOk.innerAt (LoopsOk.none (P := Pr) (fn := Go.Proofs.Try.f104) (n0 := 0)) 0) (by kernel_rfl) (by intro v h; cases h) ((leftA a.ls (leftN a.ls a.os (a.n.toNat / 64) (a.n.toNat % 64) j) a.xs a.n (iAdd a.i j)).trans ?_)
      have es : wrapI .i64 (((j : Nat) : Int) - 1) = ((j - 1 : Nat) : Int) := by rw [show ((j : Nat) : Int) - 1 = ((j - 1 : Nat) : Int) by omega, wrapI_nat (by omega)]
      refine stX ?_ ?_ ?_
      · simp only [ei, ek, er, e64, es, getD_set_self _ _ _ hlt, List.set_set, List.length_set, Int.toNat_natCast, Nat.mul_one, Nat.zero_add]
        simp only [Bool.and_eq_true, Bool.and_true, Bool.true_and, decide_eq_true_eq, Bool.not_eq_true', decide_eq_false_iff_not]
        (repeat' apply And.intro) <;> first | omega | exact True.intro
      · rw [ei, ez]; rfl
      · simp only [ei, ek, er, e64, es, getD_set_self _ _ _ hlt, List.set_set, List.length_set, Int.toNat_natCast, Nat.mul_one, Nat.zero_add]
        show _ = [Blk.b64 a.xs, Blk.b64 a.ls, Blk.b64 (leftN a.ls a.os (a.n.toNat / 64) (a.n.toNat % 64) (j + 1))]
        rw [leftN]; simp only [hq, hr, lPart, hc, and_self, if_true]
    · by_cases hr0 : 0 < r
      · refine execN_sound (withAsm_sound (noOrc_sound _)) mixed (LoopsOk.innerAt (LoopsOk.none (P := Pr) (fn := Go.Proofs.Try.f104) (n0 := 0)) 0) (by kernel_rfl) (by intro v h; cases h) ((leftB a.ls (leftN a.ls a.os (a.n.toNat / 64) (a.n.toNat % 64) j) a.xs a.n (iAdd a.i j)).trans ?_)
        refine stX ?_ ?_ ?_
        · simp only [ei, ek, er, e64, getD_set_self _ _ _ hlt, List.set_set, List.length_set, Int.toNat_natCast, Nat.mul_one, Nat.zero_add]
          simp only [Bool.and_eq_true, Bool.and_true, Bool.true_and, decide_eq_true_eq, Bool.not_eq_true', decide_eq_false_iff_not]
          (repeat' apply And.intro) <;> first | omega | exact True.intro
        · rw [ei, ez]; rfl
        · simp only [ei, ek, er, e64, getD_set_self _ _ _ hlt, List.set_set, List.length_set, Int.toNat_natCast, Nat.mul_one, Nat.zero_add]
          show _ = [Blk.b64 a.xs, Blk.b64 a.ls, Blk.b64 (leftN a.ls a.os (a.n.toNat / 64) (a.n.toNat % 64) (j + 1))]
          rw [leftN]; simp only [hq, hr, lPart, hc, if_false]
      · refine execN_sound (withAsm_sound (noOrc_sound _)) mixed (LoopsOk.innerAt (LoopsOk.none (P := Pr) (fn := Go.Proofs.Try.f104) (n0 := 0)) 0) (by kernel_rfl) (by intro v h; cases h) ((leftC a.ls (leftN a.ls a.os (a.n.toNat / 64) (a.n.toNat % 64) j) a.xs a.n (iAdd a.i j)).trans ?_)
        refine stX ?_ ?_ ?_
        · simp only [ei, ek, er, e64, getD_set_self _ _ _ hlt, List.set_set, List.length_set, Int.toNat_natCast, Nat.mul_one, Nat.zero_add]
          simp only [Bool.and_eq_true, Bool.and_true, Bool.true_and, decide_eq_true_eq, Bool.not_eq_true', decide_eq_false_iff_not]
          (repeat' apply And.intro) <;> first | omega | exact True.intro
        · rw [ei, ez]; rfl
        · simp only [ei, ek, er, e64, getD_set_self _ _ _ hlt, List.set_set, List.length_set, Int.toNat_natCast, Nat.mul_one, Nat.zero_add]
          show _ = [Blk.b64 a.xs, Blk.b64 a.ls, Blk.b64 (leftN a.ls a.os (a.n.toNat / 64) (a.n.toNat % 64) (j + 1))]
          rw [leftN]; simp only [hq, hr, lPart, hc, if_false]
  · intro a hok
    simp only [left_ok, Bool.and_eq_true, decide_eq_true_eq] at hok
    obtain ⟨⟨⟨⟨h1, h2⟩, h3⟩, h4⟩, h5⟩ := hok
    refine execN_sound (withAsm_sound (noOrc_sound _)) mixed (LoopsOk.innerAt (LoopsOk.none (P := Pr) (fn := Go.Proofs.Try.f104) (n0 := 0)) 0) (by kernel_rfl) (by intro v h; cases h) ((leftZ a.ls (leftN a.ls a.os (a.n.toNat / 64) (a.n.toNat % 64) (4 - a.n.toNat / 64)) a.xs a.n (iAdd a.i (4 - a.n.toNat / 64))).trans ?_)
    refine stX ?_ rfl rfl
    rw [iAdd_eq, h5]
    simp only [Bool.and_true, Bool.not_eq_true', decide_eq_false_iff_not]
    omega
theorem left_x (x : W4) (n : Int) :
  execF Pr (auto Pr ext [] [(81 : FuncId), (107 : FuncId)] (3 : Nat)) (smL (0 : Nat) [left_s]) (100 : Nat)
  Go.Proofs.Try.f104 [x.v, V.int IntKind.i64 n] [] =
  some
  (left_ok
          (MV.mk [x.d, x.c, x.b, x.a]
            [BitVec.ofInt (64 : Nat) (0 : Int), BitVec.ofInt (64 : Nat) (0 : Int), BitVec.ofInt (64 : Nat) (0 : Int),
              BitVec.ofInt (64 : Nat) (0 : Int)]
            [BitVec.ofInt (64 : Nat) (0 : Int), BitVec.ofInt (64 : Nat) (0 : Int), BitVec.ofInt (64 : Nat) (0 : Int),
              BitVec.ofInt (64 : Nat) (0 : Int)]
            n (wrapI IntKind.i64 (n.tdiv (64 : Int)))) &&
        (decide
              ((4 : Nat) ≤
                (leftN [x.d, x.c, x.b, x.a]
                    [BitVec.ofInt (64 : Nat) (0 : Int), BitVec.ofInt (64 : Nat) (0 : Int),
                      BitVec.ofInt (64 : Nat) (0 : Int), BitVec.ofInt (64 : Nat) (0 : Int)]
                    (n.toNat / (64 : Nat)) (n.toNat % (64 : Nat)) ((4 : Nat) - n.toNat / (64 : Nat))).length) &&
            true &&
          true) &&
      true,
    Fin.ret
      (V.agg
        [V.u64
            ((leftN [x.d, x.c, x.b, x.a]
                  [BitVec.ofInt (64 : Nat) (0 : Int), BitVec.ofInt (64 : Nat) (0 : Int),
                    BitVec.ofInt (64 : Nat) (0 : Int), BitVec.ofInt (64 : Nat) (0 : Int)]
                  (n.toNat / (64 : Nat)) (n.toNat % (64 : Nat)) ((4 : Nat) - n.toNat / (64 : Nat))).getD
              (3 : Nat) (OfNat.ofNat (0 : Nat))),
          V.u64
            ((leftN [x.d, x.c, x.b, x.a]
                  [BitVec.ofInt (64 : Nat) (0 : Int), BitVec.ofInt (64 : Nat) (0 : Int),
                    BitVec.ofInt (64 : Nat) (0 : Int), BitVec.ofInt (64 : Nat) (0 : Int)]
                  (n.toNat / (64 : Nat)) (n.toNat % (64 : Nat)) ((4 : Nat) - n.toNat / (64 : Nat))).getD
              (2 : Nat) (OfNat.ofNat (0 : Nat))),
          V.u64
            ((leftN [x.d, x.c, x.b, x.a]
                  [BitVec.ofInt (64 : Nat) (0 : Int), BitVec.ofInt (64 : Nat) (0 : Int),
                    BitVec.ofInt (64 : Nat) (0 : Int), BitVec.ofInt (64 : Nat) (0 : Int)]
                  (n.toNat / (64 : Nat)) (n.toNat % (64 : Nat)) ((4 : Nat) - n.toNat / (64 : Nat))).getD
              (1 : Nat) (OfNat.ofNat (0 : Nat))),
          V.u64
            ((leftN [x.d, x.c, x.b, x.a]
                  [BitVec.ofInt (64 : Nat) (0 : Int), BitVec.ofInt (64 : Nat) (0 : Int),
                    BitVec.ofInt (64 : Nat) (0 : Int), BitVec.ofInt (64 : Nat) (0 : Int)]
                  (n.toNat / (64 : Nat)) (n.toNat % (64 : Nat)) ((4 : Nat) - n.toNat / (64 : Nat))).getD
              (0 : Nat) (OfNat.ofNat (0 : Nat)))]),
    []) := by kernel_rfl
theorem rightA (ls : List (BitVec 64)) (os : List (BitVec 64)) (xs : List (BitVec 64)) (n : Int) (i : Int) (k : Int) :
  execN Pr (withAsm noOrc [((14 : Nat), true), ((30 : Nat), true), ((34 : Nat), true)]) noLoops [] (100 : Nat) (0 : Nat)
  [(1 : Nat), (4 : Nat), (5 : Nat), (6 : Nat), (13 : Nat), (14 : Nat)] (loopBody Go.Proofs.Try.f105 (0 : Nat))
  [((1 : Nat), V.int IntKind.i64 n), ((4 : Nat), V.ptr (0 : Nat) (0 : Nat)), ((5 : Nat), V.ptr (1 : Nat) (0 : Nat)),
    ((6 : Nat), V.ptr (2 : Nat) (0 : Nat)), ((13 : Nat), V.int IntKind.i64 i), ((14 : Nat), V.int IntKind.i64 k)]
  [Blk.b64 xs, Blk.b64 ls, Blk.b64 os] =
  some
  (decide (k < i) && true &&
      (decide ((0 : Int) ≤ wrapI IntKind.i64 (k + wrapI IntKind.i64 (n.tdiv (64 : Int)))) &&
              decide (wrapI IntKind.i64 (k + wrapI IntKind.i64 (n.tdiv (64 : Int))) < (4 : Int)) &&
            (decide
                ((0 : Nat) + (wrapI IntKind.i64 (k + wrapI IntKind.i64 (n.tdiv (64 : Int)))).toNat * (1 : Nat) <
                  ls.length) &&
              (decide ((0 : Int) ≤ n.tmod (64 : Int)) &&
                (decide ((0 : Int) ≤ k) && decide (k < (4 : Int)) &&
                  (decide ((0 : Nat) + k.toNat * (1 : Nat) + (1 : Nat) ≤ os.length) && true)))) &&
          (decide (n.tmod (64 : Int) > (0 : Int)) &&
              (decide
                  (wrapI IntKind.i64 (wrapI IntKind.i64 (k + wrapI IntKind.i64 (n.tdiv (64 : Int))) + (1 : Int)) <
                    (4 : Int)) &&
                true) &&
            (decide ((0 : Int) ≤ k) && decide (k < (4 : Int)) &&
              (decide
                  ((0 : Nat) + k.toNat * (1 : Nat) <
                    (os.set ((0 : Nat) + k.toNat * (1 : Nat))
                        (ls.getD
                            ((0 : Nat) +
                              (wrapI IntKind.i64 (k + wrapI IntKind.i64 (n.tdiv (64 : Int)))).toNat * (1 : Nat))
                            (OfNat.ofNat (0 : Nat)) >>>
                          (n.tmod (64 : Int)).toNat)).length) &&
                (decide
                      ((0 : Int) ≤
                        wrapI IntKind.i64
                          (wrapI IntKind.i64 (k + wrapI IntKind.i64 (n.tdiv (64 : Int))) + (1 : Int))) &&
                    decide
                      (wrapI IntKind.i64 (wrapI IntKind.i64 (k + wrapI IntKind.i64 (n.tdiv (64 : Int))) + (1 : Int)) <
                        (4 : Int)) &&
                  (decide
                      ((0 : Nat) +
                          (wrapI IntKind.i64
                                (wrapI IntKind.i64 (k + wrapI IntKind.i64 (n.tdiv (64 : Int))) + (1 : Int))).toNat *
                            (1 : Nat) <
                        ls.length) &&
                    (decide ((0 : Int) ≤ wrapI IntKind.i64 ((64 : Int) - n.tmod (64 : Int))) &&
                      (decide ((0 : Int) ≤ k) && decide (k < (4 : Int)) &&
                        (decide
                            ((0 : Nat) + k.toNat * (1 : Nat) + (1 : Nat) ≤
                              (os.set ((0 : Nat) + k.toNat * (1 : Nat))
                                  (ls.getD
                                      ((0 : Nat) +
                                        (wrapI IntKind.i64 (k + wrapI IntKind.i64 (n.tdiv (64 : Int)))).toNat *
                                          (1 : Nat))
                                      (OfNat.ofNat (0 : Nat)) >>>
                                    (n.tmod (64 : Int)).toNat)).length) &&
                          true)))))))) &&
        true),
    X.normal,
    [((1 : Nat), V.int IntKind.i64 n), ((4 : Nat), V.ptr (0 : Nat) (0 : Nat)), ((5 : Nat), V.ptr (1 : Nat) (0 : Nat)),
      ((6 : Nat), V.ptr (2 : Nat) (0 : Nat)), ((13 : Nat), V.int IntKind.i64 i),
      ((14 : Nat), V.int IntKind.i64 (wrapI IntKind.i64 (k + (1 : Int))))],
    [Blk.b64 xs, Blk.b64 ls,
      Blk.b64
        ((os.set ((0 : Nat) + k.toNat * (1 : Nat))
              (ls.getD ((0 : Nat) + (wrapI IntKind.i64 (k + wrapI IntKind.i64 (n.tdiv (64 : Int)))).toNat * (1 : Nat))
                  (OfNat.ofNat (0 : Nat)) >>>
                (n.tmod (64 : Int)).toNat)).set
          ((0 : Nat) + k.toNat * (1 : Nat))
          ((os.set ((0 : Nat) + k.toNat * (1 : Nat))
                  (ls.getD
                      ((0 : Nat) + (wrapI IntKind.i64 (k + wrapI IntKind.i64 (n.tdiv (64 : Int)))).toNat * (1 : Nat))
                      (OfNat.ofNat (0 : Nat)) >>>
                    (n.tmod (64 : Int)).toNat)).getD
              ((0 : Nat) + k.toNat * (1 : Nat)) (OfNat.ofNat (0 : Nat)) |||
            ls.getD
                ((0 : Nat) +
                  (wrapI IntKind.i64
                        (wrapI IntKind.i64 (k + wrapI IntKind.i64 (n.tdiv (64 : Int))) + (1 : Int))).toNat *
                    (1 : Nat))
                (OfNat.ofNat (0 : Nat)) <<<
              (wrapI IntKind.i64 ((64 : Int) - n.tmod (64 : Int))).toNat))]) := by kernel_rfl
theorem rightB (ls : List (BitVec 64)) (os : List (BitVec 64)) (xs : List (BitVec 64)) (n : Int) (i : Int) (k : Int) :
  execN Pr (withAsm noOrc [((14 : Nat), true), ((30 : Nat), true), ((34 : Nat), false)]) noLoops [] (100 : Nat)
  (0 : Nat) [(1 : Nat), (4 : Nat), (5 : Nat), (6 : Nat), (13 : Nat), (14 : Nat)] (loopBody Go.Proofs.Try.f105 (0 : Nat))
  [((1 : Nat), V.int IntKind.i64 n), ((4 : Nat), V.ptr (0 : Nat) (0 : Nat)), ((5 : Nat), V.ptr (1 : Nat) (0 : Nat)),
    ((6 : Nat), V.ptr (2 : Nat) (0 : Nat)), ((13 : Nat), V.int IntKind.i64 i), ((14 : Nat), V.int IntKind.i64 k)]
  [Blk.b64 xs, Blk.b64 ls, Blk.b64 os] =
  some
  (decide (k < i) && true &&
      (decide ((0 : Int) ≤ wrapI IntKind.i64 (k + wrapI IntKind.i64 (n.tdiv (64 : Int)))) &&
              decide (wrapI IntKind.i64 (k + wrapI IntKind.i64 (n.tdiv (64 : Int))) < (4 : Int)) &&
            (decide
                ((0 : Nat) + (wrapI IntKind.i64 (k + wrapI IntKind.i64 (n.tdiv (64 : Int)))).toNat * (1 : Nat) <
                  ls.length) &&
              (decide ((0 : Int) ≤ n.tmod (64 : Int)) &&
                (decide ((0 : Int) ≤ k) && decide (k < (4 : Int)) &&
                  (decide ((0 : Nat) + k.toNat * (1 : Nat) + (1 : Nat) ≤ os.length) && true)))) &&
          (decide (n.tmod (64 : Int) > (0 : Int)) &&
              (!decide
                    (wrapI IntKind.i64 (wrapI IntKind.i64 (k + wrapI IntKind.i64 (n.tdiv (64 : Int))) + (1 : Int)) <
                      (4 : Int)) &&
                true) &&
            true) &&
        true),
    X.normal,
    [((1 : Nat), V.int IntKind.i64 n), ((4 : Nat), V.ptr (0 : Nat) (0 : Nat)), ((5 : Nat), V.ptr (1 : Nat) (0 : Nat)),
      ((6 : Nat), V.ptr (2 : Nat) (0 : Nat)), ((13 : Nat), V.int IntKind.i64 i),
      ((14 : Nat), V.int IntKind.i64 (wrapI IntKind.i64 (k + (1 : Int))))],
    [Blk.b64 xs, Blk.b64 ls,
      Blk.b64
        (os.set ((0 : Nat) + k.toNat * (1 : Nat))
          (ls.getD ((0 : Nat) + (wrapI IntKind.i64 (k + wrapI IntKind.i64 (n.tdiv (64 : Int)))).toNat * (1 : Nat))
              (OfNat.ofNat (0 : Nat)) >>>
            (n.tmod (64 : Int)).toNat))]) := by kernel_rfl
theorem rightC (ls : List (BitVec 64)) (os : List (BitVec 64)) (xs : List (BitVec 64)) (n : Int) (i : Int) (k : Int) :
  execN Pr (withAsm noOrc [((14 : Nat), true), ((30 : Nat), false)]) noLoops [] (100 : Nat) (0 : Nat)
  [(1 : Nat), (4 : Nat), (5 : Nat), (6 : Nat), (13 : Nat), (14 : Nat)] (loopBody Go.Proofs.Try.f105 (0 : Nat))
  [((1 : Nat), V.int IntKind.i64 n), ((4 : Nat), V.ptr (0 : Nat) (0 : Nat)), ((5 : Nat), V.ptr (1 : Nat) (0 : Nat)),
    ((6 : Nat), V.ptr (2 : Nat) (0 : Nat)), ((13 : Nat), V.int IntKind.i64 i), ((14 : Nat), V.int IntKind.i64 k)]
  [Blk.b64 xs, Blk.b64 ls, Blk.b64 os] =
  some
  (decide (k < i) && true &&
      (decide ((0 : Int) ≤ wrapI IntKind.i64 (k + wrapI IntKind.i64 (n.tdiv (64 : Int)))) &&
              decide (wrapI IntKind.i64 (k + wrapI IntKind.i64 (n.tdiv (64 : Int))) < (4 : Int)) &&
            (decide
                ((0 : Nat) + (wrapI IntKind.i64 (k + wrapI IntKind.i64 (n.tdiv (64 : Int)))).toNat * (1 : Nat) <
                  ls.length) &&
              (decide ((0 : Int) ≤ n.tmod (64 : Int)) &&
                (decide ((0 : Int) ≤ k) && decide (k < (4 : Int)) &&
                  (decide ((0 : Nat) + k.toNat * (1 : Nat) + (1 : Nat) ≤ os.length) && true)))) &&
          (!decide (n.tmod (64 : Int) > (0 : Int)) && true && true) &&
        true),
    X.normal,
    [((1 : Nat), V.int IntKind.i64 n), ((4 : Nat), V.ptr (0 : Nat) (0 : Nat)), ((5 : Nat), V.ptr (1 : Nat) (0 : Nat)),
      ((6 : Nat), V.ptr (2 : Nat) (0 : Nat)), ((13 : Nat), V.int IntKind.i64 i),
      ((14 : Nat), V.int IntKind.i64 (wrapI IntKind.i64 (k + (1 : Int))))],
    [Blk.b64 xs, Blk.b64 ls,
      Blk.b64
        (os.set ((0 : Nat) + k.toNat * (1 : Nat))
          (ls.getD ((0 : Nat) + (wrapI IntKind.i64 (k + wrapI IntKind.i64 (n.tdiv (64 : Int)))).toNat * (1 : Nat))
              (OfNat.ofNat (0 : Nat)) >>>
            (n.tmod (64 : Int)).toNat))]) := by kernel_rfl
theorem rightZ (ls : List (BitVec 64)) (os : List (BitVec 64)) (xs : List (BitVec 64)) (n : Int) (i : Int) (k : Int) :
  execN Pr (withAsm noOrc [((14 : Nat), false)]) noLoops [] (100 : Nat) (0 : Nat) [(4 : Nat), (6 : Nat)]
  (loopBody Go.Proofs.Try.f105 (0 : Nat))
  [((1 : Nat), V.int IntKind.i64 n), ((4 : Nat), V.ptr (0 : Nat) (0 : Nat)), ((5 : Nat), V.ptr (1 : Nat) (0 : Nat)),
    ((6 : Nat), V.ptr (2 : Nat) (0 : Nat)), ((13 : Nat), V.int IntKind.i64 i), ((14 : Nat), V.int IntKind.i64 k)]
  [Blk.b64 xs, Blk.b64 ls, Blk.b64 os] =
  some
  (!decide (k < i) && true && true, X.exit (0 : Nat),
    [((4 : Nat), V.ptr (0 : Nat) (0 : Nat)), ((6 : Nat), V.ptr (1 : Nat) (0 : Nat))],
    [Blk.b64 xs, Blk.b64 os]) := by kernel_rfl

def right_S : MV → Nat → Fr × Heap := fun a j => ([(1,.int .i64 a.n),(4,.ptr 0 0),(5,.ptr 1 0),(6,.ptr 2 0),(13,.int .i64 a.i),(14,.int .i64 ((j : Nat) : Int))], [.b64 a.xs, .b64 a.ls, .b64 (rightN a.ls a.os (a.n.toNat / 64) (a.n.toNat % 64) j)])
def right_read : Fr → Heap → Option MV := fun f h => match f, h with
  | [(1,.int .i64 n),(4,.ptr 0 0),(5,.ptr 1 0),(6,.ptr 2 0),(13,.int .i64 i),(14,.int .i64 0)], [.b64 xs, .b64 ls, .b64 os] => some ⟨ls, os, xs, n, i⟩
  | _, _ => none
def right_ok : MV → Bool := fun a => decide (a.ls.length = 4) && decide (a.os.length = 4) && decide (0 ≤ a.n) && decide (a.n < 256) && decide (a.i = ((4 - a.n.toNat / 64 : Nat) : Int))
def right_E : MV → X × Fr × Heap := fun a => (.exit 0, [(4,.ptr 0 0),(6,.ptr 1 0)], [.b64 a.xs, .b64 (rightN a.ls a.os (a.n.toNat / 64) (a.n.toNat % 64) (4 - a.n.toNat / 64))])
def right_k : Nat := 0
def right_s : Sm := whS 4 [1,4,5,6,13,14] right_read right_ok right_E
theorem right_at : SmAt Pr Go.Proofs.Try.f105 0 right_s right_k := by
  refine cnt_at right_S (fun a => 4 - a.n.toNat / 64) (by kernel_rfl) (by kernel_rfl) ?_ ?_ ?_ ?_
  · intro f g a h
    unfold right_read at h
    split at h <;> cases h
    rfl
  · intro a h; cases h
  · intro a hok j hj
    simp only [right_ok, Bool.and_eq_true, decide_eq_true_eq] at hok
    obtain ⟨⟨⟨⟨h1, h2⟩, h3⟩, h4⟩, h5⟩ := hok
    obtain ⟨q, hq⟩ : ∃ q, a.n.toNat / 64 = q := ⟨_, rfl⟩
    obtain ⟨r, hr⟩ : ∃ r, a.n.toNat % 64 = r := ⟨_, rfl⟩
    have hq4 : q < 4 := by omega
    have hr4 : r < 64 := by omega
    have en : a.n = ((a.n.toNat : Nat) : Int) := by omega
    have ed : wrapI .i64 (a.n.tdiv 64) = (q : Int) := by rw [en, tdiv_lit, wrapI_nat (by omega)]; exact congrArg _ hq
    have er : a.n.tmod 64 = (r : Int) := by rw [en, tmod_lit]; exact congrArg _ hr
    have e64 : wrapI .i64 ((64 : Int) - (r : Int)) = ((64 - r : Nat) : Int) := by rw [lit_sub _ _ (by omega), wrapI_nat (by omega)]
    have hl := rightN_length a.ls a.os (a.n.toNat / 64) (a.n.toNat % 64) j
    have hlt : j < (rightN a.ls a.os (a.n.toNat / 64) (a.n.toNat % 64) j).length := by omega
    rw [hq] at hj h5
    have ek : wrapI .i64 (((j : Nat) : Int) + wrapI .i64 (a.n.tdiv 64)) = ((j + q : Nat) : Int) := by rw [ed, add_nat, wrapI_nat (by omega)]
    have ez : wrapI .i64 (((j : Nat) : Int) + 1) = ((j + 1 : Nat) : Int) := by rw [add_lit, wrapI_nat (by omega)]
    have es : wrapI .i64 (((j + q : Nat) : Int) + 1) = ((j + q + 1 : Nat) : Int) := by rw [add_lit, wrapI_nat (by omega)]
    by_cases hc : 0 < r ∧ j + q + 1 < 4
    · refine execN_sound (withAsm_sound (noOrc_sound _)) mixed (LoopsOk.innerAt (LoopsOk.none (P := Pr) (fn := Go.Proofs.Try.f105) (n0 := 0)) 0) (by kernel_rfl) (by intro v h; cases h) ((rightA a.ls (rightN a.ls a.os (a.n.toNat / 64) (a.n.toNat % 64) j) a.xs a.n a.i j).trans ?_)
      refine stX ?_ ?_ ?_
      · simp only [ek, er, e64, es, getD_set_self _ _ _ hlt, List.set_set, List.length_set, Int.toNat_natCast, Nat.mul_one, Nat.zero_add]
        simp only [Bool.and_eq_true, Bool.and_true, Bool.true_and, decide_eq_true_eq, Bool.not_eq_true', decide_eq_false_iff_not]
        (repeat' apply And.intro) <;> first | omega | exact True.intro
      · rw [ez]; rfl
      · simp only [ek, er, e64, es, getD_set_self _ _ _ hlt, List.set_set, List.length_set, Int.toNat_natCast, Nat.mul_one, Nat.zero_add]
        show _ = [Blk.b64 a.xs, Blk.b64 a.ls, Blk.b64 (rightN a.ls a.os (a.n.toNat / 64) (a.n.toNat % 64) (j + 1))]
        rw [rightN]; simp only [hq, hr, rPart, hc, and_self, if_true]
    · by_cases hr0 : 0 < r
      · refine execN_sound (withAsm_sound (noOrc_sound _)) mixed (LoopsOk.innerAt (LoopsOk.none (P := Pr) (fn := Go.Proofs.Try.f105) (n0 := 0)) 0) (by kernel_rfl) (by intro v h; cases h) ((rightB a.ls (rightN a.ls a.os (a.n.toNat / 64) (a.n.toNat % 64) j) a.xs a.n a.i j).trans ?_)
        refine stX ?_ ?_ ?_
        · simp only [ek, er, e64, es, getD_set_self _ _ _ hlt, List.set_set, List.length_set, Int.toNat_natCast, Nat.mul_one, Nat.zero_add]
          simp only [Bool.and_eq_true, Bool.and_true, Bool.true_and, decide_eq_true_eq, Bool.not_eq_true', decide_eq_false_iff_not]
          (repeat' apply And.intro) <;> first | omega | exact True.intro
        · rw [ez]; rfl
        · simp only [ek, er, e64, getD_set_self _ _ _ hlt, List.set_set, List.length_set, Int.toNat_natCast, Nat.mul_one, Nat.zero_add]
          show _ = [Blk.b64 a.xs, Blk.b64 a.ls, Blk.b64 (rightN a.ls a.os (a.n.toNat / 64) (a.n.toNat % 64) (j + 1))]
          rw [rightN]; simp only [hq, hr, rPart, hc, if_false]
      · refine execN_sound (withAsm_sound (noOrc_sound _)) mixed (LoopsOk.innerAt (LoopsOk.none (P := Pr) (fn := Go.Proofs.Try.f105) (n0 := 0)) 0) (by kernel_rfl) (by intro v h; cases h) ((rightC a.ls (rightN a.ls a.os (a.n.toNat / 64) (a.n.toNat % 64) j) a.xs a.n a.i j).trans ?_)
        refine stX ?_ ?_ ?_
        · simp only [ek, er, e64, getD_set_self _ _ _ hlt, List.set_set, List.length_set, Int.toNat_natCast, Nat.mul_one, Nat.zero_add]
          simp only [Bool.and_eq_true, Bool.and_true, Bool.true_and, decide_eq_true_eq, Bool.not_eq_true', decide_eq_false_iff_not]
          (repeat' apply And.intro) <;> first | omega | exact True.intro
        · rw [ez]; rfl
        · simp only [ek, er, e64, getD_set_self _ _ _ hlt, List.set_set, List.length_set, Int.toNat_natCast, Nat.mul_one, Nat.zero_add]
          show _ = [Blk.b64 a.xs, Blk.b64 a.ls, Blk.b64 (rightN a.ls a.os (a.n.toNat / 64) (a.n.toNat % 64) (j + 1))]
          rw [rightN]; simp only [hq, hr, rPart, hc, if_false]
  · intro a hok
    simp only [right_ok, Bool.and_eq_true, decide_eq_true_eq] at hok
    obtain ⟨⟨⟨⟨h1, h2⟩, h3⟩, h4⟩, h5⟩ := hok
    refine execN_sound (withAsm_sound (noOrc_sound _)) mixed (LoopsOk.innerAt (LoopsOk.none (P := Pr) (fn := Go.Proofs.Try.f105) (n0 := 0)) 0) (by kernel_rfl) (by intro v h; cases h) ((rightZ a.ls (rightN a.ls a.os (a.n.toNat / 64) (a.n.toNat % 64) (4 - a.n.toNat / 64)) a.xs a.n a.i ((4 - a.n.toNat / 64 : Nat) : Int)).trans ?_)
    refine stX ?_ rfl rfl
    rw [h5]
    simp only [Bool.and_true, Bool.not_eq_true', decide_eq_false_iff_not]
    omega
theorem right_x (x : W4) (n : Int) :
  execF Pr (auto Pr ext [] [(81 : FuncId), (107 : FuncId)] (3 : Nat)) (smL (0 : Nat) [right_s]) (100 : Nat)
  Go.Proofs.Try.f105 [x.v, V.int IntKind.i64 n] [] =
  some
  (right_ok
          (MV.mk [x.d, x.c, x.b, x.a]
            [BitVec.ofInt (64 : Nat) (0 : Int), BitVec.ofInt (64 : Nat) (0 : Int), BitVec.ofInt (64 : Nat) (0 : Int),
              BitVec.ofInt (64 : Nat) (0 : Int)]
            [BitVec.ofInt (64 : Nat) (0 : Int), BitVec.ofInt (64 : Nat) (0 : Int), BitVec.ofInt (64 : Nat) (0 : Int),
              BitVec.ofInt (64 : Nat) (0 : Int)]
            n (wrapI IntKind.i64 ((4 : Int) - wrapI IntKind.i64 (n.tdiv (64 : Int))))) &&
        (decide
              ((4 : Nat) ≤
                (rightN [x.d, x.c, x.b, x.a]
                    [BitVec.ofInt (64 : Nat) (0 : Int), BitVec.ofInt (64 : Nat) (0 : Int),
                      BitVec.ofInt (64 : Nat) (0 : Int), BitVec.ofInt (64 : Nat) (0 : Int)]
                    (n.toNat / (64 : Nat)) (n.toNat % (64 : Nat)) ((4 : Nat) - n.toNat / (64 : Nat))).length) &&
            true &&
          true) &&
      true,
    Fin.ret
      (V.agg
        [V.u64
            ((rightN [x.d, x.c, x.b, x.a]
                  [BitVec.ofInt (64 : Nat) (0 : Int), BitVec.ofInt (64 : Nat) (0 : Int),
                    BitVec.ofInt (64 : Nat) (0 : Int), BitVec.ofInt (64 : Nat) (0 : Int)]
                  (n.toNat / (64 : Nat)) (n.toNat % (64 : Nat)) ((4 : Nat) - n.toNat / (64 : Nat))).getD
              (3 : Nat) (OfNat.ofNat (0 : Nat))),
          V.u64
            ((rightN [x.d, x.c, x.b, x.a]
                  [BitVec.ofInt (64 : Nat) (0 : Int), BitVec.ofInt (64 : Nat) (0 : Int),
                    BitVec.ofInt (64 : Nat) (0 : Int), BitVec.ofInt (64 : Nat) (0 : Int)]
                  (n.toNat / (64 : Nat)) (n.toNat % (64 : Nat)) ((4 : Nat) - n.toNat / (64 : Nat))).getD
              (2 : Nat) (OfNat.ofNat (0 : Nat))),
          V.u64
            ((rightN [x.d, x.c, x.b, x.a]
                  [BitVec.ofInt (64 : Nat) (0 : Int), BitVec.ofInt (64 : Nat) (0 : Int),
                    BitVec.ofInt (64 : Nat) (0 : Int), BitVec.ofInt (64 : Nat) (0 : Int)]
                  (n.toNat / (64 : Nat)) (n.toNat % (64 : Nat)) ((4 : Nat) - n.toNat / (64 : Nat))).getD
              (1 : Nat) (OfNat.ofNat (0 : Nat))),
          V.u64
            ((rightN [x.d, x.c, x.b, x.a]
                  [BitVec.ofInt (64 : Nat) (0 : Int), BitVec.ofInt (64 : Nat) (0 : Int),
                    BitVec.ofInt (64 : Nat) (0 : Int), BitVec.ofInt (64 : Nat) (0 : Int)]
                  (n.toNat / (64 : Nat)) (n.toNat % (64 : Nat)) ((4 : Nat) - n.toNat / (64 : Nat))).getD
              (0 : Nat) (OfNat.ofNat (0 : Nat)))]),
    []) := by kernel_rfl
end
end Go.Proofs.Ytajbaocfdlopbaa.K
end
section
open Go Go.Lh
namespace Go.Proofs.Ytajbaocfdlopbaa.K
noncomputable section
set_option maxRecDepth 100000
def z4 : List (BitVec 64) := [BitVec.ofInt 64 0, BitVec.ofInt 64 0, BitVec.ofInt 64 0, BitVec.ofInt 64 0]
theorem left_list (x : W4) (q r : Nat) (hq : q < 4) : leftN [x.d, x.c, x.b, x.a] z4 q r (4 - q) = [W4.lP x q r 0, W4.lP x q r 1, W4.lP x q r 2, W4.lP x q r 3] := by
  have h4 : q = 0 ∨ q = 1 ∨ q = 2 ∨ q = 3 := by omega
  rcases h4 with rfl | rfl | rfl | rfl <;> simp [leftN, lPart, W4.lP, W4.lo, z4]
theorem right_list (x : W4) (q r : Nat) (hq : q < 4) : rightN [x.d, x.c, x.b, x.a] z4 q r (4 - q) = [W4.rP x q r 0, W4.rP x q r 1, W4.rP x q r 2, W4.rP x q r 3] := by
  have h4 : q = 0 ∨ q = 1 ∨ q = 2 ∨ q = 3 := by omega
  rcases h4 with rfl | rfl | rfl | rfl <;> simp [rightN, rPart, W4.rP, W4.lo, z4]
def OW3 : Orc := auto Pr ext [] [81, 107] 3
theorem OW3_sound : OrcSound Pr OW3 := auto_sound mixed ext_ok KOk.nil (by kernel_rfl) 3
theorem leftL : LoopsOk Pr Go.Proofs.Try.f104 0 (smL 0 [left_s]) := LoopsOk.of [(left_s, left_k)] (by kernel_rfl) (by
  intro p hp
  simp only [List.mem_cons, List.not_mem_nil, or_false] at hp
  subst hp
  exact left_at)
theorem rightL : LoopsOk Pr Go.Proofs.Try.f105 0 (smL 0 [right_s]) := LoopsOk.of [(right_s, right_k)] (by kernel_rfl) (by
  intro p hp
  simp only [List.mem_cons, List.not_mem_nil, or_false] at hp
  subst hp
  exact right_at)
theorem div_i {n : Int} (h : 0 ≤ n) (h2 : n < 256) : wrapI .i64 (n.tdiv 64) = ((n.toNat / 64 : Nat) : Int) := by
  have en : n = ((n.toNat : Nat) : Int) := by omega
  rw [en, tdiv_lit, wrapI_nat (by omega)]; rfl
theorem left_fn (x : W4) (n : Int) (h : 0 ≤ n) (h2 : n < 256) : LFn Pr 104 [x.v, .int .i64 n] [] (.ret (W4.shl x n.toNat).v) [] := by
  have hq : n.toNat / 64 < 4 := by omega
  have hr : n.toNat % 64 < 64 := Nat.mod_lt _ (by omega)
  have hl := left_list x (n.toNat / 64) (n.toNat % 64) hq
  unfold z4 at hl
  refine execF_sound (fn := Go.Proofs.Try.f104) OW3_sound mixed (by kernel_rfl) leftL ((left_x x n).trans (stF ?_ ?_ rfl))
  · rw [hl, div_i h h2]
    simp [left_ok, h, h2]
  · rw [hl, show n.toNat = 64 * (n.toNat / 64) + n.toNat % 64 by omega, ← W4.shlP_eq x _ _ (by omega) (by omega)]
    have e1 : (64 * (n.toNat / 64) + n.toNat % 64) / 64 = n.toNat / 64 := by omega
    have e2 : (64 * (n.toNat / 64) + n.toNat % 64) % 64 = n.toNat % 64 := by omega
    simp only [e1, e2]
    rfl
theorem right_fn (x : W4) (n : Int) (h : 0 ≤ n) (h2 : n < 256) : LFn Pr 105 [x.v, .int .i64 n] [] (.ret (W4.shr x n.toNat).v) [] := by
  have hq : n.toNat / 64 < 4 := by omega
  have hr : n.toNat % 64 < 64 := Nat.mod_lt _ (by omega)
  have hl := right_list x (n.toNat / 64) (n.toNat % 64) hq
  unfold z4 at hl
  have e4 : wrapI .i64 ((4 : Int) - ((n.toNat / 64 : Nat) : Int)) = ((4 - n.toNat / 64 : Nat) : Int) := by rw [lit_sub _ _ (by omega), wrapI_nat (by omega)]
  refine execF_sound (fn := Go.Proofs.Try.f105) OW3_sound mixed (by kernel_rfl) rightL ((right_x x n).trans (stF ?_ ?_ rfl))
  · rw [hl, div_i h h2, e4]
    simp [right_ok, h, h2]
  · rw [hl, show n.toNat = 64 * (n.toNat / 64) + n.toNat % 64 by omega, ← W4.shrP_eq x _ _ (by omega) (by omega)]
    have e1 : (64 * (n.toNat / 64) + n.toNat % 64) / 64 = n.toNat / 64 := by omega
    have e2 : (64 * (n.toNat / 64) + n.toNat % 64) % 64 = n.toNat % 64 := by omega
    simp only [e1, e2]
    rfl
end
end Go.Proofs.Ytajbaocfdlopbaa.K
end
section
open Go Go.Lh
namespace Go.Proofs.Ytajbaocfdlopbaa.K
noncomputable section
set_option maxRecDepth 100000
def OW4 : Orc := auto Pr ext [] [81, 107, 124, 125] 4
theorem OW4_sound : OrcSound Pr OW4 := auto_sound mixed ext_ok KOk.nil (by kernel_rfl) 4
theorem or_fn (x y : W4) : LFn Pr 120 [x.v, y.v] [] (.ret (W4.orW x y).v) [] :=
  execFD_sound (fn := Go.Proofs.Try.f120) OW4_sound mixed (by kernel_rfl) (fun _ _ _ _ => LoopOk.none) (show execFD Pr OW4 noLoops [] 100 Go.Proofs.Try.f120 [x.v, y.v] [] = some (true, .ret (W4.orW x y).v, []) by kernel_rfl)
theorem from_fn (x : BitVec 64) : LFn Pr 36 [.u64 x] [] (.ret (W4.small x).v) [] :=
  execFD_sound (fn := Go.Proofs.Try.f36) OW4_sound mixed (by kernel_rfl) (fun _ _ _ _ => LoopOk.none) (show execFD Pr OW4 noLoops [] 100 Go.Proofs.Try.f36 [.u64 x] [] = some (true, .ret (W4.small x).v, []) by kernel_rfl)
def lenTab : List (BitVec 8) := (bytesOf (ByteArray.mk (([0, 1, 2, 2, 3, 3, 3, 3, 4, 4, 4, 4, 4, 4, 4, 4, 5, 5, 5, 5, 5, 5, 5, 5, 5, 5, 5, 5, 5, 5, 5, 5, 6, 6, 6, 6, 6, 6, 6, 6, 6, 6, 6, 6, 6, 6, 6, 6, 6, 6, 6, 6, 6, 6, 6, 6, 6, 6, 6, 6, 6, 6, 6, 6].append [7, 7, 7, 7, 7, 7, 7, 7, 7, 7, 7, 7, 7, 7, 7, 7, 7, 7, 7, 7, 7, 7, 7, 7, 7, 7, 7, 7, 7, 7, 7, 7, 7, 7, 7, 7, 7, 7, 7, 7, 7, 7, 7, 7, 7, 7, 7, 7, 7, 7, 7, 7, 7, 7, 7, 7, 7, 7, 7, 7, 7, 7, 7, 7]).append ([8, 8, 8, 8, 8, 8, 8, 8, 8, 8, 8, 8, 8, 8, 8, 8, 8, 8, 8, 8, 8, 8, 8, 8, 8, 8, 8, 8, 8, 8, 8, 8, 8, 8, 8, 8, 8, 8, 8, 8, 8, 8, 8, 8, 8, 8, 8, 8, 8, 8, 8, 8, 8, 8, 8, 8, 8, 8, 8, 8, 8, 8, 8, 8].append [8, 8, 8, 8, 8, 8, 8, 8, 8, 8, 8, 8, 8, 8, 8, 8, 8, 8, 8, 8, 8, 8, 8, 8, 8, 8, 8, 8, 8, 8, 8, 8, 8, 8, 8, 8, 8, 8, 8, 8, 8, 8, 8, 8, 8, 8, 8, 8, 8, 8, 8, 8, 8, 8, 8, 8, 8, 8, 8, 8, 8, 8, 8, 8])).toArray))
theorem len_yyy (x : BitVec 64) :
  execFD Pr (withAsm OW4 [((3 : Nat), true), ((7 : Nat), true), ((13 : Nat), true)]) noLoops [] (100 : Nat)
  Go.Proofs.Try.f123 [V.u64 x] [] =
  some
  (decide (BitVec.ofInt (64 : Nat) (4294967296 : Int) ≤ x) && true && true &&
        (decide (BitVec.ofInt (64 : Nat) (65536 : Int) ≤ x >>> (32 : Nat)) && true && true &&
          (decide (BitVec.ofInt (64 : Nat) (256 : Int) ≤ x >>> (32 : Nat) >>> (16 : Nat)) && true && true &&
            (decide
                  ((↑(BitVec.setWidth (8 : Nat) (x >>> (32 : Nat) >>> (16 : Nat) >>> (8 : Nat))).toNat : Int) <
                    (256 : Int)) &&
                true &&
              true))) &&
      true,
    Fin.ret
      (V.int IntKind.i64
        (wrapI IntKind.i64
          ((56 : Int) +
            (↑(lenTab.getD
                    (BitVec.setWidth (8 : Nat) (x >>> (32 : Nat) >>> (16 : Nat) >>> (8 : Nat))).toNat
                    (OfNat.ofNat (0 : Nat))).toNat :
              Int)))),
    []) := by kernel_rfl
theorem len_yyn (x : BitVec 64) :
  execFD Pr (withAsm OW4 [((3 : Nat), true), ((7 : Nat), true), ((13 : Nat), false)]) noLoops [] (100 : Nat)
  Go.Proofs.Try.f123 [V.u64 x] [] =
  some
  (decide (BitVec.ofInt (64 : Nat) (4294967296 : Int) ≤ x) && true && true &&
        (decide (BitVec.ofInt (64 : Nat) (65536 : Int) ≤ x >>> (32 : Nat)) && true && true &&
          (!decide (BitVec.ofInt (64 : Nat) (256 : Int) ≤ x >>> (32 : Nat) >>> (16 : Nat)) && true && true &&
            (decide ((↑(BitVec.setWidth (8 : Nat) (x >>> (32 : Nat) >>> (16 : Nat))).toNat : Int) < (256 : Int)) &&
                true &&
              true))) &&
      true,
    Fin.ret
      (V.int IntKind.i64
        (wrapI IntKind.i64
          ((48 : Int) +
            (↑(lenTab.getD
                    (BitVec.setWidth (8 : Nat) (x >>> (32 : Nat) >>> (16 : Nat))).toNat (OfNat.ofNat (0 : Nat))).toNat :
              Int)))),
    []) := by kernel_rfl
theorem len_yny (x : BitVec 64) :
  execFD Pr (withAsm OW4 [((3 : Nat), true), ((7 : Nat), false), ((13 : Nat), true)]) noLoops [] (100 : Nat)
  Go.Proofs.Try.f123 [V.u64 x] [] =
  some
  (decide (BitVec.ofInt (64 : Nat) (4294967296 : Int) ≤ x) && true && true &&
        (!decide (BitVec.ofInt (64 : Nat) (65536 : Int) ≤ x >>> (32 : Nat)) && true && true &&
          (decide (BitVec.ofInt (64 : Nat) (256 : Int) ≤ x >>> (32 : Nat)) && true && true &&
            (decide ((↑(BitVec.setWidth (8 : Nat) (x >>> (32 : Nat) >>> (8 : Nat))).toNat : Int) < (256 : Int)) &&
                true &&
              true))) &&
      true,
    Fin.ret
      (V.int IntKind.i64
        (wrapI IntKind.i64
          ((40 : Int) +
            (↑(lenTab.getD
                    (BitVec.setWidth (8 : Nat) (x >>> (32 : Nat) >>> (8 : Nat))).toNat (OfNat.ofNat (0 : Nat))).toNat :
              Int)))),
    []) := by kernel_rfl
theorem len_ynn (x : BitVec 64) :
  execFD Pr (withAsm OW4 [((3 : Nat), true), ((7 : Nat), false), ((13 : Nat), false)]) noLoops [] (100 : Nat)
  Go.Proofs.Try.f123 [V.u64 x] [] =
  some
  (decide (BitVec.ofInt (64 : Nat) (4294967296 : Int) ≤ x) && true && true &&
        (!decide (BitVec.ofInt (64 : Nat) (65536 : Int) ≤ x >>> (32 : Nat)) && true && true &&
          (!decide (BitVec.ofInt (64 : Nat) (256 : Int) ≤ x >>> (32 : Nat)) && true && true &&
            (decide ((↑(BitVec.setWidth (8 : Nat) (x >>> (32 : Nat))).toNat : Int) < (256 : Int)) && true && true))) &&
      true,
    Fin.ret
      (V.int IntKind.i64
        (wrapI IntKind.i64
          ((32 : Int) +
            (↑(lenTab.getD
                    (BitVec.setWidth (8 : Nat) (x >>> (32 : Nat))).toNat (OfNat.ofNat (0 : Nat))).toNat :
              Int)))),
    []) := by kernel_rfl
theorem len_nyy (x : BitVec 64) :
  execFD Pr (withAsm OW4 [((3 : Nat), false), ((7 : Nat), true), ((13 : Nat), true)]) noLoops [] (100 : Nat)
  Go.Proofs.Try.f123 [V.u64 x] [] =
  some
  (!decide (BitVec.ofInt (64 : Nat) (4294967296 : Int) ≤ x) && true && true &&
        (decide (BitVec.ofInt (64 : Nat) (65536 : Int) ≤ x) && true && true &&
          (decide (BitVec.ofInt (64 : Nat) (256 : Int) ≤ x >>> (16 : Nat)) && true && true &&
            (decide ((↑(BitVec.setWidth (8 : Nat) (x >>> (16 : Nat) >>> (8 : Nat))).toNat : Int) < (256 : Int)) &&
                true &&
              true))) &&
      true,
    Fin.ret
      (V.int IntKind.i64
        (wrapI IntKind.i64
          ((24 : Int) +
            (↑(lenTab.getD
                    (BitVec.setWidth (8 : Nat) (x >>> (16 : Nat) >>> (8 : Nat))).toNat (OfNat.ofNat (0 : Nat))).toNat :
              Int)))),
    []) := by kernel_rfl
theorem len_nyn (x : BitVec 64) :
  execFD Pr (withAsm OW4 [((3 : Nat), false), ((7 : Nat), true), ((13 : Nat), false)]) noLoops [] (100 : Nat)
  Go.Proofs.Try.f123 [V.u64 x] [] =
  some
  (!decide (BitVec.ofInt (64 : Nat) (4294967296 : Int) ≤ x) && true && true &&
        (decide (BitVec.ofInt (64 : Nat) (65536 : Int) ≤ x) && true && true &&
          (!decide (BitVec.ofInt (64 : Nat) (256 : Int) ≤ x >>> (16 : Nat)) && true && true &&
            (decide ((↑(BitVec.setWidth (8 : Nat) (x >>> (16 : Nat))).toNat : Int) < (256 : Int)) && true && true))) &&
      true,
    Fin.ret
      (V.int IntKind.i64
        (wrapI IntKind.i64
          ((16 : Int) +
            (↑(lenTab.getD
                    (BitVec.setWidth (8 : Nat) (x >>> (16 : Nat))).toNat (OfNat.ofNat (0 : Nat))).toNat :
              Int)))),
    []) := by kernel_rfl
theorem len_nny (x : BitVec 64) :
  execFD Pr (withAsm OW4 [((3 : Nat), false), ((7 : Nat), false), ((13 : Nat), true)]) noLoops [] (100 : Nat)
  Go.Proofs.Try.f123 [V.u64 x] [] =
  some
  (!decide (BitVec.ofInt (64 : Nat) (4294967296 : Int) ≤ x) && true && true &&
        (!decide (BitVec.ofInt (64 : Nat) (65536 : Int) ≤ x) && true && true &&
          (decide (BitVec.ofInt (64 : Nat) (256 : Int) ≤ x) && true && true &&
            (decide ((↑(BitVec.setWidth (8 : Nat) (x >>> (8 : Nat))).toNat : Int) < (256 : Int)) && true && true))) &&
      true,
    Fin.ret
      (V.int IntKind.i64
        (wrapI IntKind.i64
          ((8 : Int) +
            (↑(lenTab.getD
                    (BitVec.setWidth (8 : Nat) (x >>> (8 : Nat))).toNat (OfNat.ofNat (0 : Nat))).toNat :
              Int)))),
    []) := by kernel_rfl
theorem len_nnn (x : BitVec 64) :
  execFD Pr (withAsm OW4 [((3 : Nat), false), ((7 : Nat), false), ((13 : Nat), false)]) noLoops [] (100 : Nat)
  Go.Proofs.Try.f123 [V.u64 x] [] =
  some
  (!decide (BitVec.ofInt (64 : Nat) (4294967296 : Int) ≤ x) && true && true &&
        (!decide (BitVec.ofInt (64 : Nat) (65536 : Int) ≤ x) && true && true &&
          (!decide (BitVec.ofInt (64 : Nat) (256 : Int) ≤ x) && true && true &&
            (decide ((↑(BitVec.setWidth (8 : Nat) x).toNat : Int) < (256 : Int)) && true && true))) &&
      true,
    Fin.ret
      (V.int IntKind.i64
        (wrapI IntKind.i64
          ((0 : Int) +
            (↑(lenTab.getD
                    (BitVec.setWidth (8 : Nat) x).toNat (OfNat.ofNat (0 : Nat))).toNat :
              Int)))),
    []) := by kernel_rfl
end
end Go.Proofs.Ytajbaocfdlopbaa.K
end
section
open Go Go.Lh
namespace Go.Proofs.Ytajbaocfdlopbaa.K
noncomputable section
set_option maxRecDepth 100000
def lenN (n : Nat) : Nat := if n = 0 then 0 else Nat.log2 n + 1
theorem lenN_half {n : Nat} (h : 1 ≤ n) : lenN n = lenN (n / 2) + 1 := by
  unfold lenN
  rw [if_neg (by omega)]
  by_cases h2 : n / 2 = 0
  · have : n = 1 := by omega
    subst this
    rfl
  · rw [if_neg h2, Nat.log2_def, if_pos (by omega)]
theorem lenN_shift {s : Nat} : ∀ {n : Nat}, 2 ^ s ≤ n → lenN n = lenN (n / 2 ^ s) + s := by
  induction s with
  | zero => intro n h; simp
  | succ s ih =>
    intro n h
    have e : 2 ^ (s + 1) = 2 * 2 ^ s := by rw [Nat.pow_succ, Nat.mul_comm]
    have p : 0 < 2 ^ s := Nat.two_pow_pos s
    rw [e] at h ⊢
    rw [lenN_half (by omega), ih (by omega), Nat.div_div_eq_div_mul]
    omega
theorem tab_all : (List.range 256).all (fun i => (lenTab.getD i (OfNat.ofNat 0)).toNat == lenN i && Nat.ble (lenN i) 8) = true := by kernel_rfl
theorem lenIx {y : BitVec 64} (h : y.toNat < 256) : (lenTab.getD (BitVec.setWidth 8 y).toNat (OfNat.ofNat 0)).toNat = lenN y.toNat ∧ lenN y.toNat ≤ 8 := by
  have e : (BitVec.setWidth 8 y).toNat = y.toNat := by rw [BitVec.toNat_setWidth, Nat.mod_eq_of_lt h]
  have := List.all_eq_true.1 tab_all y.toNat (List.mem_range.2 h)
  simp only [Bool.and_eq_true, beq_iff_eq] at this
  rw [e]
  exact ⟨this.1, Nat.le_of_ble_eq_true this.2⟩
theorem sh_n (x : BitVec 64) (s : Nat) : (x >>> s).toNat = x.toNat / 2 ^ s := by rw [BitVec.toNat_ushiftRight, Nat.shiftRight_eq_div_pow]
theorem b32 (x : BitVec 64) : (BitVec.ofInt 64 4294967296 ≤ x) = (4294967296 ≤ x.toNat) := rfl
theorem b16 (x : BitVec 64) : (BitVec.ofInt 64 65536 ≤ x) = (65536 ≤ x.toNat) := rfl
theorem b8 (x : BitVec 64) : (BitVec.ofInt 64 256 ≤ x) = (256 ≤ x.toNat) := rfl
theorem len_end (c k m : Nat) (h : k ≤ 8) (hc : c ≤ 100) (e : m = k + c) : wrapI .i64 ((c : Int) + (k : Int)) = (m : Int) := by
  rw [wrapI_in (by omega) (by omega), e]; omega
theorem len64_fn (x : BitVec 64) : LFn Pr 123 [.u64 x] [] (.ret (.int .i64 (lenN x.toNat : Nat))) [] := by
  have hx := x.isLt
  by_cases h0 : 4294967296 ≤ x.toNat
  · skip
    by_cases h1 : 65536 ≤ (x >>> 32).toNat
    · skip
      by_cases h2 : 256 ≤ ((x >>> 32) >>> 16).toNat
      · skip
        have h4 : (((x >>> 32) >>> 16) >>> 8).toNat < 256 := by (try simp only [sh_n] at *); omega
        obtain ⟨t1, t2⟩ := lenIx h4
        have e0 : lenN x.toNat = lenN (x >>> 32).toNat + 32 := by rw [sh_n x 32]; exact lenN_shift (s := 32) (by omega)
        have e1 : lenN (x >>> 32).toNat = lenN ((x >>> 32) >>> 16).toNat + 16 := by rw [sh_n (x >>> 32) 16]; exact lenN_shift (s := 16) (by omega)
        have e2 : lenN ((x >>> 32) >>> 16).toNat = lenN (((x >>> 32) >>> 16) >>> 8).toNat + 8 := by rw [sh_n ((x >>> 32) >>> 16) 8]; exact lenN_shift (s := 8) (by omega)
        refine execFD_sound (fn := Go.Proofs.Try.f123) (withAsm_sound OW4_sound) mixed (by kernel_rfl) (fun _ _ _ _ => LoopOk.none) ((len_yyy x).trans (stF ?_ ?_ rfl))
        · simp only [b32, b16, b8, Bool.and_eq_true, Bool.and_true, decide_eq_true_eq, Bool.not_eq_true', decide_eq_false_iff_not, BitVec.toNat_setWidth]
          refine ⟨by omega, by omega, by omega, by omega⟩
        · rw [t1]
          exact congrArg (fun z => Fin.ret (V.int IntKind.i64 z)) (len_end 56 _ _ t2 (by omega) (by omega))
      · skip
        have h4 : ((x >>> 32) >>> 16).toNat < 256 := by (try simp only [sh_n] at *); omega
        obtain ⟨t1, t2⟩ := lenIx h4
        have e0 : lenN x.toNat = lenN (x >>> 32).toNat + 32 := by rw [sh_n x 32]; exact lenN_shift (s := 32) (by omega)
        have e1 : lenN (x >>> 32).toNat = lenN ((x >>> 32) >>> 16).toNat + 16 := by rw [sh_n (x >>> 32) 16]; exact lenN_shift (s := 16) (by omega)
        refine execFD_sound (fn := Go.Proofs.Try.f123) (withAsm_sound OW4_sound) mixed (by kernel_rfl) (fun _ _ _ _ => LoopOk.none) ((len_yyn x).trans (stF ?_ ?_ rfl))
        · simp only [b32, b16, b8, Bool.and_eq_true, Bool.and_true, decide_eq_true_eq, Bool.not_eq_true', decide_eq_false_iff_not, BitVec.toNat_setWidth]
          refine ⟨by omega, by omega, by omega, by omega⟩
        · rw [t1]
          exact congrArg (fun z => Fin.ret (V.int IntKind.i64 z)) (len_end 48 _ _ t2 (by omega) (by omega))
    · skip
      by_cases h2 : 256 ≤ (x >>> 32).toNat
      · skip
        have h4 : ((x >>> 32) >>> 8).toNat < 256 := by (try simp only [sh_n] at *); omega
        obtain ⟨t1, t2⟩ := lenIx h4
        have e0 : lenN x.toNat = lenN (x >>> 32).toNat + 32 := by rw [sh_n x 32]; exact lenN_shift (s := 32) (by omega)
        have e2 : lenN (x >>> 32).toNat = lenN ((x >>> 32) >>> 8).toNat + 8 := by rw [sh_n (x >>> 32) 8]; exact lenN_shift (s := 8) (by omega)
        refine execFD_sound (fn := Go.Proofs.Try.f123) (withAsm_sound OW4_sound) mixed (by kernel_rfl) (fun _ _ _ _ => LoopOk.none) ((len_yny x).trans (stF ?_ ?_ rfl))
        · simp only [b32, b16, b8, Bool.and_eq_true, Bool.and_true, decide_eq_true_eq, Bool.not_eq_true', decide_eq_false_iff_not, BitVec.toNat_setWidth]
          refine ⟨by omega, by omega, by omega, by omega⟩
        · rw [t1]
          exact congrArg (fun z => Fin.ret (V.int IntKind.i64 z)) (len_end 40 _ _ t2 (by omega) (by omega))
      · skip
        have h4 : (x >>> 32).toNat < 256 := by (try simp only [sh_n] at *); omega
        obtain ⟨t1, t2⟩ := lenIx h4
        have e0 : lenN x.toNat = lenN (x >>> 32).toNat + 32 := by rw [sh_n x 32]; exact lenN_shift (s := 32) (by omega)
        refine execFD_sound (fn := Go.Proofs.Try.f123) (withAsm_sound OW4_sound) mixed (by kernel_rfl) (fun _ _ _ _ => LoopOk.none) ((len_ynn x).trans (stF ?_ ?_ rfl))
        · simp only [b32, b16, b8, Bool.and_eq_true, Bool.and_true, decide_eq_true_eq, Bool.not_eq_true', decide_eq_false_iff_not, BitVec.toNat_setWidth]
          refine ⟨by omega, by omega, by omega, by omega⟩
        · rw [t1]
          exact congrArg (fun z => Fin.ret (V.int IntKind.i64 z)) (len_end 32 _ _ t2 (by omega) (by omega))
  · skip
    by_cases h1 : 65536 ≤ x.toNat
    · skip
      by_cases h2 : 256 ≤ (x >>> 16).toNat
      · skip
        have h4 : ((x >>> 16) >>> 8).toNat < 256 := by (try simp only [sh_n] at *); omega
        obtain ⟨t1, t2⟩ := lenIx h4
        have e1 : lenN x.toNat = lenN (x >>> 16).toNat + 16 := by rw [sh_n x 16]; exact lenN_shift (s := 16) (by omega)
        have e2 : lenN (x >>> 16).toNat = lenN ((x >>> 16) >>> 8).toNat + 8 := by rw [sh_n (x >>> 16) 8]; exact lenN_shift (s := 8) (by omega)
        refine execFD_sound (fn := Go.Proofs.Try.f123) (withAsm_sound OW4_sound) mixed (by kernel_rfl) (fun _ _ _ _ => LoopOk.none) ((len_nyy x).trans (stF ?_ ?_ rfl))
        · simp only [b32, b16, b8, Bool.and_eq_true, Bool.and_true, decide_eq_true_eq, Bool.not_eq_true', decide_eq_false_iff_not, BitVec.toNat_setWidth]
          refine ⟨by omega, by omega, by omega, by omega⟩
        · rw [t1]
          exact congrArg (fun z => Fin.ret (V.int IntKind.i64 z)) (len_end 24 _ _ t2 (by omega) (by omega))
      · skip
        have h4 : (x >>> 16).toNat < 256 := by (try simp only [sh_n] at *); omega
        obtain ⟨t1, t2⟩ := lenIx h4
        have e1 : lenN x.toNat = lenN (x >>> 16).toNat + 16 := by rw [sh_n x 16]; exact lenN_shift (s := 16) (by omega)
        refine execFD_sound (fn := Go.Proofs.Try.f123) (withAsm_sound OW4_sound) mixed (by kernel_rfl) (fun _ _ _ _ => LoopOk.none) ((len_nyn x).trans (stF ?_ ?_ rfl))
        · simp only [b32, b16, b8, Bool.and_eq_true, Bool.and_true, decide_eq_true_eq, Bool.not_eq_true', decide_eq_false_iff_not, BitVec.toNat_setWidth]
          refine ⟨by omega, by omega, by omega, by omega⟩
        · rw [t1]
          exact congrArg (fun z => Fin.ret (V.int IntKind.i64 z)) (len_end 16 _ _ t2 (by omega) (by omega))
    · skip
      by_cases h2 : 256 ≤ x.toNat
      · skip
        have h4 : (x >>> 8).toNat < 256 := by (try simp only [sh_n] at *); omega
        obtain ⟨t1, t2⟩ := lenIx h4
        have e2 : lenN x.toNat = lenN (x >>> 8).toNat + 8 := by rw [sh_n x 8]; exact lenN_shift (s := 8) (by omega)
        refine execFD_sound (fn := Go.Proofs.Try.f123) (withAsm_sound OW4_sound) mixed (by kernel_rfl) (fun _ _ _ _ => LoopOk.none) ((len_nny x).trans (stF ?_ ?_ rfl))
        · simp only [b32, b16, b8, Bool.and_eq_true, Bool.and_true, decide_eq_true_eq, Bool.not_eq_true', decide_eq_false_iff_not, BitVec.toNat_setWidth]
          refine ⟨by omega, by omega, by omega, by omega⟩
        · rw [t1]
          exact congrArg (fun z => Fin.ret (V.int IntKind.i64 z)) (len_end 8 _ _ t2 (by omega) (by omega))
      · skip
        have h4 : x.toNat < 256 := by (try simp only [sh_n] at *); omega
        obtain ⟨t1, t2⟩ := lenIx h4
        refine execFD_sound (fn := Go.Proofs.Try.f123) (withAsm_sound OW4_sound) mixed (by kernel_rfl) (fun _ _ _ _ => LoopOk.none) ((len_nnn x).trans (stF ?_ ?_ rfl))
        · simp only [b32, b16, b8, Bool.and_eq_true, Bool.and_true, decide_eq_true_eq, Bool.not_eq_true', decide_eq_false_iff_not, BitVec.toNat_setWidth]
          refine ⟨by omega, by omega, by omega, by omega⟩
        · rw [t1]
          exact congrArg (fun z => Fin.ret (V.int IntKind.i64 z)) (len_end 0 _ _ t2 (by omega) (by omega))
end
end Go.Proofs.Ytajbaocfdlopbaa.K
end
section
open Go Go.Lh
namespace Go.Proofs.Ytajbaocfdlopbaa.K
noncomputable section
set_option maxRecDepth 100000
def len64_g := ctU (fun x => .int .i64 (lenN x.toNat : Nat))
theorem len64_en : Enters Pr 123 := Enters.of (fn := Go.Proofs.Try.f123) (by kernel_rfl) (by kernel_rfl)
def OW6 : Orc := auto Pr ext [(123, len64_g)] [81] 3
theorem OW6_sound : OrcSound Pr OW6 := auto_sound mixed ext_ok (KOk.cons len64_en (ctU_ok len64_fn) KOk.nil) (by kernel_rfl) 3
theorem lngN (ls : List (BitVec 64)) (i : Int) :
  execN Pr (withAsm OW6 [((7 : Nat), true), ((13 : Nat), false)]) noLoops [] (100 : Nat) (0 : Nat)
  [(2 : Nat), (3 : Nat), (4 : Nat)] (loopBody Go.Proofs.Try.f119 (0 : Nat))
  [((2 : Nat), V.int IntKind.i64 (0 : Int)), ((3 : Nat), V.ptr (0 : Nat) (0 : Nat)), ((4 : Nat), V.int IntKind.i64 i)]
  [Blk.b64 ls] =
  some
  (decide (i ≥ (0 : Int)) && true && true &&
      (decide ((0 : Int) ≤ i) && decide (i < (4 : Int)) &&
            (decide ((0 : Nat) + i.toNat * (1 : Nat) < ls.length) &&
              (!ls.getD ((0 : Nat) + i.toNat * (1 : Nat)) (OfNat.ofNat (0 : Nat)) !=
                    BitVec.ofInt (64 : Nat) (0 : Int) &&
                true)) &&
          true &&
        true),
    X.normal,
    [((2 : Nat), V.int IntKind.i64 (0 : Int)), ((3 : Nat), V.ptr (0 : Nat) (0 : Nat)),
      ((4 : Nat), V.int IntKind.i64 (wrapI IntKind.i64 (i - (1 : Int))))],
    [Blk.b64 ls]) := by kernel_rfl
theorem lngR (ls : List (BitVec 64)) (i : Int) :
  execN Pr (withAsm OW6 [((7 : Nat), true), ((13 : Nat), true)]) noLoops [] (100 : Nat) (0 : Nat) [(2 : Nat)]
  (loopBody Go.Proofs.Try.f119 (0 : Nat))
  [((2 : Nat), V.int IntKind.i64 (0 : Int)), ((3 : Nat), V.ptr (0 : Nat) (0 : Nat)), ((4 : Nat), V.int IntKind.i64 i)]
  [Blk.b64 ls] =
  some
  (decide (i ≥ (0 : Int)) && true && true &&
      (decide ((0 : Int) ≤ i) && decide (i < (4 : Int)) &&
          (decide ((0 : Nat) + i.toNat * (1 : Nat) < ls.length) &&
            (ls.getD ((0 : Nat) + i.toNat * (1 : Nat)) (OfNat.ofNat (0 : Nat)) != BitVec.ofInt (64 : Nat) (0 : Int) &&
              true)) &&
        (decide ((0 : Int) ≤ i) && decide (i < (4 : Int)) &&
            (decide ((0 : Nat) + i.toNat * (1 : Nat) < ls.length) && true) &&
          true)),
    X.ret,
    [((2 : Nat),
        V.int IntKind.i64
          (wrapI IntKind.i64
            (wrapI IntKind.i64 ((64 : Int) * i) +
              (↑(lenN (ls.getD ((0 : Nat) + i.toNat * (1 : Nat)) (OfNat.ofNat (0 : Nat))).toNat) : Int))))],
    []) := by kernel_rfl
theorem lngX (ls : List (BitVec 64)) (i : Int) :
  execN Pr (withAsm OW6 [((7 : Nat), false)]) noLoops [] (100 : Nat) (0 : Nat) [(2 : Nat)]
  (loopBody Go.Proofs.Try.f119 (0 : Nat))
  [((2 : Nat), V.int IntKind.i64 (0 : Int)), ((3 : Nat), V.ptr (0 : Nat) (0 : Nat)), ((4 : Nat), V.int IntKind.i64 i)]
  [Blk.b64 ls] =
  some
  (!decide (i ≥ (0 : Int)) && true && true, X.exit (0 : Nat), [((2 : Nat), V.int IntKind.i64 (0 : Int))],
    []) := by kernel_rfl
structure LV where
  ls : List (BitVec 64)
  t : Int
  i : Int
def lenL (ls : List (BitVec 64)) : Nat → Nat
  | 0 => 0
  | j + 1 => if ls.getD j 0 = 0 then lenL ls j else 64 * j + lenN (ls.getD j 0).toNat
def lng_S : LV → Fr × Heap := fun a => ([(2,.int .i64 a.t),(3,.ptr 0 0),(4,.int .i64 a.i)], [.b64 a.ls])
def lng_read : Fr → Heap → Option LV := fun f h => match f, h with
  | [(2,.int .i64 t),(3,.ptr 0 0),(4,.int .i64 i)], [.b64 ls] => some ⟨ls, t, i⟩
  | _, _ => none
def lng_k : Nat := 0
def lng1_ok : LV → Bool := fun a => decide (a.ls.length = 4) && decide (a.t = 0) && decide (-1 ≤ a.i) && decide (a.i ≤ 3) && decide (lenL a.ls (a.i + 1).toNat ≠ 0)
def lng1_E : LV → X × Fr × Heap := fun a => (.ret, [(2,.int .i64 ((lenL a.ls (a.i + 1).toNat : Nat) : Int))], [])
def lng1_s : Sm := whS 3 [2,3,4] lng_read lng1_ok lng1_E
def lng0_ok : LV → Bool := fun a => decide (a.ls.length = 4) && decide (a.t = 0) && decide (-1 ≤ a.i) && decide (a.i ≤ 3) && decide (lenL a.ls (a.i + 1).toNat = 0)
def lng0_E : LV → X × Fr × Heap := fun a => (.exit 0, [(2,.int .i64 0)], [])
def lng0_s : Sm := whS 3 [2,3,4] lng_read lng0_ok lng0_E
theorem lenN_pos {x : BitVec 64} (h : ¬ x = 0) : 1 ≤ lenN x.toNat := by
  unfold lenN
  rw [if_neg]
  · omega
  · intro e; exact h (BitVec.eq_of_toNat_eq e)
theorem lenN_lt (n : Nat) : n < 2 ^ lenN n := by
  unfold lenN
  split
  · omega
  · exact Nat.lt_log2_self
theorem lenN_le {n : Nat} (h : n ≠ 0) : 2 ^ (lenN n - 1) ≤ n := by
  unfold lenN
  rw [if_neg h]
  exact Nat.log2_self_le h
theorem lenN_max {n k : Nat} (h : n < 2 ^ k) : lenN n ≤ k := by
  by_cases e : n = 0
  · subst e; simp [lenN]
  · have := Nat.lt_of_le_of_lt (lenN_le e) h
    have := (Nat.pow_lt_pow_iff_right (a := 2) (by omega)).1 this
    omega
theorem lng_round (a : LV) (h1 : a.ls.length = 4) (h2 : a.t = 0) (h3 : -1 ≤ a.i) (h4 : a.i ≤ 3) :
    (a.i = -1 ∧ Runs Pr (Func.ntmps Go.Proofs.Try.f119) 0 (loopBody Go.Proofs.Try.f119 0) (lng_S a).1 (lng_S a).2 (EndW (Func.ntmps Go.Proofs.Try.f119) 0 (.exit 0) [(2,.int .i64 0)] [])) ∨
    (∃ j : Nat, a.i = (j : Int) ∧ a.ls.getD j 0 = 0 ∧ Runs Pr (Func.ntmps Go.Proofs.Try.f119) 0 (loopBody Go.Proofs.Try.f119 0) (lng_S a).1 (lng_S a).2 (EndW (Func.ntmps Go.Proofs.Try.f119) 0 .normal (lng_S ⟨a.ls, 0, (j : Int) - 1⟩).1 (lng_S ⟨a.ls, 0, (j : Int) - 1⟩).2)) ∨
    (∃ j : Nat, a.i = (j : Int) ∧ ¬ a.ls.getD j 0 = 0 ∧ Runs Pr (Func.ntmps Go.Proofs.Try.f119) 0 (loopBody Go.Proofs.Try.f119 0) (lng_S a).1 (lng_S a).2 (EndW (Func.ntmps Go.Proofs.Try.f119) 0 .ret [(2,.int .i64 ((64 * j + lenN (a.ls.getD j 0).toNat : Nat) : Int))] [])) := by
  obtain ⟨ls, t, i⟩ := a
  simp only at h1 h2 h3 h4
  subst h2
  by_cases hi : 0 ≤ i
  · obtain ⟨j, rfl⟩ : ∃ j : Nat, i = (j : Int) := ⟨i.toNat, by omega⟩
    have ew : wrapI .i64 ((j : Int) - 1) = (j : Int) - 1 := wrapI_in (by omega) (by omega)
    have e1 : (j : Int).toNat = j := rfl
    by_cases hz : ls.getD j 0 = 0
    · refine .inr (.inl ⟨j, rfl, hz, execN_sound (withAsm_sound OW6_sound) mixed (LoopsOk.innerAt (LoopsOk.none (P := Pr) (fn := Go.Proofs.Try.f119) (n0 := 0)) 0) (by kernel_rfl) (by intro v h; cases h) ((lngN ls j).trans (stX ?_ ?_ rfl))⟩)
      · have hz2 : ls.getD j (OfNat.ofNat 0) = BitVec.ofInt 64 0 := hz
        simp only [e1, Nat.mul_one, Nat.zero_add, hz2, h1]
        simp
        omega
      · rw [ew]; rfl
    · have hx := (ls.getD j 0).isLt
      have hm := lenN_max hx
      refine .inr (.inr ⟨j, rfl, hz, execN_sound (withAsm_sound OW6_sound) mixed (LoopsOk.innerAt (LoopsOk.none (P := Pr) (fn := Go.Proofs.Try.f119) (n0 := 0)) 0) (by kernel_rfl) (by intro v h; cases h) ((lngR ls j).trans (stX ?_ ?_ rfl))⟩)
      · have hz2 : (ls.getD j (OfNat.ofNat 0) != BitVec.ofInt 64 0) = true := by rw [bne_iff_ne]; exact hz
        simp only [e1, Nat.mul_one, Nat.zero_add, hz2, h1, always]
        simp
        omega
      · simp only [e1, Nat.mul_one, Nat.zero_add]
        have eq : wrapI .i64 (wrapI .i64 ((64 : Int) * (j : Int)) + ((lenN (ls.getD j 0).toNat : Nat) : Int)) = ((64 * j + lenN (ls.getD j 0).toNat : Nat) : Int) := by
          rw [wrapI_in (x := 64 * (j : Int)) (by omega) (by omega), wrapI_in (by omega) (by omega)]; omega
        exact congrArg (fun z => [(2, V.int IntKind.i64 z)]) eq
  · obtain rfl : i = -1 := by omega
    exact .inl ⟨rfl, execN_sound (withAsm_sound OW6_sound) mixed (LoopsOk.innerAt (LoopsOk.none (P := Pr) (fn := Go.Proofs.Try.f119) (n0 := 0)) 0) (by kernel_rfl) (by intro v h; cases h) ((lngX ls (-1)).trans (stX rfl rfl rfl))⟩
theorem lng_hr : ∀ f g a, lng_read f g = some a → (f, g) = lng_S a := by
  intro f g a h
  unfold lng_read at h
  split at h <;> cases h
  rfl
theorem lng_e (j : Nat) : ((j : Int) + 1).toNat = j + 1 ∧ ((j : Int) - 1 + 1).toNat = j := by omega
theorem lng1_at : SmAt Pr Go.Proofs.Try.f119 0 lng1_s lng_k := by
  refine whS_at lng_S (fun a => (a.i + 1).toNat) (by kernel_rfl) (by kernel_rfl) lng_hr ?_
  intro a hok
  obtain ⟨ls, t, i⟩ := a
  simp only [lng1_ok, Bool.and_eq_true, decide_eq_true_eq] at hok
  obtain ⟨⟨⟨⟨h1, h2⟩, h3⟩, h4⟩, h5⟩ := hok
  rcases lng_round ⟨ls, t, i⟩ h1 h2 h3 h4 with ⟨e, _⟩ | ⟨j, e, hz, run⟩ | ⟨j, e, hz, run⟩ <;> simp only at e <;> subst e
  · exact (h5 rfl).elim
  · obtain ⟨q1, q2⟩ := lng_e j
    have hl : lenL ls (j + 1) = lenL ls j := by rw [lenL, if_pos hz]
    rw [q1, hl] at h5
    refine .inl ⟨_, ?_, ?_, ?_, run⟩
    · simp only [lng1_ok, Bool.and_eq_true, decide_eq_true_eq]
      refine ⟨⟨⟨⟨h1, by first | exact True.intro | rfl⟩, by omega⟩, by omega⟩, ?_⟩
      rw [q2]; exact h5
    · simp only; omega
    · simp only [lng1_E, q1, q2, hl]
  · obtain ⟨q1, q2⟩ := lng_e j
    refine .inr ⟨by simp [lng1_E], ?_⟩
    have hl : lenL ls (j + 1) = 64 * j + lenN (ls.getD j 0).toNat := by rw [lenL, if_neg hz]
    simp only [lng1_E, q1, hl]
    exact run
theorem lng0_at : SmAt Pr Go.Proofs.Try.f119 0 lng0_s lng_k := by
  refine whS_at lng_S (fun a => (a.i + 1).toNat) (by kernel_rfl) (by kernel_rfl) lng_hr ?_
  intro a hok
  obtain ⟨ls, t, i⟩ := a
  simp only [lng0_ok, Bool.and_eq_true, decide_eq_true_eq] at hok
  obtain ⟨⟨⟨⟨h1, h2⟩, h3⟩, h4⟩, h5⟩ := hok
  rcases lng_round ⟨ls, t, i⟩ h1 h2 h3 h4 with ⟨e, run⟩ | ⟨j, e, hz, run⟩ | ⟨j, e, hz, run⟩ <;> simp only at e <;> subst e
  · exact .inr ⟨by simp [lng0_E], run⟩
  · obtain ⟨q1, q2⟩ := lng_e j
    have hl : lenL ls (j + 1) = lenL ls j := by rw [lenL, if_pos hz]
    rw [q1, hl] at h5
    refine .inl ⟨⟨ls, 0, (j : Int) - 1⟩, ?_, ?_, rfl, run⟩
    · simp only [lng0_ok, Bool.and_eq_true, decide_eq_true_eq]
      refine ⟨⟨⟨⟨h1, by first | exact True.intro | rfl⟩, by omega⟩, by omega⟩, ?_⟩
      rw [q2]; exact h5
    · simp only; omega
  · obtain ⟨q1, q2⟩ := lng_e j
    have hl : lenL ls (j + 1) = 64 * j + lenN (ls.getD j 0).toNat := by rw [lenL, if_neg hz]
    have : 1 ≤ lenN (ls.getD j 0).toNat := lenN_pos hz
    rw [q1, hl] at h5
    omega
def OW6a : Orc := auto Pr ext [] [81] 3
theorem OW6a_sound : OrcSound Pr OW6a := auto_sound mixed ext_ok KOk.nil (by kernel_rfl) 3
theorem lng1L : LoopsOk Pr Go.Proofs.Try.f119 0 (smL 0 [lng1_s]) := LoopsOk.of [(lng1_s, lng_k)] (by kernel_rfl) (by
  intro p hp
  simp only [List.mem_cons, List.not_mem_nil, or_false] at hp
  subst hp
  exact lng1_at)
theorem lng0L : LoopsOk Pr Go.Proofs.Try.f119 0 (smL 0 [lng0_s]) := LoopsOk.of [(lng0_s, lng_k)] (by kernel_rfl) (by
  intro p hp
  simp only [List.mem_cons, List.not_mem_nil, or_false] at hp
  subst hp
  exact lng0_at)
theorem lng1_x (x : W4) :
  execF Pr OW6a (smL (0 : Nat) [lng1_s]) (100 : Nat) Go.Proofs.Try.f119 [x.v] [] =
  some
  (lng1_ok (LV.mk [x.d, x.c, x.b, x.a] (0 : Int) (3 : Int)) && true,
    Fin.ret (V.int IntKind.i64 (↑(lenL [x.d, x.c, x.b, x.a] ((3 : Int) + (1 : Int)).toNat) : Int)), []) := by kernel_rfl
theorem lng0_x (x : W4) :
  execF Pr OW6a (smL (0 : Nat) [lng0_s]) (100 : Nat) Go.Proofs.Try.f119 [x.v] [] =
  some
  (lng0_ok (LV.mk [x.d, x.c, x.b, x.a] (0 : Int) (3 : Int)) && true && true, Fin.ret (V.int IntKind.i64 (0 : Int)),
    []) := by kernel_rfl
theorem len_split {a m s : Nat} (ha : a ≠ 0) (hm : m < 2 ^ s) : lenN (2 ^ s * a + m) = lenN a + s := by
  have p := Nat.two_pow_pos s
  rw [lenN_shift (s := s), Nat.mul_add_div p, Nat.div_eq_of_lt hm, Nat.add_zero]
  have : 2 ^ s * 1 ≤ 2 ^ s * a := Nat.mul_le_mul_left _ (by omega)
  omega
theorem zero_iff (x : BitVec 64) : (x = 0) ↔ x.toNat = 0 := ⟨fun h => by rw [h]; rfl, fun h => BitVec.eq_of_toNat_eq h⟩
theorem lenL_eq (x : W4) : lenL [x.d, x.c, x.b, x.a] 4 = lenN x.n := by
  have hb := x.b.isLt
  have hc := x.c.isLt
  have hd := x.d.isLt
  simp only [lenL, List.getD_cons_succ, List.getD_cons_zero, zero_iff]
  unfold W4.n
  by_cases h3 : x.a.toNat = 0
  · rw [if_pos h3, h3, Nat.mul_zero]; simp only [Nat.zero_add]
    by_cases h2 : x.b.toNat = 0
    · rw [if_pos h2, h2, Nat.mul_zero]; simp only [Nat.zero_add]
      by_cases h1 : x.c.toNat = 0
      · rw [if_pos h1, h1, Nat.mul_zero]; simp only [Nat.zero_add]
        by_cases h0 : x.d.toNat = 0
        · rw [if_pos h0, h0]; rfl
        · rw [if_neg h0]
      · rw [if_neg h1, len_split h1 (by omega)]; omega
    · rw [if_neg h2, len_split h2 (by omega)]; omega
  · rw [if_neg h3, len_split h3 (by omega)]; omega
theorem length_fn (x : W4) : LFn Pr 119 [x.v] [] (.ret (.int .i64 (lenN x.n : Nat))) [] := by
  have e := lenL_eq x
  by_cases h : lenL [x.d, x.c, x.b, x.a] 4 = 0
  · refine execF_sound (fn := Go.Proofs.Try.f119) OW6a_sound mixed (by kernel_rfl) lng0L ((lng0_x x).trans (stF ?_ ?_ rfl))
    · simp [lng0_ok]; exact h
    · rw [← e, h]; rfl
  · refine execF_sound (fn := Go.Proofs.Try.f119) OW6a_sound mixed (by kernel_rfl) lng1L ((lng1_x x).trans (stF ?_ ?_ rfl))
    · simp [lng1_ok]; exact h
    · rw [← e]; rfl
end
end Go.Proofs.Ytajbaocfdlopbaa.K
end
section
open Go Go.Lh
namespace Go.Proofs.Ytajbaocfdlopbaa.K
noncomputable section
set_option maxRecDepth 100000
def wl (x : W4) : List (BitVec 64) := [x.a, x.b, x.c, x.d]
def inRange (n : Int) : Bool := decide (0 ≤ n) && decide (n < 256)
def left_g := ctWI (fun _ n => inRange n) (fun x n => (W4.shl x n.toNat).v)
def less_g := ctWW (fun x y => .bool (W4.lt x y))
def sub_g := ctWW (fun x y => (W4.sub x y).v)
def or_g := ctWW (fun x y => (W4.orW x y).v)
def from_g := ctU (fun x => (W4.small x).v)
theorem left_en : Enters Pr 104 := Enters.of (fn := Go.Proofs.Try.f104) (by kernel_rfl) (by kernel_rfl)
theorem less_en : Enters Pr 38 := Enters.of (fn := Go.Proofs.Try.f38) (by kernel_rfl) (by kernel_rfl)
theorem sub_en : Enters Pr 39 := Enters.of (fn := Go.Proofs.Try.f39) (by kernel_rfl) (by kernel_rfl)
theorem or_en : Enters Pr 120 := Enters.of (fn := Go.Proofs.Try.f120) (by kernel_rfl) (by kernel_rfl)
theorem from_en : Enters Pr 36 := Enters.of (fn := Go.Proofs.Try.f36) (by kernel_rfl) (by kernel_rfl)
def OW7 : Orc := auto Pr ext [(104, left_g), (38, less_g), (39, sub_g), (120, or_g), (36, from_g)] [] 3
theorem OW7_sound : OrcSound Pr OW7 := auto_sound mixed ext_ok (KOk.cons left_en (ctWI_ok fun x n h => left_fn x n (by simp [inRange] at h; omega) (by simp [inRange] at h; omega)) (KOk.cons less_en (ctWW_ok less_fn) (KOk.cons sub_en (ctWW_ok sub_fn) (KOk.cons or_en (ctWW_ok or_fn) (KOk.cons from_en (ctU_ok from_fn) KOk.nil))))) (by kernel_rfl) 3
theorem dvY (b : W4) (q : W4) (r : W4) (n : Int) :
  execN Pr (withAsm OW7 [((19 : Nat), true)]) noLoops [((29 : Nat), true)] (100 : Nat) (0 : Nat)
  [(3 : Nat), (4 : Nat), (5 : Nat), (6 : Nat)] (loopBody Go.Proofs.Try.f111 (0 : Nat))
  [((3 : Nat), V.ptr (0 : Nat) (0 : Nat)), ((4 : Nat), V.ptr (1 : Nat) (0 : Nat)),
    ((5 : Nat), V.ptr (2 : Nat) (0 : Nat)), ((6 : Nat), V.int IntKind.i64 n)]
  [Blk.b64 [b.a, b.b, b.c, b.d], Blk.b64 [q.a, q.b, q.c, q.d], Blk.b64 [r.a, r.b, r.c, r.d]] =
  some
  (decide (n ≥ (0 : Int)) && true && true &&
      (inRange n && true && (!r.lt (b.shl n.toNat) && (inRange n && true)) && true),
    X.normal,
    [((3 : Nat), V.ptr (0 : Nat) (0 : Nat)), ((4 : Nat), V.ptr (1 : Nat) (0 : Nat)),
      ((5 : Nat), V.ptr (2 : Nat) (0 : Nat)), ((6 : Nat), V.int IntKind.i64 (wrapI IntKind.i64 (n - (1 : Int))))],
    [Blk.b64 [b.a, b.b, b.c, b.d],
      Blk.b64
        [(q.orW ((W4.small (BitVec.ofInt (64 : Nat) (1 : Int))).shl n.toNat)).a,
          (q.orW ((W4.small (BitVec.ofInt (64 : Nat) (1 : Int))).shl n.toNat)).b,
          (q.orW ((W4.small (BitVec.ofInt (64 : Nat) (1 : Int))).shl n.toNat)).c,
          (q.orW ((W4.small (BitVec.ofInt (64 : Nat) (1 : Int))).shl n.toNat)).d],
      Blk.b64
        [(r.sub (b.shl n.toNat)).a, (r.sub (b.shl n.toNat)).b, (r.sub (b.shl n.toNat)).c,
          (r.sub (b.shl n.toNat)).d]]) := by kernel_rfl
theorem dvN (b : W4) (q : W4) (r : W4) (n : Int) :
  execN Pr (withAsm OW7 [((19 : Nat), true)]) noLoops [((29 : Nat), false)] (100 : Nat) (0 : Nat)
  [(3 : Nat), (4 : Nat), (5 : Nat), (6 : Nat)] (loopBody Go.Proofs.Try.f111 (0 : Nat))
  [((3 : Nat), V.ptr (0 : Nat) (0 : Nat)), ((4 : Nat), V.ptr (1 : Nat) (0 : Nat)),
    ((5 : Nat), V.ptr (2 : Nat) (0 : Nat)), ((6 : Nat), V.int IntKind.i64 n)]
  [Blk.b64 [b.a, b.b, b.c, b.d], Blk.b64 [q.a, q.b, q.c, q.d], Blk.b64 [r.a, r.b, r.c, r.d]] =
  some
  (decide (n ≥ (0 : Int)) && true && true && (inRange n && true && (!!r.lt (b.shl n.toNat) && true) && true), X.normal,
    [((3 : Nat), V.ptr (0 : Nat) (0 : Nat)), ((4 : Nat), V.ptr (1 : Nat) (0 : Nat)),
      ((5 : Nat), V.ptr (2 : Nat) (0 : Nat)), ((6 : Nat), V.int IntKind.i64 (wrapI IntKind.i64 (n - (1 : Int))))],
    [Blk.b64 [b.a, b.b, b.c, b.d], Blk.b64 [q.a, q.b, q.c, q.d], Blk.b64 [r.a, r.b, r.c, r.d]]) := by kernel_rfl
theorem dvX (b : W4) (q : W4) (r : W4) (n : Int) :
  execN Pr (withAsm OW7 [((19 : Nat), false)]) noLoops [] (100 : Nat) (0 : Nat) [(4 : Nat), (5 : Nat)]
  (loopBody Go.Proofs.Try.f111 (0 : Nat))
  [((3 : Nat), V.ptr (0 : Nat) (0 : Nat)), ((4 : Nat), V.ptr (1 : Nat) (0 : Nat)),
    ((5 : Nat), V.ptr (2 : Nat) (0 : Nat)), ((6 : Nat), V.int IntKind.i64 n)]
  [Blk.b64 [b.a, b.b, b.c, b.d], Blk.b64 [q.a, q.b, q.c, q.d], Blk.b64 [r.a, r.b, r.c, r.d]] =
  some
  (!decide (n ≥ (0 : Int)) && true && true, X.exit (0 : Nat),
    [((4 : Nat), V.ptr (0 : Nat) (0 : Nat)), ((5 : Nat), V.ptr (1 : Nat) (0 : Nat))],
    [Blk.b64 [q.a, q.b, q.c, q.d], Blk.b64 [r.a, r.b, r.c, r.d]]) := by kernel_rfl
structure DV where
  b : W4
  q : W4
  r : W4
  n : Int
def dv_S : DV → Fr × Heap := fun a => ([(3,.ptr 0 0),(4,.ptr 1 0),(5,.ptr 2 0),(6,.int .i64 a.n)], [.b64 (wl a.b), .b64 (wl a.q), .b64 (wl a.r)])
def dv_read : Fr → Heap → Option DV := fun f h => match f, h with
  | [(3,.ptr 0 0),(4,.ptr 1 0),(5,.ptr 2 0),(6,.int .i64 n)], [.b64 [a1, a2, a3, a4], .b64 [b1, b2, b3, b4], .b64 [c1, c2, c3, c4]] => some ⟨⟨a1, a2, a3, a4⟩, ⟨b1, b2, b3, b4⟩, ⟨c1, c2, c3, c4⟩, n⟩
  | _, _ => none
def dv_ok : DV → Bool := fun a => decide (0 < a.b.n) && decide (-256 ≤ a.n) && decide (a.n < 256) && decide (a.r.n < a.b.n * 2 ^ (a.n + 1).toNat) && decide (a.q.n % 2 ^ (a.n + 1).toNat = 0) && decide (0 ≤ a.n → a.b.n * 2 ^ a.n.toNat < 2 ^ 256)
def qW (q r b : W4) : W4 := W4.of (BitVec.ofNat 256 (q.n + r.n / b.n))
def rW (r b : W4) : W4 := W4.of (BitVec.ofNat 256 (r.n % b.n))
def dv_E : DV → X × Fr × Heap := fun a => (.exit 0, [(4,.ptr 0 0),(5,.ptr 1 0)], [.b64 (wl (qW a.q a.r a.b)), .b64 (wl (rW a.r a.b))])
def dv_k : Nat := 0
def dv_s : Sm := whS 5 [3,4,5,6] dv_read dv_ok dv_E
theorem orW_n (x y : W4) : (W4.orW x y).n = x.n ||| y.n := by rw [← W4.bv_toNat, W4.orW_bv, BitVec.toNat_or, W4.bv_toNat, W4.bv_toNat]
theorem sub_n {x y : W4} (h : y.n ≤ x.n) : (W4.sub x y).n = x.n - y.n := by
  have hx := x.n_lt
  have hy := y.n_lt
  unfold W4.sub
  rw [W4.of_toNat, BitVec.toNat_sub, W4.bv_toNat, W4.bv_toNat]
  omega
theorem or_pow {x k : Nat} (h : x % 2 ^ (k + 1) = 0) : x ||| 2 ^ k = x + 2 ^ k := by
  have e : x = 2 ^ (k + 1) * (x / 2 ^ (k + 1)) := by have := Nat.div_add_mod x (2 ^ (k + 1)); omega
  rw [e]
  exact (Nat.two_pow_add_eq_or_of_lt (by rw [Nat.pow_succ]; have := Nat.two_pow_pos k; omega) _).symm
theorem or_left {x : W4} {k : Nat} (hk : k < 256) (h : x.n % 2 ^ (k + 1) = 0) : (W4.orW x (W4.shl (W4.small (BitVec.ofInt 64 1)) k)).n = x.n + 2 ^ k := by
  rw [orW_n, W4.shl_n, W4.small_n, show (BitVec.ofInt 64 1).toNat = 1 from rfl, Nat.one_mul, Nat.mod_eq_of_lt (Nat.pow_lt_pow_right (by omega) hk), or_pow h]
theorem of_self (x : W4) : W4.of (BitVec.ofNat 256 x.n) = x := by
  refine W4.ext_n ?_
  rw [W4.of_toNat, BitVec.toNat_ofNat, Nat.mod_eq_of_lt x.n_lt]
theorem step_div {q r b k : Nat} (hb : 0 < b) (h : b * 2 ^ k ≤ r) : (q + 2 ^ k) + (r - b * 2 ^ k) / b = q + r / b ∧ (r - b * 2 ^ k) % b = r % b := by
  obtain ⟨s, rfl⟩ : ∃ s, r = b * 2 ^ k + s := ⟨r - b * 2 ^ k, by omega⟩
  rw [show b * 2 ^ k + s - b * 2 ^ k = s by omega, Nat.mul_add_div hb, Nat.mul_add_mod]
  exact ⟨by omega, rfl⟩
theorem dv_at : SmAt Pr Go.Proofs.Try.f111 0 dv_s dv_k := by
  refine whS_at dv_S (fun a => (a.n + 1).toNat) (by kernel_rfl) (by kernel_rfl) ?_ ?_
  · intro f g a h
    unfold dv_read at h
    split at h <;> cases h
    rfl
  · intro a hok
    obtain ⟨b, q, r, n⟩ := a
    simp only [dv_ok, Bool.and_eq_true, decide_eq_true_eq] at hok
    obtain ⟨⟨⟨⟨⟨h1, h2⟩, h3⟩, h4⟩, h5⟩, h6⟩ := hok
    by_cases hn : 0 ≤ n
    · left
      obtain ⟨k, rfl⟩ : ∃ k : Nat, n = (k : Int) := ⟨n.toNat, by omega⟩
      have ek : ((k : Int) + 1).toNat = k + 1 := by omega
      have ek1 : ((k : Int) - 1 + 1).toNat = k := by omega
      have ew : wrapI .i64 ((k : Int) - 1) = (k : Int) - 1 := wrapI_in (by omega) (by omega)
      have e1 : (k : Int).toNat = k := rfl
      rw [ek] at h4 h5
      have h6 := h6 hn
      rw [e1] at h6
      have p2 : 2 ^ (k + 1) = 2 * 2 ^ k := by rw [Nat.pow_succ, Nat.mul_comm]
      have hm : b.n * 2 ^ (k + 1) = 2 * (b.n * 2 ^ k) := by rw [p2, Nat.mul_left_comm]
      have hs : (W4.shl b k).n = b.n * 2 ^ k := by rw [W4.shl_n, Nat.mod_eq_of_lt h6]
      have h7 : 0 ≤ (k : Int) - 1 → b.n * 2 ^ ((k : Int) - 1).toNat < 2 ^ 256 := by
        intro h0
        refine Nat.lt_of_le_of_lt (Nat.mul_le_mul_left _ (Nat.pow_le_pow_right (by omega) ?_)) h6
        omega
      have hq : q.n % 2 ^ k = 0 := by
        refine Nat.mod_eq_zero_of_dvd (Nat.dvd_trans ?_ (Nat.dvd_of_mod_eq_zero h5))
        exact Nat.pow_dvd_pow 2 (Nat.le_succ k)
      by_cases hl : b.n * 2 ^ k ≤ r.n
      · have hr := sub_n (x := r) (y := W4.shl b k) (by omega)
        rw [hs] at hr
        have ho := or_left (x := q) (by omega) h5
        obtain ⟨d1, d2⟩ := step_div (q := q.n) h1 hl
        refine ⟨⟨b, W4.orW q (W4.shl (W4.small (BitVec.ofInt 64 1)) k), W4.sub r (W4.shl b k), (k : Int) - 1⟩, ?_, ?_, ?_, ?_⟩
        · simp only [dv_ok, Bool.and_eq_true, decide_eq_true_eq]
          refine ⟨⟨⟨⟨⟨h1, by omega⟩, by omega⟩, ?_⟩, ?_⟩, h7⟩
          · rw [ek1, hr]; omega
          · rw [ek1, ho, Nat.add_mod_right, hq]
        · simp only; omega
        · simp only [dv_E, qW, rW, hr, ho, d1, d2]
        · refine execN_sound (withAsm_sound OW7_sound) mixed (LoopsOk.innerAt (LoopsOk.none (P := Pr) (fn := Go.Proofs.Try.f111) (n0 := 0)) 0) (by kernel_rfl) (by intro v h; cases h) ((dvY b q r k).trans (stX ?_ ?_ rfl))
          · simp [always, inRange, W4.lt, hs, hl]; omega
          · rw [ew]; rfl
      · refine ⟨⟨b, q, r, (k : Int) - 1⟩, ?_, ?_, rfl, ?_⟩
        · simp only [dv_ok, Bool.and_eq_true, decide_eq_true_eq]
          refine ⟨⟨⟨⟨⟨h1, by omega⟩, by omega⟩, ?_⟩, ?_⟩, h7⟩
          · rw [ek1]; omega
          · rw [ek1, hq]
        · simp only; omega
        · refine execN_sound (withAsm_sound OW7_sound) mixed (LoopsOk.innerAt (LoopsOk.none (P := Pr) (fn := Go.Proofs.Try.f111) (n0 := 0)) 0) (by kernel_rfl) (by intro v h; cases h) ((dvN b q r k).trans (stX ?_ ?_ rfl))
          · simp [always, inRange, W4.lt, hs]; omega
          · rw [ew]; rfl
    · right
      refine ⟨by simp [dv_E], ?_⟩
      have e0 : (n + 1).toNat = 0 := by omega
      rw [e0, Nat.pow_zero, Nat.mul_one] at h4
      have eq1 : qW q r b = q := by unfold qW; rw [Nat.div_eq_of_lt h4, Nat.add_zero, of_self]
      have er1 : rW r b = r := by unfold rW; rw [Nat.mod_eq_of_lt h4, of_self]
      simp only [dv_E, eq1, er1]
      exact execN_sound (withAsm_sound OW7_sound) mixed (LoopsOk.innerAt (LoopsOk.none (P := Pr) (fn := Go.Proofs.Try.f111) (n0 := 0)) 0) (by kernel_rfl) (by intro v h; cases h) ((dvX b q r n).trans (stX (by simp; omega) rfl rfl))
end
end Go.Proofs.Ytajbaocfdlopbaa.K
end
section
open Go Go.Lh
namespace Go.Proofs.Ytajbaocfdlopbaa.K
noncomputable section
set_option maxRecDepth 100000
def length_g := ctW (fun x => .int .i64 (lenN x.n : Nat))
theorem length_en : Enters Pr 119 := Enters.of (fn := Go.Proofs.Try.f119) (by kernel_rfl) (by kernel_rfl)
def OW8 : Orc := auto Pr ext [(119, length_g)] [] 3
theorem OW8_sound : OrcSound Pr OW8 := auto_sound mixed ext_ok (KOk.cons length_en (ctW_ok length_fn) KOk.nil) (by kernel_rfl) 3
theorem dvL : LoopsOk Pr Go.Proofs.Try.f111 0 (smL 0 [dv_s]) := LoopsOk.of [(dv_s, dv_k)] (by kernel_rfl) (by
  intro p hp
  simp only [List.mem_cons, List.not_mem_nil, or_false] at hp
  subst hp
  exact dv_at)
theorem div_z (x : W4) (y : W4) :
  execFD Pr (withAsm OW8 [((8 : Nat), true)]) (smL (0 : Nat) [dv_s]) [] (100 : Nat) Go.Proofs.Try.f111 [x.v, y.v] [] =
  some
  (y.a == BitVec.ofInt (64 : Nat) (0 : Int) &&
            (y.b == BitVec.ofInt (64 : Nat) (0 : Int) &&
              (y.c == BitVec.ofInt (64 : Nat) (0 : Int) && (y.d == BitVec.ofInt (64 : Nat) (0 : Int) && true))) &&
          true &&
        true &&
      true,
    Fin.ret
      (V.tup
        [V.agg
            [V.u64 (BitVec.ofInt (64 : Nat) (0 : Int)), V.u64 (BitVec.ofInt (64 : Nat) (0 : Int)),
              V.u64 (BitVec.ofInt (64 : Nat) (0 : Int)), V.u64 (BitVec.ofInt (64 : Nat) (0 : Int))],
          V.agg
            [V.u64 (BitVec.ofInt (64 : Nat) (0 : Int)), V.u64 (BitVec.ofInt (64 : Nat) (0 : Int)),
              V.u64 (BitVec.ofInt (64 : Nat) (0 : Int)), V.u64 (BitVec.ofInt (64 : Nat) (0 : Int))]]),
    []) := by kernel_rfl
theorem div_y (x y : W4) : execFD Pr (withAsm OW8 [(8,false)]) (smL 0 [dv_s]) [] 100 Go.Proofs.Try.f111 [x.v, y.v] [] =
    some (!(y.a == BitVec.ofInt 64 0 && (y.b == BitVec.ofInt 64 0 && (y.c == BitVec.ofInt 64 0 && (y.d == BitVec.ofInt 64 0 && true)))) && true && true &&
      (always x && (always y && true) && dv_ok ⟨y, W4.zero, x, wrapI .i64 ((lenN x.n : Int) - (lenN y.n : Int))⟩ && true) && true,
      .ret (.tup [(qW W4.zero x y).v, (rW x y).v]), []) := by kernel_rfl
theorem W4.eq_zero (y : W4) : (y.a == BitVec.ofInt 64 0 && (y.b == BitVec.ofInt 64 0 && (y.c == BitVec.ofInt 64 0 && (y.d == BitVec.ofInt 64 0 && true)))) = decide (y.n = 0) := by
  by_cases h : y.n = 0
  · rw [decide_eq_true h]
    have : y = W4.zero := W4.ext_n h
    subst this
    rfl
  · rw [decide_eq_false h]
    by_cases e : (y.a == BitVec.ofInt 64 0 && (y.b == BitVec.ofInt 64 0 && (y.c == BitVec.ofInt 64 0 && (y.d == BitVec.ofInt 64 0 && true)))) = true
    · simp only [Bool.and_eq_true, beq_iff_eq] at e
      obtain ⟨e1, e2, e3, e4, _⟩ := e
      exact (h (by unfold W4.n; rw [e1, e2, e3, e4]; rfl)).elim
    · exact Bool.eq_false_iff.2 e
def divQ (x y : W4) : W4 := W4.of (BitVec.ofNat 256 (x.n / y.n))
def divR (x y : W4) : W4 := if y.n = 0 then W4.zero else W4.of (BitVec.ofNat 256 (x.n % y.n))
theorem divide_fn (x y : W4) : LFn Pr 111 [x.v, y.v] [] (.ret (.tup [(divQ x y).v, (divR x y).v])) [] := by
  by_cases h : y.n = 0
  · refine execFD_sound (fn := Go.Proofs.Try.f111) (withAsm_sound OW8_sound) mixed (by kernel_rfl) dvL ((div_z x y).trans (stF ?_ ?_ rfl))
    · rw [W4.eq_zero, decide_eq_true h]; rfl
    · unfold divQ divR
      rw [h, if_pos rfl, Nat.div_zero]
      rfl
  · refine execFD_sound (fn := Go.Proofs.Try.f111) (withAsm_sound OW8_sound) mixed (by kernel_rfl) dvL ((div_y x y).trans (stF ?_ ?_ rfl))
    · rw [W4.eq_zero, decide_eq_false h]
      have l1 := lenN_max x.n_lt
      have l2 := lenN_max y.n_lt
      have l3 := lenN_lt x.n
      have l4 := lenN_lt y.n
      have l5 := lenN_le h
      have ew : wrapI .i64 ((lenN x.n : Int) - (lenN y.n : Int)) = (lenN x.n : Int) - (lenN y.n : Int) := wrapI_in (by omega) (by omega)
      have lp : 1 ≤ lenN y.n := by unfold lenN; rw [if_neg h]; omega
      generalize lenN x.n = la at *
      generalize lenN y.n = lb at *
      have g1 : x.n < y.n * 2 ^ ((la : Int) - (lb : Int) + 1).toNat := by
        refine Nat.lt_of_lt_of_le l3 (Nat.le_trans ?_ (Nat.mul_le_mul_right _ l5))
        rw [← Nat.pow_add]
        exact Nat.pow_le_pow_right (by omega) (by omega)
      have g2 : 0 ≤ (la : Int) - (lb : Int) → y.n * 2 ^ ((la : Int) - (lb : Int)).toNat < 2 ^ 256 := by
        intro h0
        refine Nat.lt_of_lt_of_le ((Nat.mul_lt_mul_right (Nat.two_pow_pos _)).2 l4) ?_
        rw [← Nat.pow_add]
        exact Nat.pow_le_pow_right (by omega) (by omega)
      have : dv_ok ⟨y, W4.zero, x, wrapI .i64 ((la : Int) - (lb : Int))⟩ = true := by
        rw [ew]
        simp only [dv_ok, Bool.and_eq_true, decide_eq_true_eq]
        refine ⟨⟨⟨⟨⟨Nat.pos_of_ne_zero h, by omega⟩, by omega⟩, g1⟩, Nat.zero_mod _⟩, g2⟩
      rw [this]
      rfl
    · unfold divQ divR qW rW
      rw [if_neg h, show W4.zero.n = 0 from rfl, Nat.zero_add]
theorem divide_en : Enters Pr 111 := Enters.of (fn := Go.Proofs.Try.f111) (by kernel_rfl) (by kernel_rfl)
def divide_g := ctWW (fun x y => .tup [(divQ x y).v, (divR x y).v])
def OW9 : Orc := auto Pr ext [(111, divide_g)] [] 3
theorem OW9_sound : OrcSound Pr OW9 := auto_sound mixed ext_ok (KOk.cons divide_en (ctWW_ok divide_fn) KOk.nil) (by kernel_rfl) 3
theorem div_fn (x y : W4) : LFn Pr 80 [x.v, y.v] [] (.ret (divQ x y).v) [] :=
  execFD_sound (fn := Go.Proofs.Try.f80) OW9_sound mixed (by kernel_rfl) (fun _ _ _ _ => LoopOk.none) (show execFD Pr OW9 noLoops [] 100 Go.Proofs.Try.f80 [x.v, y.v] [] = some (true, .ret (divQ x y).v, []) by kernel_rfl)
end
end Go.Proofs.Ytajbaocfdlopbaa.K
end
section
open Go Go.Lh
namespace Go.Proofs.Ytajbaocfdlopbaa.K
noncomputable section
set_option maxRecDepth 100000
def add_g := ctWW (fun x y => (W4.add x y).v)
def mul_g := ctWW (fun x y => (W4.mul x y).v)
def div_g := ctWW (fun x y => (divQ x y).v)
def right_g := ctWI (fun _ n => inRange n) (fun x n => (W4.shr x n.toNat).v)
theorem add_en : Enters Pr 40 := Enters.of (fn := Go.Proofs.Try.f40) (by kernel_rfl) (by kernel_rfl)
theorem mul_en : Enters Pr 64 := Enters.of (fn := Go.Proofs.Try.f64) (by kernel_rfl) (by kernel_rfl)
theorem div_en : Enters Pr 80 := Enters.of (fn := Go.Proofs.Try.f80) (by kernel_rfl) (by kernel_rfl)
theorem right_en : Enters Pr 105 := Enters.of (fn := Go.Proofs.Try.f105) (by kernel_rfl) (by kernel_rfl)
def KW0 : KnownT := [(36, old from_g), (64, old mul_g), (80, old div_g), (39, old sub_g), (40, old add_g), (38, old less_g), (120, old or_g), (104, old left_g), (105, old right_g)]
theorem inR {n : Int} (h : inRange n = true) : 0 ≤ n ∧ n < 256 := by simp [inRange] at h; omega
theorem KW0_ok : KOkT Pr KW0 := KOkT.cons from_en (old_ok (ctU_ok from_fn)) (KOkT.cons mul_en (old_ok (ctWW_ok mul_fn)) (KOkT.cons div_en (old_ok (ctWW_ok div_fn)) (KOkT.cons sub_en (old_ok (ctWW_ok sub_fn)) (KOkT.cons add_en (old_ok (ctWW_ok add_fn)) (KOkT.cons less_en (old_ok (ctWW_ok less_fn)) (KOkT.cons or_en (old_ok (ctWW_ok or_fn)) (KOkT.cons left_en (old_ok (ctWI_ok fun x n h => left_fn x n (inR h).1 (inR h).2)) (KOkT.cons right_en (old_ok (ctWI_ok fun x n h => right_fn x n (inR h).1 (inR h).2)) (KOkT.nil)))))))))
def OTW : OrcT := autoT Pr ext KW0 [81, 107, 124, 103, 111, 119] 4
theorem OTW_sound : OrcSound Pr OTW.o := autoT_sound mixed ext_ok KW0_ok (by kernel_rfl) 4
theorem small_x (x : W4) : Tr.prune (Tr.Sh.any)
  (execBF Pr OTW noLoopsT (100 : Nat) Go.Proofs.Try.f65 [x.v] []) =
  Tr.chk true
  (Tr.leaf
    (Fin.ret (V.tup [V.u64 x.d, V.bool (x.a ||| x.b ||| x.c == BitVec.ofInt (64 : Nat) (0 : Int))]),
      [])) := by kernel_rfl
theorem shl_x (n : W4) (x : W4) : Tr.prune (Tr.Sh.any.both Tr.Sh.any)
  (execBF Pr OTW noLoopsT (100 : Nat) Go.Proofs.Try.f62 [n.v, x.v] []) =
  Tr.chk true
  (Tr.br (n.lt (W4.small (BitVec.ofInt (64 : Nat) (256 : Int))))
    (Tr.chk (inRange (wrapI IntKind.i64 (↑(n.d &&& BitVec.ofInt (64 : Nat) (255 : Int)).toNat : Int)) && true && true)
      (Tr.leaf
        (Fin.ret
            (V.agg
              [V.u64 (x.shl (wrapI IntKind.i64 (↑(n.d &&& BitVec.ofInt (64 : Nat) (255 : Int)).toNat : Int)).toNat).a,
                V.u64 (x.shl (wrapI IntKind.i64 (↑(n.d &&& BitVec.ofInt (64 : Nat) (255 : Int)).toNat : Int)).toNat).b,
                V.u64 (x.shl (wrapI IntKind.i64 (↑(n.d &&& BitVec.ofInt (64 : Nat) (255 : Int)).toNat : Int)).toNat).c,
                V.u64
                  (x.shl (wrapI IntKind.i64 (↑(n.d &&& BitVec.ofInt (64 : Nat) (255 : Int)).toNat : Int)).toNat).d]),
          [])))
    (Tr.chk true
      (Tr.leaf
        (Fin.ret
            (V.agg
              [V.u64 (BitVec.ofInt (64 : Nat) (0 : Int)), V.u64 (BitVec.ofInt (64 : Nat) (0 : Int)),
                V.u64 (BitVec.ofInt (64 : Nat) (0 : Int)), V.u64 (BitVec.ofInt (64 : Nat) (0 : Int))]),
          [])))) := by kernel_rfl
theorem shr_x (n : W4) (x : W4) : Tr.prune (Tr.Sh.any.both Tr.Sh.any)
  (execBF Pr OTW noLoopsT (100 : Nat) Go.Proofs.Try.f63 [n.v, x.v] []) =
  Tr.chk true
  (Tr.br (n.lt (W4.small (BitVec.ofInt (64 : Nat) (256 : Int))))
    (Tr.chk (inRange (wrapI IntKind.i64 (↑(n.d &&& BitVec.ofInt (64 : Nat) (255 : Int)).toNat : Int)) && true && true)
      (Tr.leaf
        (Fin.ret
            (V.agg
              [V.u64 (x.shr (wrapI IntKind.i64 (↑(n.d &&& BitVec.ofInt (64 : Nat) (255 : Int)).toNat : Int)).toNat).a,
                V.u64 (x.shr (wrapI IntKind.i64 (↑(n.d &&& BitVec.ofInt (64 : Nat) (255 : Int)).toNat : Int)).toNat).b,
                V.u64 (x.shr (wrapI IntKind.i64 (↑(n.d &&& BitVec.ofInt (64 : Nat) (255 : Int)).toNat : Int)).toNat).c,
                V.u64
                  (x.shr (wrapI IntKind.i64 (↑(n.d &&& BitVec.ofInt (64 : Nat) (255 : Int)).toNat : Int)).toNat).d]),
          [])))
    (Tr.chk true
      (Tr.leaf
        (Fin.ret
            (V.agg
              [V.u64 (BitVec.ofInt (64 : Nat) (0 : Int)), V.u64 (BitVec.ofInt (64 : Nat) (0 : Int)),
                V.u64 (BitVec.ofInt (64 : Nat) (0 : Int)), V.u64 (BitVec.ofInt (64 : Nat) (0 : Int))]),
          [])))) := by kernel_rfl
theorem bytes_x (x : W4) : Tr.prune (Tr.Sh.any.r.l.l.l.l.l.l.l.l.l.l.l.l.l.l.l.l.l.l.l.l.l.l.l.l.l.l.l.l.l.l.l.l)
  (execBF Pr OTW noLoopsT (100 : Nat) Go.Proofs.Try.f76 [x.v] []) =
  Tr.chk true
  (Tr.leaf
    (Fin.ret
        (V.str
          [BitVec.setWidth (8 : Nat) (x.a >>> (56 : Nat)), BitVec.setWidth (8 : Nat) (x.a >>> (48 : Nat)),
            BitVec.setWidth (8 : Nat) (x.a >>> (40 : Nat)), BitVec.setWidth (8 : Nat) (x.a >>> (32 : Nat)),
            BitVec.setWidth (8 : Nat) (x.a >>> (24 : Nat)), BitVec.setWidth (8 : Nat) (x.a >>> (16 : Nat)),
            BitVec.setWidth (8 : Nat) (x.a >>> (8 : Nat)), BitVec.setWidth (8 : Nat) (x.a >>> (0 : Nat)),
            BitVec.setWidth (8 : Nat) (x.b >>> (56 : Nat)), BitVec.setWidth (8 : Nat) (x.b >>> (48 : Nat)),
            BitVec.setWidth (8 : Nat) (x.b >>> (40 : Nat)), BitVec.setWidth (8 : Nat) (x.b >>> (32 : Nat)),
            BitVec.setWidth (8 : Nat) (x.b >>> (24 : Nat)), BitVec.setWidth (8 : Nat) (x.b >>> (16 : Nat)),
            BitVec.setWidth (8 : Nat) (x.b >>> (8 : Nat)), BitVec.setWidth (8 : Nat) (x.b >>> (0 : Nat)),
            BitVec.setWidth (8 : Nat) (x.c >>> (56 : Nat)), BitVec.setWidth (8 : Nat) (x.c >>> (48 : Nat)),
            BitVec.setWidth (8 : Nat) (x.c >>> (40 : Nat)), BitVec.setWidth (8 : Nat) (x.c >>> (32 : Nat)),
            BitVec.setWidth (8 : Nat) (x.c >>> (24 : Nat)), BitVec.setWidth (8 : Nat) (x.c >>> (16 : Nat)),
            BitVec.setWidth (8 : Nat) (x.c >>> (8 : Nat)), BitVec.setWidth (8 : Nat) (x.c >>> (0 : Nat)),
            BitVec.setWidth (8 : Nat) (x.d >>> (56 : Nat)), BitVec.setWidth (8 : Nat) (x.d >>> (48 : Nat)),
            BitVec.setWidth (8 : Nat) (x.d >>> (40 : Nat)), BitVec.setWidth (8 : Nat) (x.d >>> (32 : Nat)),
            BitVec.setWidth (8 : Nat) (x.d >>> (24 : Nat)), BitVec.setWidth (8 : Nat) (x.d >>> (16 : Nat)),
            BitVec.setWidth (8 : Nat) (x.d >>> (8 : Nat)), BitVec.setWidth (8 : Nat) (x.d >>> (0 : Nat))]),
      [])) := by kernel_rfl
def isSmall (x : W4) : Bool := x.a ||| x.b ||| x.c == BitVec.ofInt 64 0
theorem small_fn (x : W4) : LFn Pr 65 [x.v] [] (.ret (.tup [.u64 x.d, .bool (isSmall x)])) [] :=
  fnT OTW_sound mixed (by kernel_rfl) LoopsOk.noneT (small_x x) (wp_chk_true.2 rfl)
def flip (x : W4) : W4 := ⟨x.a ^^^ BitVec.ofInt 64 9223372036854775808, x.b, x.c, x.d⟩
def slt (x y : W4) : Bool := (flip x).lt (flip y)
theorem bytes_fn (x : W4) : LFn Pr 76 [x.v] [] (.ret (.str x.bytes)) [] :=
  fnT OTW_sound mixed (by kernel_rfl) LoopsOk.noneT (bytes_x x) (tr1 rfl (by kernel_rfl))
/-- moved by a number -/
def shlW (n x : W4) : W4 := if n.n < 256 then W4.shl x n.n else W4.zero
def shrW (n x : W4) : W4 := if n.n < 256 then W4.shr x n.n else W4.zero
theorem far_n {n : W4} (h : n.lt (W4.small (BitVec.ofInt 64 256)) = true) : n.n < 256 ∧ inRange (wrapI .i64 ((n.d &&& BitVec.ofInt 64 255).toNat : Int)) = true ∧ (wrapI .i64 ((n.d &&& BitVec.ofInt 64 255).toNat : Int)).toNat = n.n := by
  have h : n.n < 256 := W4.lt_iff.1 h
  have ha := n.a.isLt
  have e : n.n = n.d.toNat := by unfold W4.n at h ⊢; omega
  have e2 : (n.d &&& BitVec.ofInt 64 255).toNat = n.n := by
    have : (BitVec.ofInt 64 255).toNat = 2 ^ 8 - 1 := rfl
    rw [BitVec.toNat_and, this, Nat.and_two_pow_sub_one_eq_mod, e]; omega
  rw [e2, wrapI_nat (by omega)]
  exact ⟨h, by simp [inRange]; omega, rfl⟩
theorem shl_fn (n x : W4) : LFn Pr 62 [n.v, x.v] [] (.ret (shlW n x).v) [] := by
  refine fnT OTW_sound mixed (by kernel_rfl) LoopsOk.noneT (shl_x n x) ?_
  rw [wp_chk_true, wp_br]
  refine ⟨fun h => ?_, fun h => ?_⟩
  · obtain ⟨h1, h2, h3⟩ := far_n h
    rw [h2, h3]
    rw [Bool.and_self, Bool.and_self, wp_chk_true, wp_leaf, shlW, if_pos h1]
    rfl
  · have h : 256 ≤ n.n := W4.lt_false.1 h
    rw [wp_chk_true, wp_leaf, shlW, if_neg (by omega)]
    rfl
theorem shr_fn (n x : W4) : LFn Pr 63 [n.v, x.v] [] (.ret (shrW n x).v) [] := by
  refine fnT OTW_sound mixed (by kernel_rfl) LoopsOk.noneT (shr_x n x) ?_
  rw [wp_chk_true, wp_br]
  refine ⟨fun h => ?_, fun h => ?_⟩
  · obtain ⟨h1, h2, h3⟩ := far_n h
    rw [h2, h3]
    rw [Bool.and_self, Bool.and_self, wp_chk_true, wp_leaf, shrW, if_pos h1]
    rfl
  · have h : 256 ≤ n.n := W4.lt_false.1 h
    rw [wp_chk_true, wp_leaf, shrW, if_neg (by omega)]
    rfl
end
end Go.Proofs.Ytajbaocfdlopbaa.K
end
section
open Go Go.Lh
namespace Go.Proofs.Ytajbaocfdlopbaa.K
noncomputable section
set_option maxRecDepth 100000
theorem shr_en : Enters Pr 63 := Enters.of (fn := Go.Proofs.Try.f63) (by kernel_rfl) (by kernel_rfl)
theorem shl_en : Enters Pr 62 := Enters.of (fn := Go.Proofs.Try.f62) (by kernel_rfl) (by kernel_rfl)
theorem small_en : Enters Pr 65 := Enters.of (fn := Go.Proofs.Try.f65) (by kernel_rfl) (by kernel_rfl)
theorem bytes_en : Enters Pr 76 := Enters.of (fn := Go.Proofs.Try.f76) (by kernel_rfl) (by kernel_rfl)
def shr_g := ctWW (fun x y => (shrW x y).v)
def shl_g := ctWW (fun x y => (shlW x y).v)
def not_g := ctW (fun x => (W4.notW x).v)
def and_g := ctWW (fun x y => (W4.andW x y).v)
def xor_g := ctWW (fun x y => (W4.xorW x y).v)
def small_g := ctW (fun x => .tup [.u64 x.d, .bool (isSmall x)])
def below_g := ctWW (fun x y => .bool (slt x y))
def bytes_g := ctW (fun x => .str x.bytes)
def KW1 : KnownT := (111, old divide_g) :: (63, old shr_g) :: (62, old shl_g) :: (65, old small_g) :: (76, old bytes_g) :: KW0
theorem KW1_ok : KOkT Pr KW1 := KOkT.cons divide_en (old_ok (ctWW_ok divide_fn)) (KOkT.cons shr_en (old_ok (ctWW_ok shr_fn)) (KOkT.cons shl_en (old_ok (ctWW_ok shl_fn)) (KOkT.cons small_en (old_ok (ctW_ok small_fn)) (KOkT.cons bytes_en (old_ok (ctW_ok bytes_fn)) (KW0_ok)))))
def OT1 : OrcT := autoT Pr ext KW1 [107] 3
theorem OT1_sound : OrcSound Pr OT1.o := autoT_sound mixed ext_ok KW1_ok (by kernel_rfl) 3
def sarW (n x : W4) : W4 := if x.a >>> 63 = BitVec.ofInt 64 0 then shrW n x else W4.notW (shrW n (W4.notW x))
def byteW (n x : W4) : W4 := if n.n < 32 then W4.small (BitVec.setWidth 64 (x.bytes.getD n.n 0)) else W4.zero
structure OfS where
  s : List (BitVec 8)
  w : List (BitVec 64)
  ls : List (BitVec 64)
  m : Int
theorem ofl_x (s : List (BitVec 8)) (w : List (BitVec 64)) (ls : List (BitVec 64)) (m : Int) (i : Nat) : Tr.prune (Tr.Sh.any.both
  Tr.Sh.any)
  (execBN Pr OT1 noLoopsT (100 : Nat) (0 : Nat) [(0 : Nat), (2 : Nat), (4 : Nat), (11 : Nat), (12 : Nat)]
  [(2 : Nat), (4 : Nat)] (loopBody Go.Proofs.Try.f77 (0 : Nat))
  [((0 : Nat), V.str s), ((2 : Nat), V.ptr (0 : Nat) (0 : Nat)), ((4 : Nat), V.ptr (1 : Nat) (0 : Nat)),
    ((11 : Nat), V.int IntKind.i64 m), ((12 : Nat), V.int IntKind.i64 (↑i : Int))]
  [Blk.b64 w, Blk.b64 ls]) =
  Tr.chk true
  (Tr.br (decide ((↑i : Int) < m))
    (Tr.chk
      (decide ((0 : Int) ≤ wrapI IntKind.i64 ((↑i : Int).tdiv (8 : Int))) &&
            decide (wrapI IntKind.i64 ((↑i : Int).tdiv (8 : Int)) < (4 : Int)) &&
          (decide ((0 : Nat) + (wrapI IntKind.i64 ((↑i : Int).tdiv (8 : Int))).toNat * (1 : Nat) < ls.length) &&
            (decide ((0 : Int) ≤ wrapI IntKind.i64 (wrapI IntKind.i64 ((↑s.length : Int) - (1 : Int)) - (↑i : Int))) &&
                decide
                  (wrapI IntKind.i64 (wrapI IntKind.i64 ((↑s.length : Int) - (1 : Int)) - (↑i : Int)) <
                    (↑s.length : Int)) &&
              (decide ((0 : Int) ≤ wrapI IntKind.i64 ((↑i : Int).tmod (8 : Int) * (8 : Int))) &&
                (decide ((0 : Int) ≤ wrapI IntKind.i64 ((↑i : Int).tdiv (8 : Int))) &&
                    decide (wrapI IntKind.i64 ((↑i : Int).tdiv (8 : Int)) < (4 : Int)) &&
                  decide
                    ((0 : Nat) + (wrapI IntKind.i64 ((↑i : Int).tdiv (8 : Int))).toNat * (1 : Nat) + (1 : Nat) ≤
                      ls.length))))) &&
        true)
      (Tr.leaf
        (X.normal,
          [((0 : Nat), V.str s), ((2 : Nat), V.ptr (0 : Nat) (0 : Nat)), ((4 : Nat), V.ptr (1 : Nat) (0 : Nat)),
            ((11 : Nat), V.int IntKind.i64 m),
            ((12 : Nat), V.int IntKind.i64 (wrapI IntKind.i64 ((↑i : Int) + (1 : Int))))],
          [Blk.b64 w,
            Blk.b64
              (ls.set ((0 : Nat) + (wrapI IntKind.i64 ((↑i : Int).tdiv (8 : Int))).toNat * (1 : Nat))
                (ls.getD ((0 : Nat) + (wrapI IntKind.i64 ((↑i : Int).tdiv (8 : Int))).toNat * (1 : Nat))
                    (OfNat.ofNat (0 : Nat)) |||
                  BitVec.setWidth (64 : Nat)
                      (s.getD (wrapI IntKind.i64 (wrapI IntKind.i64 ((↑s.length : Int) - (1 : Int)) - (↑i : Int))).toNat
                        (OfNat.ofNat (0 : Nat))) <<<
                    (wrapI IntKind.i64 ((↑i : Int).tmod (8 : Int) * (8 : Int))).toNat))])))
    (Tr.leaf
      (X.exit (0 : Nat), [((2 : Nat), V.ptr (0 : Nat) (0 : Nat)), ((4 : Nat), V.ptr (1 : Nat) (0 : Nat))],
        [Blk.b64 w, Blk.b64 ls]))) := by kernel_rfl
def of_L (a : OfS) (i : Nat) : List (BitVec 64) := if i = 0 then a.ls else W4.ofL a.s i
def of_S (a : OfS) (i : Nat) : Fr × Heap := ([(0,.str a.s),(2,.ptr 0 0),(4,.ptr 1 0),(11,.int .i64 a.m),(12,.int .i64 (i : Nat))], [.b64 a.w, .b64 (of_L a i)])
def of_read : Fr → Heap → Option OfS := fun f h => match f, h with
  | [(0,.str s),(2,.ptr 0 0),(4,.ptr 1 0),(11,.int .i64 m),(12,.int .i64 0)], [.b64 w, .b64 ls] => some ⟨s, w, ls, m⟩
  | _, _ => none
def of_ok (a : OfS) : Bool := decide (a.s.length ≤ 32) && decide (a.m = (a.s.length : Nat)) && decide (a.ls = [0,0,0,0])
def of_E (a : OfS) : Tr (X × Fr × Heap) := .leaf (.exit 0, [(2,.ptr 0 0),(4,.ptr 1 0)], [.b64 a.w, .b64 (W4.ofL a.s a.s.length)])
def of_s : SmT := whT 5 [0,2,4,11,12] of_read of_ok of_E
theorem of_at : SmAtT Pr Go.Proofs.Try.f77 0 of_s 0 := by
  refine cntT_x OT1_sound mixed of_S (fun a => a.s.length) (fun a i => ofl_x a.s a.w (of_L a i) a.m i) (by kernel_rfl) (by kernel_rfl) (by kernel_rfl) LoopsOk.noneT ?_ ?_
  · intro f g a h
    unfold of_read at h
    split at h <;> cases h
    rfl
  · rintro ⟨s, w, ls, m⟩ q hok hq i hi
    simp only [of_ok, Bool.and_eq_true, decide_eq_true_eq] at hok
    obtain ⟨⟨h1, rfl⟩, rfl⟩ := hok
    simp only at hi
    rw [of_E, Tr.is_leaf] at hq
    have hL : ∀ j, of_L ⟨s, w, [0,0,0,0], (s.length : Nat)⟩ j = W4.ofL s j := by
      intro j; unfold of_L; split
      · rename_i h; subst h; rfl
      · rfl
    have hl := W4.ofL_length s i
    simp only [wp_chk, wp_leaf, wp_br, hL, decide_eq_true_eq, decide_eq_false_iff_not, true_and]
    refine ⟨fun hlt => ⟨?_, ?_⟩, fun hge => ?_⟩
    · simp (disch := omega) only [tmod_lit, tdiv_lit, mul_lit, add_lit, lit_mul, lit_add, add_nat, mul_nat, sub_lit, lit_sub, sub_nat, wrapI_nat, wrapI_in, Int.toNat_natCast, Nat.mul_one, Nat.zero_add, toNat_lit]
      simp only [Bool.and_eq_true, decide_eq_true_eq]
      (repeat' apply And.intro) <;> first | omega | trivial
    · refine .inl ⟨by omega, ?_⟩
      rw [of_S]
      simp (disch := omega) only [tmod_lit, tdiv_lit, mul_lit, add_lit, lit_mul, lit_add, add_nat, mul_nat, sub_lit, lit_sub, sub_nat, wrapI_nat, wrapI_in, Int.toNat_natCast, Nat.mul_one, Nat.zero_add, toNat_lit, hL, W4.ofL]
    · refine .inr ⟨fun h => (by cases h), ?_⟩
      rw [← hq]
      have : i = s.length := by omega
      rw [this]
theorem of_Ls : LoopsOk Pr Go.Proofs.Try.f77 0 (smLT 0 [of_s]).o := LoopsOk.one (by kernel_rfl) of_at
theorem of_x (s : List (BitVec 8)) : Tr.prune (Tr.Sh.any.both Tr.Sh.any)
  (execBF Pr OT1 (smLT (0 : Nat) [of_s]) (100 : Nat) Go.Proofs.Try.f77 [V.str s] []) =
  Tr.chk true
  (Tr.br (decide ((↑s.length : Int) > (32 : Int)))
    (Tr.chk true
      (Tr.leaf
        (Fin.ret
            (V.tup
              [V.agg
                  [V.u64 (BitVec.ofInt (64 : Nat) (0 : Int)), V.u64 (BitVec.ofInt (64 : Nat) (0 : Int)),
                    V.u64 (BitVec.ofInt (64 : Nat) (0 : Int)), V.u64 (BitVec.ofInt (64 : Nat) (0 : Int))],
                V.bool false]),
          [])))
    (Tr.chk
      (of_ok
            (OfS.mk s
              [BitVec.ofInt (64 : Nat) (0 : Int), BitVec.ofInt (64 : Nat) (0 : Int), BitVec.ofInt (64 : Nat) (0 : Int),
                BitVec.ofInt (64 : Nat) (0 : Int)]
              [BitVec.ofInt (64 : Nat) (0 : Int), BitVec.ofInt (64 : Nat) (0 : Int), BitVec.ofInt (64 : Nat) (0 : Int),
                BitVec.ofInt (64 : Nat) (0 : Int)]
              (↑s.length : Int)) &&
          (decide ((4 : Nat) ≤ (W4.ofL s s.length).length) && true) &&
        true)
      (Tr.leaf
        (Fin.ret
            (V.tup
              [V.agg
                  [V.u64 ((W4.ofL s s.length).getD (3 : Nat) (OfNat.ofNat (0 : Nat))),
                    V.u64 ((W4.ofL s s.length).getD (2 : Nat) (OfNat.ofNat (0 : Nat))),
                    V.u64 ((W4.ofL s s.length).getD (1 : Nat) (OfNat.ofNat (0 : Nat))),
                    V.u64 ((W4.ofL s s.length).getD (0 : Nat) (OfNat.ofNat (0 : Nat)))],
                V.bool true]),
          [])))) := by kernel_rfl
/-- the number of bytes, if there are not too many -/
def ofV (s : List (BitVec 8)) : V := .tup [(if s.length ≤ 32 then W4.ofBytes s else W4.zero).v, .bool (decide (s.length ≤ 32))]
theorem of_fn (s : List (BitVec 8)) : LFn Pr 77 [.str s] [] (.ret (ofV s)) [] := by
  refine fnT OT1_sound mixed (by kernel_rfl) of_Ls (of_x s) ?_
  rw [wp_chk_true, wp_br, ofV]
  refine ⟨fun h => ?_, fun h => ?_⟩
  · have h : ¬ s.length ≤ 32 := by have := of_decide_eq_true h; omega
    rw [if_neg h, decide_eq_false h]
    exact tr1 rfl rfl
  · have h : s.length ≤ 32 := by have := of_decide_eq_false h; omega
    rw [if_pos h, decide_eq_true h]
    refine tr1 ?_ rfl
    simp only [of_ok, W4.ofL_length, Bool.and_true, Bool.and_eq_true, decide_eq_true_eq]
    refine ⟨⟨⟨h, ?_⟩, ?_⟩, ?_⟩ <;> first | trivial | rfl | omega
theorem of_en : Enters Pr 77 := Enters.of (fn := Go.Proofs.Try.f77) (by kernel_rfl) (by kernel_rfl)
def readS : List V → Heap → Option (List (BitVec 8)) := fun args h => match args, h with
  | [.str s], [] => some s
  | _, _ => none
def ctS (f : List (BitVec 8) → V) : List V → Heap → Tr (Fin × Heap) := ctT readS (fun s => .leaf (.ret (f s), []))
theorem ctS_ok {i : FuncId} {f : List (BitVec 8) → V} (hf : ∀ s, LFn Pr i [.str s] [] (.ret (f s)) []) : ∀ args h r, (ctS f args h).is r → LFn Pr i args h r.1 r.2 := by
  refine ctT_ok (fun s => [.str s]) (fun _ => []) ?_ (fun a r h => ?_)
  · intro args h a e
    unfold readS at e
    split at e <;> cases e
    exact ⟨rfl, rfl⟩
  · rw [Tr.is_leaf] at h; subst h; exact hf a
def KW2 : KnownT := (77, ctS ofV) :: KW1
theorem KW2_ok : KOkT Pr KW2 := KOkT.cons of_en (ctS_ok of_fn) (KW1_ok)
end
end Go.Proofs.Ytajbaocfdlopbaa.K
end
section
open Go Go.Lh
namespace Go.Proofs.Ytajbaocfdlopbaa.K
noncomputable section
set_option maxRecDepth 100000
def OT2 : OrcT := autoT Pr ext KW2 [] 5
theorem OT2_sound : OrcSound Pr OT2.o := autoT_sound mixed ext_ok KW2_ok (by kernel_rfl) 5
def wex_g : List V → Heap → Tr (Fin × Heap) := fun args h => match args, h with
  | [], [] => .leaf (.ret (.bool true), [])
  | _, _ => .no
def KW3 : KnownT := KW2
theorem KW3_ok : KOkT Pr KW3 := KW2_ok
def OT3 : OrcT := autoT Pr ext KW3 [] 3
theorem OT3_sound : OrcSound Pr OT3.o := autoT_sound mixed ext_ok KW3_ok (by kernel_rfl) 3
end
end Go.Proofs.Ytajbaocfdlopbaa.K
end
section
open Go Go.Lh
namespace Go.Proofs.Ytajbaocfdlopbaa.K
noncomputable section
set_option maxRecDepth 100000
end
end Go.Proofs.Ytajbaocfdlopbaa.K
end
section
open Go Go.Lh
namespace Go.Proofs.Ytajbaocfdlopbaa.K
noncomputable section
set_option maxRecDepth 100000
theorem divQ_n (x y : W4) : (divQ x y).n = x.n / y.n := by
  have := x.n_lt
  rw [divQ, W4.of_toNat, BitVec.toNat_ofNat, Nat.mod_eq_of_lt (Nat.lt_of_le_of_lt (Nat.div_le_self _ _) this)]
theorem divR_n {x y : W4} (h : y.n ≠ 0) : (divR x y).n = x.n % y.n := by
  have := x.n_lt
  rw [divR, if_neg h, W4.of_toNat, BitVec.toNat_ofNat, Nat.mod_eq_of_lt (Nat.lt_of_le_of_lt (Nat.mod_le _ _) this)]
theorem z64 : BitVec.ofInt 64 0 = 0#64 := rfl
end
end Go.Proofs.Ytajbaocfdlopbaa.K
end
section
open Go Go.Lh
namespace Go.Proofs.Ytajbaocfdlopbaa.K
noncomputable section
set_option maxRecDepth 100000
def OR0 : OrcT := autoT Pr ext KW3 [] 3
theorem OR0_sound : OrcSound Pr OR0.o := autoT_sound mixed ext_ok KW3_ok (by kernel_rfl) 3
theorem dig_x (a : W4) : Tr.prune (Tr.Sh.any.r.l.l.l.l.l.l.l.l.l.l.l.l.l.l.l.l.l.l.l.l.l.l.l.l.l.l.l.l.l.l.l.l.r.r.l.l.l.l.l.l.l.l.l.r.l.l.l.l.l.l.l.l.l.r.l.l.l.l.l.l.l.l.l.r.l.l.l.l.l.l.l.l.l)
  (execBF Pr OR0 noLoopsT (100 : Nat) Go.Proofs.Try.f98 [a.v] []) =
  Tr.chk true
  (Tr.leaf
    (Fin.ret (V.sl (0 : Nat) (0 : Nat) (1 : Nat) (32 : Nat) none),
      [Blk.ints
          [(wrapI IntKind.i64
                  ((wrapI IntKind.i64 (↑(a.d >>> (0 : Nat)).toNat : Int)).tmod (256 : Int) + (256 : Int))).tmod
              (256 : Int),
            (wrapI IntKind.i64
                  ((wrapI IntKind.i64 (↑(a.d >>> (8 : Nat)).toNat : Int)).tmod (256 : Int) + (256 : Int))).tmod
              (256 : Int),
            (wrapI IntKind.i64
                  ((wrapI IntKind.i64 (↑(a.d >>> (16 : Nat)).toNat : Int)).tmod (256 : Int) + (256 : Int))).tmod
              (256 : Int),
            (wrapI IntKind.i64
                  ((wrapI IntKind.i64 (↑(a.d >>> (24 : Nat)).toNat : Int)).tmod (256 : Int) + (256 : Int))).tmod
              (256 : Int),
            (wrapI IntKind.i64
                  ((wrapI IntKind.i64 (↑(a.d >>> (32 : Nat)).toNat : Int)).tmod (256 : Int) + (256 : Int))).tmod
              (256 : Int),
            (wrapI IntKind.i64
                  ((wrapI IntKind.i64 (↑(a.d >>> (40 : Nat)).toNat : Int)).tmod (256 : Int) + (256 : Int))).tmod
              (256 : Int),
            (wrapI IntKind.i64
                  ((wrapI IntKind.i64 (↑(a.d >>> (48 : Nat)).toNat : Int)).tmod (256 : Int) + (256 : Int))).tmod
              (256 : Int),
            (wrapI IntKind.i64
                  ((wrapI IntKind.i64 (↑(a.d >>> (56 : Nat)).toNat : Int)).tmod (256 : Int) + (256 : Int))).tmod
              (256 : Int),
            (wrapI IntKind.i64
                  ((wrapI IntKind.i64 (↑(a.c >>> (0 : Nat)).toNat : Int)).tmod (256 : Int) + (256 : Int))).tmod
              (256 : Int),
            (wrapI IntKind.i64
                  ((wrapI IntKind.i64 (↑(a.c >>> (8 : Nat)).toNat : Int)).tmod (256 : Int) + (256 : Int))).tmod
              (256 : Int),
            (wrapI IntKind.i64
                  ((wrapI IntKind.i64 (↑(a.c >>> (16 : Nat)).toNat : Int)).tmod (256 : Int) + (256 : Int))).tmod
              (256 : Int),
            (wrapI IntKind.i64
                  ((wrapI IntKind.i64 (↑(a.c >>> (24 : Nat)).toNat : Int)).tmod (256 : Int) + (256 : Int))).tmod
              (256 : Int),
            (wrapI IntKind.i64
                  ((wrapI IntKind.i64 (↑(a.c >>> (32 : Nat)).toNat : Int)).tmod (256 : Int) + (256 : Int))).tmod
              (256 : Int),
            (wrapI IntKind.i64
                  ((wrapI IntKind.i64 (↑(a.c >>> (40 : Nat)).toNat : Int)).tmod (256 : Int) + (256 : Int))).tmod
              (256 : Int),
            (wrapI IntKind.i64
                  ((wrapI IntKind.i64 (↑(a.c >>> (48 : Nat)).toNat : Int)).tmod (256 : Int) + (256 : Int))).tmod
              (256 : Int),
            (wrapI IntKind.i64
                  ((wrapI IntKind.i64 (↑(a.c >>> (56 : Nat)).toNat : Int)).tmod (256 : Int) + (256 : Int))).tmod
              (256 : Int),
            (wrapI IntKind.i64
                  ((wrapI IntKind.i64 (↑(a.b >>> (0 : Nat)).toNat : Int)).tmod (256 : Int) + (256 : Int))).tmod
              (256 : Int),
            (wrapI IntKind.i64
                  ((wrapI IntKind.i64 (↑(a.b >>> (8 : Nat)).toNat : Int)).tmod (256 : Int) + (256 : Int))).tmod
              (256 : Int),
            (wrapI IntKind.i64
                  ((wrapI IntKind.i64 (↑(a.b >>> (16 : Nat)).toNat : Int)).tmod (256 : Int) + (256 : Int))).tmod
              (256 : Int),
            (wrapI IntKind.i64
                  ((wrapI IntKind.i64 (↑(a.b >>> (24 : Nat)).toNat : Int)).tmod (256 : Int) + (256 : Int))).tmod
              (256 : Int),
            (wrapI IntKind.i64
                  ((wrapI IntKind.i64 (↑(a.b >>> (32 : Nat)).toNat : Int)).tmod (256 : Int) + (256 : Int))).tmod
              (256 : Int),
            (wrapI IntKind.i64
                  ((wrapI IntKind.i64 (↑(a.b >>> (40 : Nat)).toNat : Int)).tmod (256 : Int) + (256 : Int))).tmod
              (256 : Int),
            (wrapI IntKind.i64
                  ((wrapI IntKind.i64 (↑(a.b >>> (48 : Nat)).toNat : Int)).tmod (256 : Int) + (256 : Int))).tmod
              (256 : Int),
            (wrapI IntKind.i64
                  ((wrapI IntKind.i64 (↑(a.b >>> (56 : Nat)).toNat : Int)).tmod (256 : Int) + (256 : Int))).tmod
              (256 : Int),
            (wrapI IntKind.i64
                  ((wrapI IntKind.i64 (↑(a.a >>> (0 : Nat)).toNat : Int)).tmod (256 : Int) + (256 : Int))).tmod
              (256 : Int),
            (wrapI IntKind.i64
                  ((wrapI IntKind.i64 (↑(a.a >>> (8 : Nat)).toNat : Int)).tmod (256 : Int) + (256 : Int))).tmod
              (256 : Int),
            (wrapI IntKind.i64
                  ((wrapI IntKind.i64 (↑(a.a >>> (16 : Nat)).toNat : Int)).tmod (256 : Int) + (256 : Int))).tmod
              (256 : Int),
            (wrapI IntKind.i64
                  ((wrapI IntKind.i64 (↑(a.a >>> (24 : Nat)).toNat : Int)).tmod (256 : Int) + (256 : Int))).tmod
              (256 : Int),
            (wrapI IntKind.i64
                  ((wrapI IntKind.i64 (↑(a.a >>> (32 : Nat)).toNat : Int)).tmod (256 : Int) + (256 : Int))).tmod
              (256 : Int),
            (wrapI IntKind.i64
                  ((wrapI IntKind.i64 (↑(a.a >>> (40 : Nat)).toNat : Int)).tmod (256 : Int) + (256 : Int))).tmod
              (256 : Int),
            (wrapI IntKind.i64
                  ((wrapI IntKind.i64 (↑(a.a >>> (48 : Nat)).toNat : Int)).tmod (256 : Int) + (256 : Int))).tmod
              (256 : Int),
            (wrapI IntKind.i64
                  ((wrapI IntKind.i64 (↑(a.a >>> (56 : Nat)).toNat : Int)).tmod (256 : Int) + (256 : Int))).tmod
              (256 : Int)]])) := by kernel_rfl
theorem join_x (f : Nat → Int) (c : Option Nat) : Tr.prune (Tr.Sh.any.r.r.r.r.r.l.l.l.l.l.l.l.l.l.l.l.l.l.l.l.l.l.l.l.l.l.l.l.l.l.l.l.l.l.l.l.l.l.l.l.l.l.l.l.l.l.l.l.l.l.l.l.l.l.l.l.l.l.l.l.l.l.l.l.l.l.l.l.l.l.l.l.l.l.l.l.l.l.l.l.l.l.l.l.l.l.l.l.l.l.l.l.l.l.l.l.l.l.l.l.l.l.l.l.l.l.l.l.l.l.l.l.l.l.l.l.l.l.l.l.l.l.l.l.l.l.l.l.l.l.l.l.l.l.l.l.l.l.l.l.l.l.l.l.l.l.l.l.l.l.l.l.l.l.l.l.l.l.l.l.l.l.l.l.l)
  (execBF Pr OR0 noLoopsT (100 : Nat) Go.Proofs.Try.f100 [V.sl (0 : Nat) (0 : Nat) (1 : Nat) (32 : Nat) c]
  [Blk.ints (List.map f (List.range (32 : Nat)))]) =
  Tr.chk true
  (Tr.leaf
    (Fin.ret
        (V.agg
          [V.u64
              (BitVec.ofInt (64 : Nat) (0 : Int) ||| BitVec.ofInt (64 : Nat) (f (24 : Nat)) <<< (0 : Nat) |||
                            BitVec.ofInt (64 : Nat) (f (25 : Nat)) <<< (8 : Nat) |||
                          BitVec.ofInt (64 : Nat) (f (26 : Nat)) <<< (16 : Nat) |||
                        BitVec.ofInt (64 : Nat) (f (27 : Nat)) <<< (24 : Nat) |||
                      BitVec.ofInt (64 : Nat) (f (28 : Nat)) <<< (32 : Nat) |||
                    BitVec.ofInt (64 : Nat) (f (29 : Nat)) <<< (40 : Nat) |||
                  BitVec.ofInt (64 : Nat) (f (30 : Nat)) <<< (48 : Nat) |||
                BitVec.ofInt (64 : Nat) (f (31 : Nat)) <<< (56 : Nat)),
            V.u64
              (BitVec.ofInt (64 : Nat) (0 : Int) ||| BitVec.ofInt (64 : Nat) (f (16 : Nat)) <<< (0 : Nat) |||
                            BitVec.ofInt (64 : Nat) (f (17 : Nat)) <<< (8 : Nat) |||
                          BitVec.ofInt (64 : Nat) (f (18 : Nat)) <<< (16 : Nat) |||
                        BitVec.ofInt (64 : Nat) (f (19 : Nat)) <<< (24 : Nat) |||
                      BitVec.ofInt (64 : Nat) (f (20 : Nat)) <<< (32 : Nat) |||
                    BitVec.ofInt (64 : Nat) (f (21 : Nat)) <<< (40 : Nat) |||
                  BitVec.ofInt (64 : Nat) (f (22 : Nat)) <<< (48 : Nat) |||
                BitVec.ofInt (64 : Nat) (f (23 : Nat)) <<< (56 : Nat)),
            V.u64
              (BitVec.ofInt (64 : Nat) (0 : Int) ||| BitVec.ofInt (64 : Nat) (f (8 : Nat)) <<< (0 : Nat) |||
                            BitVec.ofInt (64 : Nat) (f (9 : Nat)) <<< (8 : Nat) |||
                          BitVec.ofInt (64 : Nat) (f (10 : Nat)) <<< (16 : Nat) |||
                        BitVec.ofInt (64 : Nat) (f (11 : Nat)) <<< (24 : Nat) |||
                      BitVec.ofInt (64 : Nat) (f (12 : Nat)) <<< (32 : Nat) |||
                    BitVec.ofInt (64 : Nat) (f (13 : Nat)) <<< (40 : Nat) |||
                  BitVec.ofInt (64 : Nat) (f (14 : Nat)) <<< (48 : Nat) |||
                BitVec.ofInt (64 : Nat) (f (15 : Nat)) <<< (56 : Nat)),
            V.u64
              (BitVec.ofInt (64 : Nat) (0 : Int) ||| BitVec.ofInt (64 : Nat) (f (0 : Nat)) <<< (0 : Nat) |||
                            BitVec.ofInt (64 : Nat) (f (1 : Nat)) <<< (8 : Nat) |||
                          BitVec.ofInt (64 : Nat) (f (2 : Nat)) <<< (16 : Nat) |||
                        BitVec.ofInt (64 : Nat) (f (3 : Nat)) <<< (24 : Nat) |||
                      BitVec.ofInt (64 : Nat) (f (4 : Nat)) <<< (32 : Nat) |||
                    BitVec.ofInt (64 : Nat) (f (5 : Nat)) <<< (40 : Nat) |||
                  BitVec.ofInt (64 : Nat) (f (6 : Nat)) <<< (48 : Nat) |||
                BitVec.ofInt (64 : Nat) (f (7 : Nat)) <<< (56 : Nat))]),
      [Blk.ints (List.map f (List.range (32 : Nat)))])) := by kernel_rfl
theorem joind_x (f : Nat → Int) (c : Option Nat) : Tr.prune (Tr.Sh.any.r.r.r.r.r.l.l.l.l.l.l.l.l.l.l.l.l.l.l.l.l.l.l.l.l.l.l.l.l.l.l.l.l.l.l.l.l.l.l.l.l.l.l.l.l.l.l.l.l.l.l.l.l.l.l.l.l.l.l.l.l.l.l.l.l.l.l.l.l.l.l.l.l.l.l.l.l.l.l.l.l.l.l.l.l.l.l.l.l.l.l.l.l.l.l.l.l.l.l.l.l.l.l.l.l.l.l.l.l.l.l.l.l.l.l.l.l.l.l.l.l.l.l.l.l.l.l.l.l.l.l.l.l.l.l.l.l.l.l.l.l.l.l.l.l.l.l.l.l.l.l.l.l.l.l.l.l.l.l.l.l.l.l.l.l)
  (execBF Pr OR0 noLoopsT (100 : Nat) Go.Proofs.Try.f100 [V.sl (0 : Nat) (0 : Nat) (1 : Nat) (64 : Nat) c]
  [Blk.ints (List.map f (List.range (64 : Nat)))]) =
  Tr.chk true
  (Tr.leaf
    (Fin.ret
        (V.agg
          [V.u64
              (BitVec.ofInt (64 : Nat) (0 : Int) ||| BitVec.ofInt (64 : Nat) (f (24 : Nat)) <<< (0 : Nat) |||
                            BitVec.ofInt (64 : Nat) (f (25 : Nat)) <<< (8 : Nat) |||
                          BitVec.ofInt (64 : Nat) (f (26 : Nat)) <<< (16 : Nat) |||
                        BitVec.ofInt (64 : Nat) (f (27 : Nat)) <<< (24 : Nat) |||
                      BitVec.ofInt (64 : Nat) (f (28 : Nat)) <<< (32 : Nat) |||
                    BitVec.ofInt (64 : Nat) (f (29 : Nat)) <<< (40 : Nat) |||
                  BitVec.ofInt (64 : Nat) (f (30 : Nat)) <<< (48 : Nat) |||
                BitVec.ofInt (64 : Nat) (f (31 : Nat)) <<< (56 : Nat)),
            V.u64
              (BitVec.ofInt (64 : Nat) (0 : Int) ||| BitVec.ofInt (64 : Nat) (f (16 : Nat)) <<< (0 : Nat) |||
                            BitVec.ofInt (64 : Nat) (f (17 : Nat)) <<< (8 : Nat) |||
                          BitVec.ofInt (64 : Nat) (f (18 : Nat)) <<< (16 : Nat) |||
                        BitVec.ofInt (64 : Nat) (f (19 : Nat)) <<< (24 : Nat) |||
                      BitVec.ofInt (64 : Nat) (f (20 : Nat)) <<< (32 : Nat) |||
                    BitVec.ofInt (64 : Nat) (f (21 : Nat)) <<< (40 : Nat) |||
                  BitVec.ofInt (64 : Nat) (f (22 : Nat)) <<< (48 : Nat) |||
                BitVec.ofInt (64 : Nat) (f (23 : Nat)) <<< (56 : Nat)),
            V.u64
              (BitVec.ofInt (64 : Nat) (0 : Int) ||| BitVec.ofInt (64 : Nat) (f (8 : Nat)) <<< (0 : Nat) |||
                            BitVec.ofInt (64 : Nat) (f (9 : Nat)) <<< (8 : Nat) |||
                          BitVec.ofInt (64 : Nat) (f (10 : Nat)) <<< (16 : Nat) |||
                        BitVec.ofInt (64 : Nat) (f (11 : Nat)) <<< (24 : Nat) |||
                      BitVec.ofInt (64 : Nat) (f (12 : Nat)) <<< (32 : Nat) |||
                    BitVec.ofInt (64 : Nat) (f (13 : Nat)) <<< (40 : Nat) |||
                  BitVec.ofInt (64 : Nat) (f (14 : Nat)) <<< (48 : Nat) |||
                BitVec.ofInt (64 : Nat) (f (15 : Nat)) <<< (56 : Nat)),
            V.u64
              (BitVec.ofInt (64 : Nat) (0 : Int) ||| BitVec.ofInt (64 : Nat) (f (0 : Nat)) <<< (0 : Nat) |||
                            BitVec.ofInt (64 : Nat) (f (1 : Nat)) <<< (8 : Nat) |||
                          BitVec.ofInt (64 : Nat) (f (2 : Nat)) <<< (16 : Nat) |||
                        BitVec.ofInt (64 : Nat) (f (3 : Nat)) <<< (24 : Nat) |||
                      BitVec.ofInt (64 : Nat) (f (4 : Nat)) <<< (32 : Nat) |||
                    BitVec.ofInt (64 : Nat) (f (5 : Nat)) <<< (40 : Nat) |||
                  BitVec.ofInt (64 : Nat) (f (6 : Nat)) <<< (48 : Nat) |||
                BitVec.ofInt (64 : Nat) (f (7 : Nat)) <<< (56 : Nat))]),
      [Blk.ints (List.map f (List.range (64 : Nat)))])) := by kernel_rfl
theorem digits_fn (a : W4) : LFn Pr 98 [a.v] [] (.ret (.sl 0 0 1 32 none)) [.ints (W4.dg 32 a.n)] := by
  refine fnT OR0_sound mixed (by kernel_rfl) LoopsOk.noneT (dig_x a) (tr1 rfl ?_)
  have ha := a.a.isLt
  have hb := a.b.isLt
  have hc := a.c.isLt
  have hd := a.d.isLt
  simp only [W4.dig_el]
  simp only [BitVec.toNat_ushiftRight, Nat.shiftRight_eq_div_pow]
  have e : W4.dg 32 a.n = (List.range 32).map fun i => ((a.n / 256 ^ i % 256 : Nat) : Int) := rfl
  rw [e, show List.range 32 = [0,1,2,3,4,5,6,7,8,9,10,11,12,13,14,15,16,17,18,19,20,21,22,23,24,25,26,27,28,29,30,31] from rfl]
  simp only [List.map_cons, List.map_nil]
  have hn : a.n = 2 ^ 192 * a.a.toNat + (2 ^ 128 * a.b.toNat + (2 ^ 64 * a.c.toNat + a.d.toNat)) := rfl
  refine congrArg (fun l => (Fin.ret (V.sl 0 0 1 32 none), [Blk.ints l])) ?_
  (repeat' apply List.cons_eq_cons.2 ⟨?_, ?_⟩) <;> first | rfl | omega
theorem join_fn (m : Nat) (c : Option Nat) : LFn Pr 100 [.sl 0 0 1 32 c] [.ints (W4.dg 32 m)] (.ret (W4.ofN m).v) [.ints (W4.dg 32 m)] := by
  refine fnT OR0_sound mixed (by kernel_rfl) LoopsOk.noneT (join_x (fun i => ((m / 256 ^ i % 256 : Nat) : Int)) c) (tr1 rfl ?_)
  have h0 := W4.limb_dg m 0
  have h1 := W4.limb_dg m 1
  have h2 := W4.limb_dg m 2
  have h3 := W4.limb_dg m 3
  refine congrArg (fun v => (Fin.ret v, [Blk.ints (W4.dg 32 m)])) ?_
  rw [W4.v, W4.ofN, ← h0, ← h1, ← h2, ← h3]
theorem joind_fn (m : Nat) (c : Option Nat) : LFn Pr 100 [.sl 0 0 1 64 c] [.ints (W4.dg 64 m)] (.ret (W4.ofN m).v) [.ints (W4.dg 64 m)] := by
  refine fnT OR0_sound mixed (by kernel_rfl) LoopsOk.noneT (joind_x (fun i => ((m / 256 ^ i % 256 : Nat) : Int)) c) (tr1 rfl ?_)
  have h0 := W4.limb_dg m 0
  have h1 := W4.limb_dg m 1
  have h2 := W4.limb_dg m 2
  have h3 := W4.limb_dg m 3
  refine congrArg (fun v => (Fin.ret v, [Blk.ints (W4.dg 64 m)])) ?_
  rw [W4.v, W4.ofN, ← h0, ← h1, ← h2, ← h3]
theorem digits_en : Enters Pr 98 := Enters.of (fn := Go.Proofs.Try.f98) (by kernel_rfl) (by kernel_rfl)
theorem join_en : Enters Pr 100 := Enters.of (fn := Go.Proofs.Try.f100) (by kernel_rfl) (by kernel_rfl)
def readWd : List V → Heap → Option W4 := fun args h => match args, h with
  | [.agg [.u64 a, .u64 b, .u64 c, .u64 d]], [] => some ⟨a, b, c, d⟩
  | _, _ => none
def digits_g : List V → Heap → Tr (Fin × Heap) := ctT readWd (fun a => .leaf (.ret (.sl 0 0 1 32 none), [.ints (W4.dg 32 a.n)]))
theorem digits_ok : ∀ args h r, (digits_g args h).is r → LFn Pr 98 args h r.1 r.2 := by
  refine ctT_ok (fun a => [a.v]) (fun _ => []) ?_ (fun a r h => ?_)
  · intro args h a e
    unfold readWd at e
    split at e <;> cases e
    exact ⟨rfl, rfl⟩
  · rw [Tr.is_leaf] at h; subst h; exact digits_fn a
def readSl : List V → Heap → Option (Nat × Option Nat × List Int) := fun args h => match args, h with
  | [.sl 0 0 1 n c], [.ints xs] => some (n, c, xs)
  | _, _ => none
def join_g : List V → Heap → Tr (Fin × Heap) := ctT readSl (fun a => .chk ((decide (a.1 = 32) || decide (a.1 = 64)) && W4.isD a.1 a.2.2) (.leaf (.ret (W4.ofN (W4.valI a.2.2)).v, [.ints a.2.2])))
theorem join_ok : ∀ args h r, (join_g args h).is r → LFn Pr 100 args h r.1 r.2 := by
  refine ctT_ok (fun a => [.sl 0 0 1 a.1 a.2.1]) (fun a => [.ints a.2.2]) ?_ (fun a r h => ?_)
  · intro args h a e
    unfold readSl at e
    split at e <;> cases e
    exact ⟨rfl, rfl⟩
  · obtain ⟨n, c, xs⟩ := a
    rw [Tr.is_chk, Tr.is_leaf] at h
    obtain ⟨h, rfl⟩ := h
    simp only [Bool.and_eq_true, Bool.or_eq_true, decide_eq_true_eq, W4.isD_iff] at h
    obtain ⟨h1, h2⟩ := h
    have hj := join_fn (W4.valI xs) c
    have hd := joind_fn (W4.valI xs) c
    rcases h1 with rfl | rfl
    · rw [← h2] at hj; exact hj
    · rw [← h2] at hd; exact hd
def KR1 : KnownT := (98, digits_g) :: (100, join_g) :: KW3
theorem KR1_ok : KOkT Pr KR1 := KOkT.cons digits_en digits_ok (KOkT.cons join_en join_ok (KW3_ok))
def OR1 : OrcT := autoT Pr ext KR1 [] 3
theorem OR1_sound : OrcSound Pr OR1.o := autoT_sound mixed ext_ok KR1_ok (by kernel_rfl) 3
structure MvS where
  w : List (BitVec 64)
  d : List Int
  o : List Int
  n : Int
  fill : Int
def mv_O (a : MvS) (i : Nat) : List Int := if i = 0 then a.o else W4.dg 32 (W4.bitsN (W4.mvB (W4.valI a.d) a.n a.fill) i)
def mv_S (a : MvS) (i : Nat) : Fr × Heap := ([(1,.int .i64 a.n),(2,.int .i64 a.fill),(6,.ptr 0 0),(7,.sl 1 0 1 32 none),(8,.sl 2 0 1 32 (some 32)),(9,.int .i64 (i : Nat))], [.b64 a.w, .ints a.d, .ints (mv_O a i)])
def mv_read : Fr → Heap → Option MvS := fun f h => match f, h with
  | [(1,.int .i64 n),(2,.int .i64 fill),(6,.ptr 0 0),(7,.sl 1 0 1 32 none),(8,.sl 2 0 1 32 (some 32)),(9,.int .i64 0)], [.b64 w, .ints d, .ints o] => some ⟨w, d, o, n, fill⟩
  | _, _ => none
def mv_ok (a : MvS) : Bool := W4.isD 32 a.d && (W4.is0 32 a.o && (decide (-256 ≤ a.n) && (decide (a.n ≤ 256) && (decide (a.fill = 0) || decide (a.fill = 1)))))
def mv_E (a : MvS) : Tr (X × Fr × Heap) := .leaf (.exit 0, [(6,.ptr 0 0),(7,.sl 1 0 1 32 none),(8,.sl 2 0 1 32 (some 32))], [.b64 a.w, .ints a.d, .ints (W4.dg 32 (W4.mvN (W4.valI a.d) a.n a.fill))])
def mv_s : SmT := whT 4 [1,2,6,7,8,9] mv_read mv_ok mv_E
end
end Go.Proofs.Ytajbaocfdlopbaa.K
end
section
open Go Go.Lh
namespace Go.Proofs.Ytajbaocfdlopbaa.K
noncomputable section
set_option maxRecDepth 100000
theorem valI_dg32 {m : Nat} (h : m < 2 ^ 256) : W4.valI (W4.dg 32 m) = m := by rw [W4.valI_dg]; exact Nat.mod_eq_of_lt h
end
end Go.Proofs.Ytajbaocfdlopbaa.K
end
section
open Go Go.Lh
namespace Go.Proofs.Ytajbaocfdlopbaa.K
noncomputable section
set_option maxRecDepth 100000
theorem rnot_x (x : W4) : Tr.prune (Tr.Sh.any)
  (execBF Pr OR0 noLoopsT (100 : Nat) Go.Proofs.Try.f116 [x.v] []) =
  Tr.chk true
  (Tr.leaf (Fin.ret (V.agg [V.u64 (~~~x.a), V.u64 (~~~x.b), V.u64 (~~~x.c), V.u64 (~~~x.d)]), [])) := by kernel_rfl
theorem rless_x (x : W4) (y : W4) : Tr.prune (Tr.Sh.any.both (Tr.Sh.any.both (Tr.Sh.any.both Tr.Sh.any)))
  (execBF Pr OR0 noLoopsT (100 : Nat) Go.Proofs.Try.f91 [x.v, y.v] []) =
  Tr.chk true
  (Tr.br (x.a != y.a) (Tr.chk true (Tr.leaf (Fin.ret (V.bool (decide (x.a < y.a))), [])))
    (Tr.chk true
      (Tr.br (x.b != y.b) (Tr.chk true (Tr.leaf (Fin.ret (V.bool (decide (x.b < y.b))), [])))
        (Tr.chk true
          (Tr.br (x.c != y.c) (Tr.chk true (Tr.leaf (Fin.ret (V.bool (decide (x.c < y.c))), [])))
            (Tr.chk true (Tr.leaf (Fin.ret (V.bool (decide (x.d < y.d))), [])))))))) := by kernel_rfl
theorem rnot_fn (x : W4) : LFn Pr 116 [x.v] [] (.ret (W4.notW x).v) [] :=
  fnT OR0_sound mixed (by kernel_rfl) LoopsOk.noneT (rnot_x x) (tr1 rfl rfl)
theorem rless_fn (x y : W4) : LFn Pr 91 [x.v, y.v] [] (.ret (.bool (x.lt y))) [] := by
  refine fnT OR0_sound mixed (by kernel_rfl) LoopsOk.noneT (rless_x x y) ?_
  have ha := x.a.isLt
  have hb := x.b.isLt
  have hc := x.c.isLt
  have hd := x.d.isLt
  have ha' := y.a.isLt
  have hb' := y.b.isLt
  have hc' := y.c.isLt
  have hd' := y.d.isLt
  have e1 : x.n = 2 ^ 192 * x.a.toNat + (2 ^ 128 * x.b.toNat + (2 ^ 64 * x.c.toNat + x.d.toNat)) := rfl
  have e2 : y.n = 2 ^ 192 * y.a.toNat + (2 ^ 128 * y.b.toNat + (2 ^ 64 * y.c.toNat + y.d.toNat)) := rfl
  simp only [wp_chk_true, wp_br, wp_leaf, ret_inj, and_true, bool_inj, W4.lt, decide_eq_decide, bne_iff_ne, ne_eq, bne_eq_false_iff_eq, ← BitVec.toNat_inj, BitVec.lt_def]
  refine ⟨fun h => by omega, fun h => ⟨fun h2 => by omega, fun h2 => ⟨fun h3 => by omega, fun h3 => by omega⟩⟩⟩
theorem rnot_en : Enters Pr 116 := Enters.of (fn := Go.Proofs.Try.f116) (by kernel_rfl) (by kernel_rfl)
theorem rless_en : Enters Pr 91 := Enters.of (fn := Go.Proofs.Try.f91) (by kernel_rfl) (by kernel_rfl)
def rand_g := ctWW (fun x y => (W4.andW x y).v)
def rnot_g := ctW (fun x => (W4.notW x).v)
def rless_g := ctWW (fun x y => .bool (x.lt y))
def readMv : List V → Heap → Option (W4 × Int × Int) := fun args h => match args, h with
  | [.agg [.u64 a, .u64 b, .u64 c, .u64 d], .int .i64 n, .int .i64 f], [] => some (⟨a, b, c, d⟩, n, f)
  | _, _ => none
def moved_g : List V → Heap → Tr (Fin × Heap) := ctT readMv (fun a => .chk (decide (-256 ≤ a.2.1) && (decide (a.2.1 ≤ 256) && (decide (a.2.2 = 0) || decide (a.2.2 = 1)))) (.leaf (.ret (W4.ofN (W4.mvN a.1.n a.2.1 a.2.2)).v, [])))
def KR2 : KnownT := (116, old rnot_g) :: (91, old rless_g) :: KR1
theorem KR2_ok : KOkT Pr KR2 := KOkT.cons rnot_en (old_ok (ctW_ok rnot_fn)) (KOkT.cons rless_en (old_ok (ctWW_ok rless_fn)) (KR1_ok))
def OR2 : OrcT := autoT Pr ext KR2 [75] 3
theorem OR2_sound : OrcSound Pr OR2.o := autoT_sound mixed ext_ok KR2_ok (by kernel_rfl) 3
end
end Go.Proofs.Ytajbaocfdlopbaa.K
end
section
open Go Go.Lh
namespace Go.Proofs.Ytajbaocfdlopbaa.K
noncomputable section
set_option maxRecDepth 100000
theorem xor63 (x : BitVec 64) : (x ^^^ BitVec.ofInt 64 9223372036854775808).toNat = if x.toNat < 2 ^ 63 then x.toNat + 2 ^ 63 else x.toNat - 2 ^ 63 := by
  have hs : BitVec.ofInt 64 9223372036854775808 = BitVec.ofNat 64 (2 ^ 63) := rfl
  rw [hs, BitVec.toNat_xor, BitVec.toNat_ofNat, Nat.mod_eq_of_lt (by decide)]
  have hx := x.isLt
  generalize x.toNat = n at *
  split
  · next h =>
    have : n ^^^ 2 ^ 63 = 2 ^ 63 * 1 + n := by
      rw [Nat.two_pow_add_eq_or_of_lt h 1]
      apply Nat.eq_of_testBit_eq
      intro i
      rw [Nat.testBit_xor, Nat.testBit_or, Nat.mul_one, Nat.testBit_two_pow]
      by_cases e : 63 = i
      · subst e; rw [Nat.testBit_lt_two_pow h]; rfl
      · simp [e]
    omega
  · next h =>
    have h2 : n - 2 ^ 63 < 2 ^ 63 := by omega
    have e : n = 2 ^ 63 * 1 + (n - 2 ^ 63) := by omega
    generalize n - 2 ^ 63 = m at *
    rw [Nat.two_pow_add_eq_or_of_lt h2 1, Nat.mul_one] at e
    subst e
    apply Nat.eq_of_testBit_eq
    intro i
    rw [Nat.testBit_xor, Nat.testBit_or, Nat.testBit_two_pow]
    by_cases e : 63 = i
    · subst e; rw [Nat.testBit_lt_two_pow h2]; rfl
    · simp [e]
theorem flip_n (x : W4) : (flip x).n = if x.n < 2 ^ 255 then x.n + 2 ^ 255 else x.n - 2 ^ 255 := by
  have h := xor63 x.a
  have hb := x.b.isLt
  have hc := x.c.isLt
  have hd := x.d.isLt
  have hf : (flip x).n = 2 ^ 192 * (x.a ^^^ BitVec.ofInt 64 9223372036854775808).toNat + (2 ^ 128 * x.b.toNat + (2 ^ 64 * x.c.toNat + x.d.toNat)) := rfl
  have hn : x.n = 2 ^ 192 * x.a.toNat + (2 ^ 128 * x.b.toNat + (2 ^ 64 * x.c.toNat + x.d.toNat)) := rfl
  rw [hf, h]
  by_cases h1 : x.a.toNat < 2 ^ 63
  · rw [if_pos h1, if_pos (by omega)]; omega
  · rw [if_neg h1, if_neg (by omega)]; omega
theorem slt_iff (x y : W4) : slt x y = decide ((if x.n < 2 ^ 255 then x.n + 2 ^ 255 else x.n - 2 ^ 255) < (if y.n < 2 ^ 255 then y.n + 2 ^ 255 else y.n - 2 ^ 255)) := by
  rw [Bool.eq_iff_iff, decide_eq_true_iff, slt, W4.lt_iff, flip_n, flip_n]
theorem slt_sign (x y : W4) : slt x y = decide ((2 ^ 255 ≤ x.n ∧ ¬ 2 ^ 255 ≤ y.n) ∨ ((2 ^ 255 ≤ x.n ↔ 2 ^ 255 ≤ y.n) ∧ x.n < y.n)) := by
  rw [slt_iff, Bool.eq_iff_iff, decide_eq_true_iff, decide_eq_true_iff]
  have hx := x.n_lt
  have hy := y.n_lt
  by_cases h1 : x.n < 2 ^ 255
  · by_cases h2 : y.n < 2 ^ 255
    · rw [if_pos h1, if_pos h2]; omega
    · rw [if_pos h1, if_neg h2]; omega
  · by_cases h2 : y.n < 2 ^ 255
    · rw [if_neg h1, if_pos h2]; omega
    · rw [if_neg h1, if_neg h2]; omega
theorem slt_zero (x : W4) : slt x W4.zero = decide (2 ^ 255 ≤ x.n) := by
  rw [slt_iff, Bool.eq_iff_iff, decide_eq_true_iff, decide_eq_true_iff, W4.zero_n]
  have := x.n_lt
  split <;> simp <;> omega
theorem top_iff (x : W4) : (decide (BitVec.ofInt 8 128 ≤ x.byteAt 31)) = decide (2 ^ 255 ≤ x.n) := by
  have h := W4.byteAt_n x (k := 31) (by decide)
  have := x.n_lt
  rw [Bool.eq_iff_iff, decide_eq_true_iff, decide_eq_true_iff, BitVec.le_def, h]
  have e : (BitVec.ofInt 8 128).toNat = 128 := rfl
  rw [e]
  omega
theorem sign_iff (x : W4) : x.a >>> 63 = BitVec.ofInt 64 0 ↔ x.n < 2 ^ 255 := by
  have ha := x.a.isLt
  have hb := x.b.isLt
  have hc := x.c.isLt
  have hd := x.d.isLt
  rw [← BitVec.toNat_inj, BitVec.toNat_ushiftRight, Nat.shiftRight_eq_div_pow, show (BitVec.ofInt 64 0).toNat = 0 from rfl]
  simp only [W4.n]
  omega
theorem sarW_pos {n x : W4} (h : x.n < 2 ^ 255) : sarW n x = shrW n x := by rw [sarW, if_pos ((sign_iff x).2 h)]
theorem sarW_neg {n x : W4} (h : ¬ x.n < 2 ^ 255) : sarW n x = W4.notW (shrW n (W4.notW x)) := by rw [sarW, if_neg (fun e => h ((sign_iff x).1 e))]
theorem zero_mk : (W4.mk (BitVec.ofInt 64 0) (BitVec.ofInt 64 0) (BitVec.ofInt 64 0) (BitVec.ofInt 64 0)) = W4.zero := rfl
theorem zero_mk' : (W4.mk 0#64 0#64 0#64 0#64) = W4.zero := rfl
theorem small_nn (k : BitVec 64) : (W4.small k).n = k.toNat := by simp [W4.small, W4.n]
theorem far_or (n : W4) : 256 ≤ (W4.orW n (W4.small (BitVec.ofInt 64 256))).n := by
  rw [W4.orW_nn, small_nn]
  have e : (BitVec.ofInt 64 256).toNat = 256 := rfl
  rw [e]
  exact Nat.right_le_or
theorem far_shl (n x : W4) : shlW (W4.orW n (W4.small (BitVec.ofInt 64 256))) x = W4.zero := by
  have := far_or n; rw [shlW, if_neg (by omega)]
theorem far_shr (n x : W4) : shrW (W4.orW n (W4.small (BitVec.ofInt 64 256))) x = W4.zero := by
  have := far_or n; rw [shrW, if_neg (by omega)]
theorem one_shl (x : W4) : shlW (W4.small (BitVec.ofInt 64 1)) x = x.add x := by
  rw [shlW, small_nn, if_pos (by decide)]; exact W4.shl_one x
theorem one_shr (x : W4) : shrW (W4.small (BitVec.ofInt 64 1)) x = W4.shr x 1 := by
  rw [shrW, small_nn, if_pos (by decide)]; rfl
theorem half (x : W4) : W4.shr x 1 = divQ x (W4.small (BitVec.ofInt 64 2)) := by
  apply W4.ext_n; rw [divQ_n, small_nn, W4.shr_n]; rfl
theorem sar_zero (x : W4) : sarW W4.zero x = x := by
  have e : ∀ y, shrW W4.zero y = y := fun y => by rw [shrW, if_pos (by decide)]; exact W4.shr_zero y
  by_cases h : x.n < 2 ^ 255
  · rw [sarW_pos h, e]
  · rw [sarW_neg h, e, W4.not_not]
theorem sar_far (n x : W4) : sarW (W4.orW n (W4.small (BitVec.ofInt 64 256))) x = if x.n < 2 ^ 255 then W4.zero else W4.notW W4.zero := by
  by_cases h : x.n < 2 ^ 255
  · rw [sarW_pos h, far_shr, if_pos h]
  · rw [sarW_neg h, far_shr, if_neg h]
theorem sar_sign (x : W4) : slt (sarW (W4.small (BitVec.ofInt 64 1)) x) W4.zero = slt x W4.zero := by
  rw [slt_zero, slt_zero, Bool.eq_iff_iff, decide_eq_true_iff, decide_eq_true_iff]
  have := x.n_lt
  by_cases h : x.n < 2 ^ 255
  · rw [sarW_pos h, one_shr, W4.shr_n]; omega
  · rw [sarW_neg h, one_shr, W4.not_n, W4.shr_n, W4.not_n]; omega
theorem sar_sign' (x : W4) : decide (2 ^ 255 ≤ (sarW (W4.small (BitVec.ofInt 64 1)) x).n) = decide (2 ^ 255 ≤ x.n) := by
  have := sar_sign x; rwa [slt_zero, slt_zero] at this
theorem byte_eq (n : BitVec 8) (a : W4) : byteW (W4.small (BitVec.setWidth 64 (n % BitVec.ofInt 8 32))) a = W4.small (BitVec.setWidth 64 (a.bytes.getD (n % BitVec.ofInt 8 32).toNat (OfNat.ofNat 0))) := by
  have e : (n % BitVec.ofInt 8 32).toNat < 32 := by
    rw [BitVec.toNat_umod]; exact Nat.mod_lt _ (by decide)
  have e2 : (W4.small (BitVec.setWidth 64 (n % BitVec.ofInt 8 32))).n = (n % BitVec.ofInt 8 32).toNat := by
    rw [small_nn, BitVec.toNat_setWidth, Nat.mod_eq_of_lt (by omega)]
  rw [byteW, e2, if_pos e]
theorem lo_eq (n : BitVec 8) (a : W4) : shrW (W4.small (BitVec.setWidth 64 n)) (shlW (W4.small (BitVec.setWidth 64 n)) a) = W4.andW a (shrW (W4.small (BitVec.setWidth 64 n)) (W4.notW W4.zero)) := by
  have h := n.isLt
  have e2 : (W4.small (BitVec.setWidth 64 n)).n = n.toNat := by
    rw [small_nn, BitVec.toNat_setWidth, Nat.mod_eq_of_lt (by omega)]
  rw [shrW, shlW, shrW, e2, if_pos (by omega), if_pos (by omega), if_pos (by omega)]
  exact W4.shl_shr a _ (by omega)
end
end Go.Proofs.Ytajbaocfdlopbaa.K
end
section
open Go Go.Lh
namespace Go.Proofs.Ytajbaocfdlopbaa.K
noncomputable section
set_option maxRecDepth 100000
theorem ofN_left (a : W4) (k : Nat) : W4.ofN (W4.mvN a.n (-(k : Int)) 0) = W4.shl a k := W4.ext_n (by rw [W4.ofN_n, W4.mvN_left a.n_lt, W4.shl_n, Nat.mod_mod])
theorem ofN_right (a : W4) (k : Nat) : W4.ofN (W4.mvN a.n (k : Int) 0) = W4.shr a k := W4.ext_n (by
  have := a.n_lt
  rw [W4.ofN_n, W4.mvN_right a.n_lt, W4.shr_n, Nat.mod_eq_of_lt (Nat.lt_of_le_of_lt (Nat.div_le_self _ _) this)])
theorem ofN_sar (a : W4) (k : Nat) : W4.ofN (W4.mvN a.n (k : Int) 1) = W4.notW (W4.shr (W4.notW a) k) := W4.ext_n (by
  rw [W4.ofN_n, W4.mvN_sar a.n_lt, W4.not_n, W4.shr_n, W4.not_n]
  generalize (2 ^ 256 - 1 - a.n) / 2 ^ k = q
  exact Nat.mod_eq_of_lt (by omega))
theorem shl_far (a : W4) : W4.shl a 256 = W4.zero := W4.ext_n (by rw [W4.shl_n, W4.zero_n]; omega)
theorem shr_far (a : W4) : W4.shr a 256 = W4.zero := W4.ext_n (by rw [W4.shr_n, W4.zero_n]; exact Nat.div_eq_of_lt a.n_lt)
theorem low_n {n : W4} (h : n.n < 256) : n.d.toNat = n.n := by
  have ha := n.a.isLt
  have e1 : n.n = 2 ^ 192 * n.a.toNat + (2 ^ 128 * n.b.toNat + (2 ^ 64 * n.c.toNat + n.d.toNat)) := rfl
  omega
theorem k256 : (W4.mk (BitVec.ofInt 64 0) (BitVec.ofInt 64 0) (BitVec.ofInt 64 0) (BitVec.ofInt 64 256)).n = 256 := rfl
theorem k32 : (W4.mk (BitVec.ofInt 64 0) (BitVec.ofInt 64 0) (BitVec.ofInt 64 0) (BitVec.ofInt 64 32)).n = 32 := rfl
theorem top1 (x : W4) : x.a >>> 63 = BitVec.ofInt 64 1 ↔ ¬ x.n < 2 ^ 255 := by
  rw [← sign_iff, ← BitVec.toNat_inj, ← BitVec.toNat_inj, BitVec.toNat_ushiftRight, Nat.shiftRight_eq_div_pow, show (BitVec.ofInt 64 0).toNat = 0 from rfl, show (BitVec.ofInt 64 1).toNat = 1 from rfl]
  have := x.a.isLt
  omega
def KR3 : KnownT := KR2
theorem KR3_ok : KOkT Pr KR3 := KR2_ok
def OR3 : OrcT := autoT Pr ext KR3 [] 3
theorem OR3_sound : OrcSound Pr OR3.o := autoT_sound mixed ext_ok KR3_ok (by kernel_rfl) 3
end
end Go.Proofs.Ytajbaocfdlopbaa.K
end
section
open Go Go.Lh
namespace Go.Proofs.Ytajbaocfdlopbaa.K
noncomputable section
set_option maxRecDepth 100000
theorem sumf_fn (f g : Nat → Int) : LFn Pr 99 [.sl 0 0 1 32 none, .sl 1 0 1 32 none] [.ints ((List.range 32).map f), .ints ((List.range 32).map g)] (.ret (.sl 2 0 1 32 none)) [.ints ((List.range 32).map f), .ints ((List.range 32).map g), .ints ((List.range 32).map (W4.sumO f g))] :=
  fnC (fn := Go.Proofs.Try.f99) OR3_sound mixed (fuel := 100) (by kernel_rfl) LoopsOk.noneT (by kernel_rfl)
theorem sum_fn (x y : Nat) : LFn Pr 99 [.sl 0 0 1 32 none, .sl 1 0 1 32 none] [.ints (W4.dg 32 x), .ints (W4.dg 32 y)] (.ret (.sl 2 0 1 32 none)) [.ints (W4.dg 32 x), .ints (W4.dg 32 y), .ints (W4.dg 32 (x + y))] := by
  have h := sumf_fn (W4.dig x) (W4.dig y)
  rw [W4.sumO_dg] at h
  exact h
structure PrS where
  A : List Int
  B : List Int
  O : List Int
  i : Nat
  k : Nat
theorem pri_x (A : List Int) (B : List Int) (O : List Int) (i : Nat) (k : Nat) (c : Int) : Tr.prune ((Tr.Sh.any.both
          Tr.Sh.any).l.l.both
  ((Tr.Sh.any.both Tr.Sh.any).both Tr.Sh.any).r)
  (execBN Pr OR3 noLoopsT (100 : Nat) (2 : Nat) [(0 : Nat), (1 : Nat), (5 : Nat), (6 : Nat), (7 : Nat), (8 : Nat)]
  [(0 : Nat), (1 : Nat), (5 : Nat), (6 : Nat)] (loopBody Go.Proofs.Try.f97 (1 : Nat))
  [((0 : Nat), V.sl (0 : Nat) (0 : Nat) (1 : Nat) (32 : Nat) none),
    ((1 : Nat), V.sl (1 : Nat) (0 : Nat) (1 : Nat) (32 : Nat) none),
    ((5 : Nat), V.sl (2 : Nat) (0 : Nat) (1 : Nat) (64 : Nat) (some (64 : Nat))),
    ((6 : Nat), V.int IntKind.i64 (↑i : Int)), ((7 : Nat), V.int IntKind.i64 c),
    ((8 : Nat), V.int IntKind.i64 (↑k : Int))]
  [Blk.ints A, Blk.ints B, Blk.ints O]) =
  Tr.chk true
  (Tr.br (decide ((↑k : Int) < (32 : Int)))
    (Tr.chk true
      (Tr.br (decide ((↑k : Int) < (32 : Int)))
        (Tr.chk
          (decide ((↑i : Int) < (32 : Int)) &&
                (decide ((0 : Nat) + i * (1 : Nat) < A.length) &&
                  (decide ((↑k : Int) < (32 : Int)) && (decide ((0 : Nat) + k * (1 : Nat) < B.length) && true))) &&
              (decide ((0 : Int) ≤ wrapI IntKind.i64 ((↑i : Int) + (↑k : Int))) &&
                    decide (wrapI IntKind.i64 ((↑i : Int) + (↑k : Int)) < (64 : Int)) &&
                  (decide ((0 : Nat) + (wrapI IntKind.i64 ((↑i : Int) + (↑k : Int))).toNat * (1 : Nat) < O.length) &&
                    true) &&
                (decide ((0 : Int) ≤ wrapI IntKind.i64 ((↑i : Int) + (↑k : Int))) &&
                      decide (wrapI IntKind.i64 ((↑i : Int) + (↑k : Int)) < (64 : Int)) &&
                    decide
                      ((0 : Nat) + (wrapI IntKind.i64 ((↑i : Int) + (↑k : Int))).toNat * (1 : Nat) + (1 : Nat) ≤
                        O.length) &&
                  true)) &&
            true)
          (Tr.leaf
            (X.normal,
              [((0 : Nat), V.sl (0 : Nat) (0 : Nat) (1 : Nat) (32 : Nat) none),
                ((1 : Nat), V.sl (1 : Nat) (0 : Nat) (1 : Nat) (32 : Nat) none),
                ((5 : Nat), V.sl (2 : Nat) (0 : Nat) (1 : Nat) (64 : Nat) (some (64 : Nat))),
                ((6 : Nat), V.int IntKind.i64 (↑i : Int)),
                ((7 : Nat),
                  V.int IntKind.i64
                    (wrapI IntKind.i64
                      ((wrapI IntKind.i64
                            (wrapI IntKind.i64
                                (c +
                                  wrapI IntKind.i64
                                    (A.getD ((0 : Nat) + i * (1 : Nat)) (0 : Int) *
                                      B.getD ((0 : Nat) + k * (1 : Nat)) (0 : Int))) +
                              O.getD ((0 : Nat) + (wrapI IntKind.i64 ((↑i : Int) + (↑k : Int))).toNat * (1 : Nat))
                                (0 : Int))).tdiv
                        (256 : Int)))),
                ((8 : Nat), V.int IntKind.i64 (wrapI IntKind.i64 ((↑k : Int) + (1 : Int))))],
              [Blk.ints A, Blk.ints B,
                Blk.ints
                  (O.set ((0 : Nat) + (wrapI IntKind.i64 ((↑i : Int) + (↑k : Int))).toNat * (1 : Nat))
                    ((wrapI IntKind.i64
                          (wrapI IntKind.i64
                              (c +
                                wrapI IntKind.i64
                                  (A.getD ((0 : Nat) + i * (1 : Nat)) (0 : Int) *
                                    B.getD ((0 : Nat) + k * (1 : Nat)) (0 : Int))) +
                            O.getD ((0 : Nat) + (wrapI IntKind.i64 ((↑i : Int) + (↑k : Int))).toNat * (1 : Nat))
                              (0 : Int))).tmod
                      (256 : Int)))])))
        (Tr.chk
          (decide ((0 : Int) ≤ wrapI IntKind.i64 ((↑i : Int) + (↑k : Int))) &&
                  decide (wrapI IntKind.i64 ((↑i : Int) + (↑k : Int)) < (64 : Int)) &&
                (decide ((0 : Nat) + (wrapI IntKind.i64 ((↑i : Int) + (↑k : Int))).toNat * (1 : Nat) < O.length) &&
                  true) &&
              (decide ((0 : Int) ≤ wrapI IntKind.i64 ((↑i : Int) + (↑k : Int))) &&
                    decide (wrapI IntKind.i64 ((↑i : Int) + (↑k : Int)) < (64 : Int)) &&
                  decide
                    ((0 : Nat) + (wrapI IntKind.i64 ((↑i : Int) + (↑k : Int))).toNat * (1 : Nat) + (1 : Nat) ≤
                      O.length) &&
                true) &&
            true)
          (Tr.leaf
            (X.normal,
              [((0 : Nat), V.sl (0 : Nat) (0 : Nat) (1 : Nat) (32 : Nat) none),
                ((1 : Nat), V.sl (1 : Nat) (0 : Nat) (1 : Nat) (32 : Nat) none),
                ((5 : Nat), V.sl (2 : Nat) (0 : Nat) (1 : Nat) (64 : Nat) (some (64 : Nat))),
                ((6 : Nat), V.int IntKind.i64 (↑i : Int)),
                ((7 : Nat),
                  V.int IntKind.i64
                    (wrapI IntKind.i64
                      ((wrapI IntKind.i64
                            (c +
                              O.getD ((0 : Nat) + (wrapI IntKind.i64 ((↑i : Int) + (↑k : Int))).toNat * (1 : Nat))
                                (0 : Int))).tdiv
                        (256 : Int)))),
                ((8 : Nat), V.int IntKind.i64 (wrapI IntKind.i64 ((↑k : Int) + (1 : Int))))],
              [Blk.ints A, Blk.ints B,
                Blk.ints
                  (O.set ((0 : Nat) + (wrapI IntKind.i64 ((↑i : Int) + (↑k : Int))).toNat * (1 : Nat))
                    ((wrapI IntKind.i64
                          (c +
                            O.getD ((0 : Nat) + (wrapI IntKind.i64 ((↑i : Int) + (↑k : Int))).toNat * (1 : Nat))
                              (0 : Int))).tmod
                      (256 : Int)))])))))
    (Tr.chk true
      (Tr.br (decide (c > (0 : Int)))
        (Tr.chk true
          (Tr.br (decide ((↑k : Int) < (32 : Int)))
            (Tr.chk
              (decide ((↑i : Int) < (32 : Int)) &&
                    (decide ((0 : Nat) + i * (1 : Nat) < A.length) &&
                      (decide ((↑k : Int) < (32 : Int)) && (decide ((0 : Nat) + k * (1 : Nat) < B.length) && true))) &&
                  (decide ((0 : Int) ≤ wrapI IntKind.i64 ((↑i : Int) + (↑k : Int))) &&
                        decide (wrapI IntKind.i64 ((↑i : Int) + (↑k : Int)) < (64 : Int)) &&
                      (decide
                          ((0 : Nat) + (wrapI IntKind.i64 ((↑i : Int) + (↑k : Int))).toNat * (1 : Nat) < O.length) &&
                        true) &&
                    (decide ((0 : Int) ≤ wrapI IntKind.i64 ((↑i : Int) + (↑k : Int))) &&
                          decide (wrapI IntKind.i64 ((↑i : Int) + (↑k : Int)) < (64 : Int)) &&
                        decide
                          ((0 : Nat) + (wrapI IntKind.i64 ((↑i : Int) + (↑k : Int))).toNat * (1 : Nat) + (1 : Nat) ≤
                            O.length) &&
                      true)) &&
                true)
              (Tr.leaf
                (X.normal,
                  [((0 : Nat), V.sl (0 : Nat) (0 : Nat) (1 : Nat) (32 : Nat) none),
                    ((1 : Nat), V.sl (1 : Nat) (0 : Nat) (1 : Nat) (32 : Nat) none),
                    ((5 : Nat), V.sl (2 : Nat) (0 : Nat) (1 : Nat) (64 : Nat) (some (64 : Nat))),
                    ((6 : Nat), V.int IntKind.i64 (↑i : Int)),
                    ((7 : Nat),
                      V.int IntKind.i64
                        (wrapI IntKind.i64
                          ((wrapI IntKind.i64
                                (wrapI IntKind.i64
                                    (c +
                                      wrapI IntKind.i64
                                        (A.getD ((0 : Nat) + i * (1 : Nat)) (0 : Int) *
                                          B.getD ((0 : Nat) + k * (1 : Nat)) (0 : Int))) +
                                  O.getD ((0 : Nat) + (wrapI IntKind.i64 ((↑i : Int) + (↑k : Int))).toNat * (1 : Nat))
                                    (0 : Int))).tdiv
                            (256 : Int)))),
                    ((8 : Nat), V.int IntKind.i64 (wrapI IntKind.i64 ((↑k : Int) + (1 : Int))))],
                  [Blk.ints A, Blk.ints B,
                    Blk.ints
                      (O.set ((0 : Nat) + (wrapI IntKind.i64 ((↑i : Int) + (↑k : Int))).toNat * (1 : Nat))
                        ((wrapI IntKind.i64
                              (wrapI IntKind.i64
                                  (c +
                                    wrapI IntKind.i64
                                      (A.getD ((0 : Nat) + i * (1 : Nat)) (0 : Int) *
                                        B.getD ((0 : Nat) + k * (1 : Nat)) (0 : Int))) +
                                O.getD ((0 : Nat) + (wrapI IntKind.i64 ((↑i : Int) + (↑k : Int))).toNat * (1 : Nat))
                                  (0 : Int))).tmod
                          (256 : Int)))])))
            (Tr.chk
              (decide ((0 : Int) ≤ wrapI IntKind.i64 ((↑i : Int) + (↑k : Int))) &&
                      decide (wrapI IntKind.i64 ((↑i : Int) + (↑k : Int)) < (64 : Int)) &&
                    (decide ((0 : Nat) + (wrapI IntKind.i64 ((↑i : Int) + (↑k : Int))).toNat * (1 : Nat) < O.length) &&
                      true) &&
                  (decide ((0 : Int) ≤ wrapI IntKind.i64 ((↑i : Int) + (↑k : Int))) &&
                        decide (wrapI IntKind.i64 ((↑i : Int) + (↑k : Int)) < (64 : Int)) &&
                      decide
                        ((0 : Nat) + (wrapI IntKind.i64 ((↑i : Int) + (↑k : Int))).toNat * (1 : Nat) + (1 : Nat) ≤
                          O.length) &&
                    true) &&
                true)
              (Tr.leaf
                (X.normal,
                  [((0 : Nat), V.sl (0 : Nat) (0 : Nat) (1 : Nat) (32 : Nat) none),
                    ((1 : Nat), V.sl (1 : Nat) (0 : Nat) (1 : Nat) (32 : Nat) none),
                    ((5 : Nat), V.sl (2 : Nat) (0 : Nat) (1 : Nat) (64 : Nat) (some (64 : Nat))),
                    ((6 : Nat), V.int IntKind.i64 (↑i : Int)),
                    ((7 : Nat),
                      V.int IntKind.i64
                        (wrapI IntKind.i64
                          ((wrapI IntKind.i64
                                (c +
                                  O.getD ((0 : Nat) + (wrapI IntKind.i64 ((↑i : Int) + (↑k : Int))).toNat * (1 : Nat))
                                    (0 : Int))).tdiv
                            (256 : Int)))),
                    ((8 : Nat), V.int IntKind.i64 (wrapI IntKind.i64 ((↑k : Int) + (1 : Int))))],
                  [Blk.ints A, Blk.ints B,
                    Blk.ints
                      (O.set ((0 : Nat) + (wrapI IntKind.i64 ((↑i : Int) + (↑k : Int))).toNat * (1 : Nat))
                        ((wrapI IntKind.i64
                              (c +
                                O.getD ((0 : Nat) + (wrapI IntKind.i64 ((↑i : Int) + (↑k : Int))).toNat * (1 : Nat))
                                  (0 : Int))).tmod
                          (256 : Int)))])))))
        (Tr.leaf
          (X.exit (2 : Nat),
            [((0 : Nat), V.sl (0 : Nat) (0 : Nat) (1 : Nat) (32 : Nat) none),
              ((1 : Nat), V.sl (1 : Nat) (0 : Nat) (1 : Nat) (32 : Nat) none),
              ((5 : Nat), V.sl (2 : Nat) (0 : Nat) (1 : Nat) (64 : Nat) (some (64 : Nat))),
              ((6 : Nat), V.int IntKind.i64 (↑i : Int))],
            [Blk.ints A, Blk.ints B, Blk.ints O]))))) := by kernel_rfl
def pri_c (a : PrS) : Int := if a.k = 0 then 0 else ((W4.prC (W4.valI a.O) (a.A.getD a.i 0).toNat (W4.valI a.B) a.i a.k : Nat) : Int)
def pri_O (a : PrS) : List Int := if a.k = 0 then a.O else W4.dg 64 (W4.prV (W4.valI a.O) (a.A.getD a.i 0).toNat (W4.valI a.B) a.i a.k)
def pri_S (a : PrS) : Fr × Heap := ([(0,.sl 0 0 1 32 none),(1,.sl 1 0 1 32 none),(5,.sl 2 0 1 64 (some 64)),(6,.int .i64 (a.i : Nat)),(7,.int .i64 (pri_c a)),(8,.int .i64 (a.k : Nat))], [.ints a.A, .ints a.B, .ints (pri_O a)])
def pri_read : Fr → Heap → Option PrS := fun f h => match f, h with
  | [(0,.sl 0 0 1 32 none),(1,.sl 1 0 1 32 none),(5,.sl 2 0 1 64 (some 64)),(6,.int .i64 (.ofNat i)),(7,.int .i64 0),(8,.int .i64 0)], [.ints A, .ints B, .ints O] => some ⟨A, B, O, i, 0⟩
  | _, _ => none
def pri_T (a : PrS) : Nat := W4.valI a.O + (a.A.getD a.i 0).toNat * W4.valI a.B * 256 ^ a.i
def pri_P (a : PrS) : Prop := a.A = W4.dg 32 (W4.valI a.A) ∧ a.B = W4.dg 32 (W4.valI a.B) ∧ a.O = W4.dg 64 (W4.valI a.O) ∧ a.i < 32 ∧ a.k ≤ 64 ∧ pri_T a < 256 ^ 64
def pri_ok (a : PrS) : Bool := @decide (pri_P a) (Classical.propDecidable _)
def pri_E (a : PrS) : Tr (X × Fr × Heap) := .leaf (.exit 2, [(0,.sl 0 0 1 32 none),(1,.sl 1 0 1 32 none),(5,.sl 2 0 1 64 (some 64)),(6,.int .i64 (a.i : Nat))], [.ints a.A, .ints a.B, .ints (W4.dg 64 (pri_T a))])
def pri_s : SmT := whT 7 [0,1,5,6,7,8] pri_read pri_ok pri_E
theorem pri_at : SmAtT Pr Go.Proofs.Try.f97 2 pri_s 1 := by
  refine whT_x OR3_sound mixed pri_S (fun a => 64 - a.k) (fun a => pri_x a.A a.B (pri_O a) a.i a.k (pri_c a)) (by kernel_rfl) (by kernel_rfl) (by kernel_rfl) LoopsOk.noneT ?_ ?_
  · intro f g a h
    unfold pri_read at h
    split at h <;> cases h
    rfl
  · rintro ⟨A, B, O, i, k⟩ q hok hq
    obtain ⟨hA, hB, hO, hi, hk, hf⟩ : pri_P ⟨A, B, O, i, k⟩ := @of_decide_eq_true _ (Classical.propDecidable _) hok
    simp only [pri_T] at hA hB hO hi hk hf
    rw [pri_E, Tr.is_leaf] at hq
    simp only [pri_T] at hq ⊢
    have hAg : A.getD i 0 = (((A.getD i 0).toNat : Nat) : Int) := by rw [hA, W4.dg_get hi]; rfl
    have hxl : (A.getD i 0).toNat < 256 := by rw [hA, W4.dg_get hi, Int.toNat_natCast]; exact Nat.mod_lt _ (by decide)
    have hAl : A.length = 32 := by rw [hA, W4.dg_length]
    have hBg : ∀ j, j < 32 → B.getD j 0 = ((W4.valI B / 256 ^ j % 256 : Nat) : Int) := fun j hj => by
      conv => lhs; rw [hB, W4.dg_get hj]
    have hyl : W4.valI B < 256 ^ 32 := by rw [hB, W4.valI_dg]; exact Nat.mod_lt _ (by decide)
    have hBl : B.length = 32 := by rw [hB, W4.dg_length]
    have hc : ∀ j, pri_c ⟨A, B, O, i, j⟩ = ((W4.prC (W4.valI O) (A.getD i 0).toNat (W4.valI B) i j : Nat) : Int) := by
      intro j; unfold pri_c; split
      · rename_i h; rw [show j = 0 from h, (W4.pr_zero _ _ _ _).1]; rfl
      · rfl
    have hV : ∀ j, pri_O ⟨A, B, O, i, j⟩ = W4.dg 64 (W4.prV (W4.valI O) (A.getD i 0).toNat (W4.valI B) i j) := by
      intro j; unfold pri_O; split
      · rename_i h; rw [show j = 0 from h, (W4.pr_zero _ _ _ _).2]; exact hO
      · rfl
    have hS : ∀ j, pri_S ⟨A, B, O, i, j⟩ = ([(0,.sl 0 0 1 32 none),(1,.sl 1 0 1 32 none),(5,.sl 2 0 1 64 (some 64)),(6,.int .i64 (i : Nat)),(7,.int .i64 ((W4.prC (W4.valI O) (A.getD i 0).toNat (W4.valI B) i j : Nat) : Int)),(8,.int .i64 (j : Nat))], [.ints A, .ints B, .ints (W4.dg 64 (W4.prV (W4.valI O) (A.getD i 0).toNat (W4.valI B) i j))]) := by
      intro j; rw [pri_S, hc, hV]
    have hcl := W4.prC_le (m := W4.valI O) (y := W4.valI B) (i := i) (k := k) hxl
    have hsucc := W4.prC_succ (W4.valI O) (A.getD i 0).toNat (W4.valI B) i k
    have hput := fun h => W4.pr_put (N := 64) (m := W4.valI O) (xi := (A.getD i 0).toNat) (y := W4.valI B) (i := i) (k := k) h
    have hmore := fun hy h => W4.pr_more (m := W4.valI O) (xi := (A.getD i 0).toNat) (y := W4.valI B) (i := i) (k := k) hy hf h
    have hend := fun hy h => W4.pr_end (m := W4.valI O) (xi := (A.getD i 0).toNat) (y := W4.valI B) (i := i) (k := k) hy h
    have hy32 : 32 ≤ k → W4.valI B < 256 ^ k := fun h => Nat.lt_of_lt_of_le hyl (Nat.pow_le_pow_right (by decide) h)
    have hnx : ∀ j, i + k < 64 → j = k + 1 → pri_ok ⟨A, B, O, i, j⟩ = true := by
      rintro _ h rfl
      exact @decide_eq_true _ (Classical.propDecidable _) ⟨hA, hB, hO, hi, (by show k + 1 ≤ 64; omega), hf⟩
    have hyk : W4.valI B / 256 ^ k % 256 < 256 := Nat.mod_lt _ (by decide)
    have hvk : W4.prV (W4.valI O) (A.getD i 0).toNat (W4.valI B) i k / 256 ^ (i + k) % 256 < 256 := Nat.mod_lt _ (by decide)
    have hmul : (A.getD i 0).toNat * (W4.valI B / 256 ^ k % 256) ≤ 255 * 255 := Nat.mul_le_mul (by omega) (by omega)
    simp only [hc, hV, hS, wp_chk, wp_leaf, wp_br, decide_eq_true_eq, decide_eq_false_iff_not, true_and, W4.dg_length, hAl, hBl]
    have ht1 : k < 32 → wrapI .i64 (wrapI .i64 (((W4.prC (W4.valI O) (A.getD i 0).toNat (W4.valI B) i k : Nat) : Int) + wrapI .i64 (A.getD i 0 * B.getD k 0)) + ((W4.prV (W4.valI O) (A.getD i 0).toNat (W4.valI B) i k / 256 ^ (i + k) % 256 : Nat) : Int)) = ((W4.prC (W4.valI O) (A.getD i 0).toNat (W4.valI B) i k + (A.getD i 0).toNat * (W4.valI B / 256 ^ k % 256) + W4.prV (W4.valI O) (A.getD i 0).toNat (W4.valI B) i k / 256 ^ (i + k) % 256 : Nat) : Int) := by
      intro h
      rw [hBg k h, hAg, Int.toNat_natCast, ← Int.natCast_mul, wrapI_nat (n := _ * _) (by omega), ← Int.natCast_add, wrapI_nat (n := _ + _ * _) (by omega), ← Int.natCast_add, wrapI_nat (by omega)]
    have hz : 32 ≤ k → W4.valI B / 256 ^ k % 256 = 0 := fun h => by rw [Nat.div_eq_of_lt (hy32 h)]
    have ht2 : 32 ≤ k → wrapI .i64 (((W4.prC (W4.valI O) (A.getD i 0).toNat (W4.valI B) i k : Nat) : Int) + ((W4.prV (W4.valI O) (A.getD i 0).toNat (W4.valI B) i k / 256 ^ (i + k) % 256 : Nat) : Int)) = ((W4.prC (W4.valI O) (A.getD i 0).toNat (W4.valI B) i k + (A.getD i 0).toNat * (W4.valI B / 256 ^ k % 256) + W4.prV (W4.valI O) (A.getD i 0).toNat (W4.valI B) i k / 256 ^ (i + k) % 256 : Nat) : Int) := by
      intro h
      rw [hz h, Nat.mul_zero, Nat.add_zero, ← Int.natCast_add, wrapI_nat (by omega)]
    have hik : ((i : Int) + (k : Int)) = ((i + k : Nat) : Int) := by omega
    refine ⟨fun h1 => ⟨fun _ => ⟨?_, .inl ?_⟩, fun h2 => absurd h1 h2⟩, fun h1 => ⟨fun h2 => ⟨fun h3 => absurd h3 h1, fun h3 => ⟨?_, .inl ?_⟩⟩, fun h2 => .inr ⟨fun h => (by cases h), ?_⟩⟩⟩
    · rw [hik, wrapI_nat (by omega)]
      simp only [Bool.and_eq_true, decide_eq_true_eq]
      (repeat' apply And.intro) <;> first | omega | trivial
    · have h64 : i + k < 64 := by omega
      refine ⟨⟨A, B, O, i, k + 1⟩, ?_, hnx _ h64 rfl, by show 64 - (k + 1) < 64 - k; omega, by rw [pri_E, Tr.is_leaf, ← hq]; rfl⟩
      rw [hS, hik, wrapI_nat (n := i + k) (by omega), Int.toNat_natCast, Nat.zero_add, Nat.mul_one, Nat.zero_add, Nat.mul_one, Nat.zero_add, Nat.mul_one, W4.dg_get h64, ht1 (by omega), tdiv_lit, tmod_lit, hput h64, hsucc, wrapI_nat (by omega)]
      rw [show ((k : Int) + 1) = ((k + 1 : Nat) : Int) by omega, wrapI_nat (by omega)]
    · have h64 : i + k < 64 := hmore (hy32 (by omega)) (by omega)
      rw [hik, wrapI_nat (by omega)]
      simp only [Bool.and_eq_true, decide_eq_true_eq]
      (repeat' apply And.intro) <;> first | omega | trivial
    · have h64 : i + k < 64 := hmore (hy32 (by omega)) (by omega)
      refine ⟨⟨A, B, O, i, k + 1⟩, ?_, hnx _ h64 rfl, by show 64 - (k + 1) < 64 - k; omega, by rw [pri_E, Tr.is_leaf, ← hq]; rfl⟩
      rw [hS, hik, wrapI_nat (n := i + k) (by omega), Int.toNat_natCast, Nat.zero_add, Nat.mul_one, W4.dg_get h64, ht2 (by omega), tdiv_lit, tmod_lit, hput h64, hsucc, wrapI_nat (by omega)]
      rw [show ((k : Int) + 1) = ((k + 1 : Nat) : Int) by omega, wrapI_nat (by omega)]
    · rw [← hq, hend (hy32 (by omega)) (by omega)]
end
end Go.Proofs.Ytajbaocfdlopbaa.K
end
section
open Go Go.Lh
namespace Go.Proofs.Ytajbaocfdlopbaa.K
noncomputable section
set_option maxRecDepth 100000
structure PoS where
  A : List Int
  B : List Int
  O : List Int
theorem pri_Ls : LoopsOk Pr Go.Proofs.Try.f97 2 (smLT 2 [pri_s]).o := LoopsOk.one (by kernel_rfl) pri_at
theorem pro_x (A : List Int) (B : List Int) (O : List Int) (i : Nat) : Tr.prune (Tr.Sh.any.both Tr.Sh.any)
  (execBN Pr OR3 (smLT (2 : Nat) [pri_s]) (100 : Nat) (2 : Nat) [(0 : Nat), (1 : Nat), (5 : Nat), (6 : Nat)] [(5 : Nat)]
  (loopBody Go.Proofs.Try.f97 (0 : Nat))
  [((0 : Nat), V.sl (0 : Nat) (0 : Nat) (1 : Nat) (32 : Nat) none),
    ((1 : Nat), V.sl (1 : Nat) (0 : Nat) (1 : Nat) (32 : Nat) none),
    ((5 : Nat), V.sl (2 : Nat) (0 : Nat) (1 : Nat) (64 : Nat) (some (64 : Nat))),
    ((6 : Nat), V.int IntKind.i64 (↑i : Int))]
  [Blk.ints A, Blk.ints B, Blk.ints O]) =
  Tr.chk true
  (Tr.br (decide ((↑i : Int) < (32 : Int)))
    (Tr.chk (pri_ok (PrS.mk A B O i (0 : Nat)) && true)
      (Tr.leaf
        (X.normal,
          [((0 : Nat), V.sl (0 : Nat) (0 : Nat) (1 : Nat) (32 : Nat) none),
            ((1 : Nat), V.sl (1 : Nat) (0 : Nat) (1 : Nat) (32 : Nat) none),
            ((5 : Nat), V.sl (2 : Nat) (0 : Nat) (1 : Nat) (64 : Nat) (some (64 : Nat))),
            ((6 : Nat), V.int IntKind.i64 (wrapI IntKind.i64 ((↑i : Int) + (1 : Int))))],
          [Blk.ints A, Blk.ints B, Blk.ints (W4.dg (64 : Nat) (pri_T (PrS.mk A B O i (0 : Nat))))])))
    (Tr.leaf
      (X.exit (0 : Nat), [((5 : Nat), V.sl (2 : Nat) (0 : Nat) (1 : Nat) (64 : Nat) (some (64 : Nat)))],
        [Blk.ints A, Blk.ints B, Blk.ints O]))) := by kernel_rfl
def pro_O (a : PoS) (i : Nat) : List Int := if i = 0 then a.O else W4.dg 64 (W4.valI a.A % 256 ^ i * W4.valI a.B)
def pro_S (a : PoS) (i : Nat) : Fr × Heap := ([(0,.sl 0 0 1 32 none),(1,.sl 1 0 1 32 none),(5,.sl 2 0 1 64 (some 64)),(6,.int .i64 (i : Nat))], [.ints a.A, .ints a.B, .ints (pro_O a i)])
def pro_read : Fr → Heap → Option PoS := fun f h => match f, h with
  | [(0,.sl 0 0 1 32 none),(1,.sl 1 0 1 32 none),(5,.sl 2 0 1 64 (some 64)),(6,.int .i64 0)], [.ints A, .ints B, .ints O] => some ⟨A, B, O⟩
  | _, _ => none
def pro_ok (a : PoS) : Bool := W4.isD 32 a.A && (W4.isD 32 a.B && W4.is0 64 a.O)
def pro_E (a : PoS) : Tr (X × Fr × Heap) := .leaf (.exit 0, [(5,.sl 2 0 1 64 (some 64))], [.ints a.A, .ints a.B, .ints (W4.dg 64 (W4.valI a.A * W4.valI a.B))])
def pro_s : SmT := whT 3 [0,1,5,6] pro_read pro_ok pro_E
theorem prod_x (A : List Int) (B : List Int) : Tr.prune (Tr.Sh.any)
  (execBF Pr OR3 (smLT (2 : Nat) [pro_s]) (100 : Nat) Go.Proofs.Try.f97
  [V.sl (0 : Nat) (0 : Nat) (1 : Nat) (32 : Nat) none, V.sl (1 : Nat) (0 : Nat) (1 : Nat) (32 : Nat) none]
  [Blk.ints A, Blk.ints B]) =
  Tr.chk (pro_ok (PoS.mk A B (List.replicate (64 : Nat) (0 : Int))) && true && true)
  (Tr.leaf
    (Fin.ret (V.sl (2 : Nat) (0 : Nat) (1 : Nat) (64 : Nat) (some (64 : Nat))),
      [Blk.ints A, Blk.ints B, Blk.ints (W4.dg (64 : Nat) (W4.valI A * W4.valI B))])) := by kernel_rfl
end
end Go.Proofs.Ytajbaocfdlopbaa.K
end
section
open Go Go.Lh
namespace Go.Proofs.Ytajbaocfdlopbaa.K
noncomputable section
set_option maxRecDepth 100000
theorem pro_at : SmAtT Pr Go.Proofs.Try.f97 2 pro_s 0 := by
  refine cntT_x OR3_sound mixed pro_S (fun _ => 32) (fun a i => pro_x a.A a.B (pro_O a i) i) (by kernel_rfl) (by kernel_rfl) (by kernel_rfl) pri_Ls ?_ ?_
  · intro f g a h
    unfold pro_read at h
    split at h <;> cases h
    rfl
  · rintro ⟨A, B, O⟩ q hok hq i hi
    simp only [pro_ok, Bool.and_eq_true, W4.isD_iff, W4.is0_iff] at hok
    obtain ⟨hA, hB, hO⟩ := hok
    rw [pro_E, Tr.is_leaf] at hq
    simp only at hq hi ⊢
    have hxl : W4.valI A < 256 ^ 32 := by rw [hA, W4.valI_dg]; exact Nat.mod_lt _ (by decide)
    have hyl : W4.valI B < 256 ^ 32 := by rw [hB, W4.valI_dg]; exact Nat.mod_lt _ (by decide)
    have hV : ∀ j, pro_O ⟨A, B, O⟩ j = W4.dg 64 (W4.valI A % 256 ^ j * W4.valI B) := by
      intro j; unfold pro_O; split
      · rename_i h; subst h; rw [Nat.pow_zero, Nat.mod_one, Nat.zero_mul]; exact hO
      · rfl
    have hlt : ∀ j, W4.valI A % 256 ^ j * W4.valI B < 256 ^ 64 := fun j => by
      have h1 : W4.valI A % 256 ^ j ≤ W4.valI A := Nat.mod_le _ _
      have h2 : W4.valI A % 256 ^ j * W4.valI B ≤ W4.valI A * W4.valI B := Nat.mul_le_mul_right _ h1
      have h3 : W4.valI A * W4.valI B < 256 ^ 32 * 256 ^ 32 := Nat.mul_lt_mul_of_lt_of_le hxl (Nat.le_of_lt hyl) (by decide)
      rw [← Nat.pow_add] at h3
      exact Nat.lt_of_le_of_lt h2 h3
    have hT : i < 32 → pri_T ⟨A, B, W4.dg 64 (W4.valI A % 256 ^ i * W4.valI B), i, 0⟩ = W4.valI A % 256 ^ (i + 1) * W4.valI B := by
      intro h
      have hg : (A.getD i 0).toNat = W4.valI A / 256 ^ i % 256 := by
        conv => lhs; rw [hA, W4.dg_get h]
        rfl
      simp only [pri_T]
      rw [W4.valI_dg, Nat.mod_eq_of_lt (hlt i), hg, Nat.mod_pow_succ, Nat.add_mul]
      ac_rfl
    simp only [hV, wp_chk, wp_leaf, wp_br, decide_eq_true_eq, decide_eq_false_iff_not, true_and, Bool.and_true]
    refine ⟨fun h => ⟨?_, .inl ⟨by omega, ?_⟩⟩, fun h => .inr ⟨fun h => (by cases h), ?_⟩⟩
    · refine @decide_eq_true _ (Classical.propDecidable _) ⟨hA, hB, ?_, (by show i < 32; omega), Nat.zero_le _, ?_⟩
      · show W4.dg 64 _ = W4.dg 64 (W4.valI (W4.dg 64 _))
        rw [W4.valI_dg, W4.dg_mod]
      · rw [hT (by omega)]; exact hlt _
    · rw [hT (by omega), pro_S, hV, show ((i : Int) + 1) = ((i + 1 : Nat) : Int) by omega, wrapI_nat (by omega)]
    · have e : i = 32 := by omega
      rw [← hq, e, Nat.mod_eq_of_lt hxl]
theorem pro_Ls : LoopsOk Pr Go.Proofs.Try.f97 2 (smLT 2 [pro_s]).o := LoopsOk.one (by kernel_rfl) pro_at
theorem prod_fn (x y : Nat) (hx : x < 256 ^ 32) (hy : y < 256 ^ 32) : LFn Pr 97 [.sl 0 0 1 32 none, .sl 1 0 1 32 none] [.ints (W4.dg 32 x), .ints (W4.dg 32 y)] (.ret (.sl 2 0 1 64 (some 64))) [.ints (W4.dg 32 x), .ints (W4.dg 32 y), .ints (W4.dg 64 (x * y))] := by
  refine fnT OR3_sound mixed (by kernel_rfl) pro_Ls (prod_x (W4.dg 32 x) (W4.dg 32 y)) (tr1 ?_ ?_)
  · simp only [pro_ok, W4.isD_dg, W4.is0_rep, Bool.and_true]
  · rw [W4.valI_dg, W4.valI_dg, Nat.mod_eq_of_lt hx, Nat.mod_eq_of_lt hy]
def readD2 : List V → Heap → Option (List Int × List Int) := fun args h => match args, h with
  | [.sl 0 0 1 32 none, .sl 1 0 1 32 none], [.ints xs, .ints ys] => some (xs, ys)
  | _, _ => none
def sum_g : List V → Heap → Tr (Fin × Heap) := ctT readD2 (fun a => .chk (W4.isD 32 a.1 && W4.isD 32 a.2) (.leaf (.ret (.sl 2 0 1 32 none), [.ints a.1, .ints a.2, .ints (W4.dg 32 (W4.valI a.1 + W4.valI a.2))])))
def prod_g : List V → Heap → Tr (Fin × Heap) := ctT readD2 (fun a => .chk (W4.isD 32 a.1 && W4.isD 32 a.2) (.leaf (.ret (.sl 2 0 1 64 (some 64)), [.ints a.1, .ints a.2, .ints (W4.dg 64 (W4.valI a.1 * W4.valI a.2))])))
theorem readD2_ok : ∀ args h a, readD2 args h = some a → args = [.sl 0 0 1 32 none, .sl 1 0 1 32 none] ∧ h = [.ints a.1, .ints a.2] := by
  intro args h a e
  unfold readD2 at e
  split at e <;> cases e
  exact ⟨rfl, rfl⟩
theorem sum_ok : ∀ args h r, (sum_g args h).is r → LFn Pr 99 args h r.1 r.2 := by
  refine ctT_ok (fun _ => [.sl 0 0 1 32 none, .sl 1 0 1 32 none]) (fun a => [.ints a.1, .ints a.2]) readD2_ok (fun a r h => ?_)
  obtain ⟨xs, ys⟩ := a
  rw [Tr.is_chk, Tr.is_leaf] at h
  obtain ⟨h, rfl⟩ := h
  simp only [Bool.and_eq_true, W4.isD_iff] at h
  have := sum_fn (W4.valI xs) (W4.valI ys)
  rw [← h.1, ← h.2] at this
  exact this
theorem prod_ok : ∀ args h r, (prod_g args h).is r → LFn Pr 97 args h r.1 r.2 := by
  refine ctT_ok (fun _ => [.sl 0 0 1 32 none, .sl 1 0 1 32 none]) (fun a => [.ints a.1, .ints a.2]) readD2_ok (fun a r h => ?_)
  obtain ⟨xs, ys⟩ := a
  rw [Tr.is_chk, Tr.is_leaf] at h
  obtain ⟨h, rfl⟩ := h
  simp only [Bool.and_eq_true, W4.isD_iff] at h
  have h1 : W4.valI xs < 256 ^ 32 := by rw [h.1, W4.valI_dg]; exact Nat.mod_lt _ (by decide)
  have h2 : W4.valI ys < 256 ^ 32 := by rw [h.2, W4.valI_dg]; exact Nat.mod_lt _ (by decide)
  have := prod_fn (W4.valI xs) (W4.valI ys) h1 h2
  rw [← h.1, ← h.2] at this
  exact this
theorem sum_en : Enters Pr 99 := Enters.of (fn := Go.Proofs.Try.f99) (by kernel_rfl) (by kernel_rfl)
theorem prod_en : Enters Pr 97 := Enters.of (fn := Go.Proofs.Try.f97) (by kernel_rfl) (by kernel_rfl)
def KR4 : KnownT := (99, sum_g) :: (97, prod_g) :: KR3
theorem KR4_ok : KOkT Pr KR4 := KOkT.cons sum_en sum_ok (KOkT.cons prod_en prod_ok (KR3_ok))
def OR4 : OrcT := autoT Pr ext KR4 [75] 3
theorem OR4_sound : OrcSound Pr OR4.o := autoT_sound mixed ext_ok KR4_ok (by kernel_rfl) 3
theorem radd_x (a : W4) (b : W4) : Tr.prune (Tr.Sh.any)
  (execBF Pr OR4 noLoopsT (100 : Nat) Go.Proofs.Try.f93 [a.v, b.v] []) =
  Tr.chk
  (W4.isD (32 : Nat) (W4.dg (32 : Nat) a.n) && W4.isD (32 : Nat) (W4.dg (32 : Nat) b.n) &&
      ((true || false) &&
          W4.isD (32 : Nat) (W4.dg (32 : Nat) (W4.valI (W4.dg (32 : Nat) a.n) + W4.valI (W4.dg (32 : Nat) b.n))) &&
        true) &&
    true)
  (Tr.leaf
    (Fin.ret
        (V.agg
          [V.u64
              (W4.ofN (W4.valI (W4.dg (32 : Nat) (W4.valI (W4.dg (32 : Nat) a.n) + W4.valI (W4.dg (32 : Nat) b.n))))).a,
            V.u64
              (W4.ofN (W4.valI (W4.dg (32 : Nat) (W4.valI (W4.dg (32 : Nat) a.n) + W4.valI (W4.dg (32 : Nat) b.n))))).b,
            V.u64
              (W4.ofN (W4.valI (W4.dg (32 : Nat) (W4.valI (W4.dg (32 : Nat) a.n) + W4.valI (W4.dg (32 : Nat) b.n))))).c,
            V.u64
              (W4.ofN
                  (W4.valI (W4.dg (32 : Nat) (W4.valI (W4.dg (32 : Nat) a.n) + W4.valI (W4.dg (32 : Nat) b.n))))).d]),
      [])) := by kernel_rfl
theorem rmul_x (a : W4) (b : W4) : Tr.prune (Tr.Sh.any)
  (execBF Pr OR4 noLoopsT (100 : Nat) Go.Proofs.Try.f101 [a.v, b.v] []) =
  Tr.chk
  (W4.isD (32 : Nat) (W4.dg (32 : Nat) a.n) && W4.isD (32 : Nat) (W4.dg (32 : Nat) b.n) &&
      ((false || true) &&
          W4.isD (64 : Nat) (W4.dg (64 : Nat) (W4.valI (W4.dg (32 : Nat) a.n) * W4.valI (W4.dg (32 : Nat) b.n))) &&
        true) &&
    true)
  (Tr.leaf
    (Fin.ret
        (V.agg
          [V.u64
              (W4.ofN (W4.valI (W4.dg (64 : Nat) (W4.valI (W4.dg (32 : Nat) a.n) * W4.valI (W4.dg (32 : Nat) b.n))))).a,
            V.u64
              (W4.ofN (W4.valI (W4.dg (64 : Nat) (W4.valI (W4.dg (32 : Nat) a.n) * W4.valI (W4.dg (32 : Nat) b.n))))).b,
            V.u64
              (W4.ofN (W4.valI (W4.dg (64 : Nat) (W4.valI (W4.dg (32 : Nat) a.n) * W4.valI (W4.dg (32 : Nat) b.n))))).c,
            V.u64
              (W4.ofN
                  (W4.valI (W4.dg (64 : Nat) (W4.valI (W4.dg (32 : Nat) a.n) * W4.valI (W4.dg (32 : Nat) b.n))))).d]),
      [])) := by kernel_rfl
end
end Go.Proofs.Ytajbaocfdlopbaa.K
end
section
open Go Go.Lh
namespace Go.Proofs.Ytajbaocfdlopbaa.K
noncomputable section
set_option maxRecDepth 100000
theorem radd_fn (a b : W4) : LFn Pr 93 [a.v, b.v] [] (.ret (W4.add a b).v) [] := by
  refine fnT OR4_sound mixed (by kernel_rfl) LoopsOk.noneT (radd_x a b) (tr1 ?_ ?_)
  · rw [W4.isD_dg, W4.isD_dg, W4.isD_dg]; rfl
  · have e : W4.ofN (W4.valI (W4.dg 32 (W4.valI (W4.dg 32 a.n) + W4.valI (W4.dg 32 b.n)))) = a.add b := W4.ext_n (by
      rw [valI_dg32 a.n_lt, valI_dg32 b.n_lt, W4.valI_dg, W4.ofN_n, W4.add_n, show (256 : Nat) ^ 32 = 2 ^ 256 from rfl, Nat.mod_mod])
    rw [e]; rfl
theorem rmul_fn (a b : W4) : LFn Pr 101 [a.v, b.v] [] (.ret (W4.mul a b).v) [] := by
  refine fnT OR4_sound mixed (by kernel_rfl) LoopsOk.noneT (rmul_x a b) (tr1 ?_ ?_)
  · rw [W4.isD_dg, W4.isD_dg, W4.isD_dg]; rfl
  · have e : W4.ofN (W4.valI (W4.dg 64 (W4.valI (W4.dg 32 a.n) * W4.valI (W4.dg 32 b.n)))) = a.mul b := W4.ext_n (by
      rw [valI_dg32 a.n_lt, valI_dg32 b.n_lt, W4.valI_dg, W4.ofN_n, W4.mul_n, show (256 : Nat) ^ 64 = 2 ^ 256 * 2 ^ 256 from rfl, Nat.mod_mul_right_mod])
    rw [e]; rfl
theorem topB (x : W4) : (x.a >>> 63 == BitVec.ofInt 64 1) = decide (2 ^ 255 ≤ x.n) := by
  rw [Bool.eq_iff_iff, beq_iff_eq, decide_eq_true_iff, top1]; omega
theorem radd_en : Enters Pr 93 := Enters.of (fn := Go.Proofs.Try.f93) (by kernel_rfl) (by kernel_rfl)
theorem rmul_en : Enters Pr 101 := Enters.of (fn := Go.Proofs.Try.f101) (by kernel_rfl) (by kernel_rfl)
def KR5 : KnownT := (93, old (ctWW fun x y => (W4.add x y).v)) :: (101, old (ctWW fun x y => (W4.mul x y).v)) :: KR4
theorem KR5_ok : KOkT Pr KR5 := KOkT.cons radd_en (old_ok (ctWW_ok radd_fn)) (KOkT.cons rmul_en (old_ok (ctWW_ok rmul_fn)) (KR4_ok))
def OR5 : OrcT := autoT Pr ext KR5 [75] 3
theorem OR5_sound : OrcSound Pr OR5.o := autoT_sound mixed ext_ok KR5_ok (by kernel_rfl) 3
theorem rsub_x (a : W4) (b : W4) : Tr.prune (Tr.Sh.any)
  (execBF Pr OR5 noLoopsT (100 : Nat) Go.Proofs.Try.f92 [a.v, b.v] []) =
  Tr.chk true
  (Tr.leaf
    (Fin.ret
        (V.agg
          [V.u64
              (a.add
                  (b.notW.add
                    (W4.mk (BitVec.ofInt (64 : Nat) (0 : Int)) (BitVec.ofInt (64 : Nat) (0 : Int))
                      (BitVec.ofInt (64 : Nat) (0 : Int)) (BitVec.ofInt (64 : Nat) (1 : Int))))).a,
            V.u64
              (a.add
                  (b.notW.add
                    (W4.mk (BitVec.ofInt (64 : Nat) (0 : Int)) (BitVec.ofInt (64 : Nat) (0 : Int))
                      (BitVec.ofInt (64 : Nat) (0 : Int)) (BitVec.ofInt (64 : Nat) (1 : Int))))).b,
            V.u64
              (a.add
                  (b.notW.add
                    (W4.mk (BitVec.ofInt (64 : Nat) (0 : Int)) (BitVec.ofInt (64 : Nat) (0 : Int))
                      (BitVec.ofInt (64 : Nat) (0 : Int)) (BitVec.ofInt (64 : Nat) (1 : Int))))).c,
            V.u64
              (a.add
                  (b.notW.add
                    (W4.mk (BitVec.ofInt (64 : Nat) (0 : Int)) (BitVec.ofInt (64 : Nat) (0 : Int))
                      (BitVec.ofInt (64 : Nat) (0 : Int)) (BitVec.ofInt (64 : Nat) (1 : Int))))).d]),
      [])) := by kernel_rfl
theorem rsub_fn (a b : W4) : LFn Pr 92 [a.v, b.v] [] (.ret (W4.sub a b).v) [] := by
  refine fnT OR5_sound mixed (by kernel_rfl) LoopsOk.noneT (rsub_x a b) (tr1 rfl ?_)
  have e : a.add (b.notW.add ⟨BitVec.ofInt 64 0, BitVec.ofInt 64 0, BitVec.ofInt 64 0, BitVec.ofInt 64 1⟩) = a.sub b := W4.ext_n (by
    have h1 : (⟨BitVec.ofInt 64 0, BitVec.ofInt 64 0, BitVec.ofInt 64 0, BitVec.ofInt 64 1⟩ : W4).n = 1 := rfl
    rw [W4.add_n, W4.add_n, W4.not_n, h1, W4.sub_nn]
    have := a.n_lt
    have := b.n_lt
    omega)
  rw [← e]; rfl
theorem rsub_en : Enters Pr 92 := Enters.of (fn := Go.Proofs.Try.f92) (by kernel_rfl) (by kernel_rfl)
def KR6 : KnownT := (92, old (ctWW fun x y => (W4.sub x y).v)) :: KR5
theorem KR6_ok : KOkT Pr KR6 := KOkT.cons rsub_en (old_ok (ctWW_ok rsub_fn)) (KR5_ok)
def OR6 : OrcT := autoT Pr ext KR6 [] 3
theorem OR6_sound : OrcSound Pr OR6.o := autoT_sound mixed ext_ok KR6_ok (by kernel_rfl) 3
theorem dvl_x (A : List Int) (Q : List Int) (b : W4) (r : W4) (u : List (BitVec 64)) (i : Int) : Tr.prune ((Tr.Sh.any.l.l.l.l.both
      (Tr.Sh.any.both Tr.Sh.any).r.r.r).both
  Tr.Sh.any)
  (execBN Pr OR6 noLoopsT (100 : Nat) (1 : Nat) [(0 : Nat), (3 : Nat), (5 : Nat), (6 : Nat), (7 : Nat), (8 : Nat)]
  [(5 : Nat), (6 : Nat), (7 : Nat)] (loopBody Go.Proofs.Try.f118 (0 : Nat))
  [((0 : Nat), V.sl (0 : Nat) (0 : Nat) (1 : Nat) (32 : Nat) none), ((3 : Nat), V.ptr (1 : Nat) (0 : Nat)),
    ((5 : Nat), V.ptr (2 : Nat) (0 : Nat)),
    ((6 : Nat), V.sl (3 : Nat) (0 : Nat) (1 : Nat) (32 : Nat) (some (32 : Nat))),
    ((7 : Nat), V.ptr (4 : Nat) (0 : Nat)), ((8 : Nat), V.int IntKind.i64 i)]
  [Blk.ints A, Blk.b64 [b.a, b.b, b.c, b.d], Blk.b64 u, Blk.ints Q, Blk.b64 [r.a, r.b, r.c, r.d]]) =
  Tr.chk true
  (Tr.br (decide (i ≥ (0 : Int)))
    (Tr.chk
      (decide ((0 : Int) ≤ wrapI IntKind.i64 (i.tdiv (8 : Int))) &&
            decide (wrapI IntKind.i64 (i.tdiv (8 : Int)) < (32 : Int)) &&
          (decide ((0 : Nat) + (wrapI IntKind.i64 (i.tdiv (8 : Int))).toNat * (1 : Nat) < A.length) &&
            (decide ((0 : Int) ≤ i.tmod (8 : Int)) && true)) &&
        true)
      (Tr.br (r.a >>> (63 : Nat) == BitVec.ofInt (64 : Nat) (1 : Int))
        (Tr.chk
          (decide ((0 : Int) ≤ wrapI IntKind.i64 (i.tdiv (8 : Int))) &&
                decide (wrapI IntKind.i64 (i.tdiv (8 : Int)) < (32 : Int)) &&
              (decide ((0 : Nat) + (wrapI IntKind.i64 (i.tdiv (8 : Int))).toNat * (1 : Nat) < Q.length) &&
                (decide ((0 : Int) ≤ i.tmod (8 : Int)) &&
                  (decide ((0 : Int) ≤ wrapI IntKind.i64 (i.tdiv (8 : Int))) &&
                      decide (wrapI IntKind.i64 (i.tdiv (8 : Int)) < (32 : Int)) &&
                    decide
                      ((0 : Nat) + (wrapI IntKind.i64 (i.tdiv (8 : Int))).toNat * (1 : Nat) + (1 : Nat) ≤
                        Q.length)))) &&
            true)
          (Tr.leaf
            (X.normal,
              [((0 : Nat), V.sl (0 : Nat) (0 : Nat) (1 : Nat) (32 : Nat) none), ((3 : Nat), V.ptr (1 : Nat) (0 : Nat)),
                ((5 : Nat), V.ptr (2 : Nat) (0 : Nat)),
                ((6 : Nat), V.sl (3 : Nat) (0 : Nat) (1 : Nat) (32 : Nat) (some (32 : Nat))),
                ((7 : Nat), V.ptr (4 : Nat) (0 : Nat)),
                ((8 : Nat), V.int IntKind.i64 (wrapI IntKind.i64 (i - (1 : Int))))],
              [Blk.ints A, Blk.b64 [b.a, b.b, b.c, b.d], Blk.b64 u,
                Blk.ints
                  (Q.set ((0 : Nat) + (wrapI IntKind.i64 (i.tdiv (8 : Int))).toNat * (1 : Nat))
                    (wrapI IntKind.i64
                      (↑(BitVec.ofInt (64 : Nat)
                                (Q.getD ((0 : Nat) + (wrapI IntKind.i64 (i.tdiv (8 : Int))).toNat * (1 : Nat))
                                  (0 : Int)) |||
                              BitVec.ofInt (64 : Nat)
                                (wrapI IntKind.i64
                                  ((1 : Int) * (2 : Int) ^ min (i.tmod (8 : Int)).toNat (64 : Nat)))).toNat :
                        Int))),
                Blk.b64
                  [((W4.mk (r.a <<< (1 : Nat) ||| r.b >>> (63 : Nat)) (r.b <<< (1 : Nat) ||| r.c >>> (63 : Nat))
                            (r.c <<< (1 : Nat) ||| r.d >>> (63 : Nat))
                            (r.d <<< (1 : Nat) |||
                              BitVec.ofInt (64 : Nat)
                                (wrapI IntKind.i64
                                  (↑(BitVec.ofInt (64 : Nat)
                                            ((A.getD
                                                  ((0 : Nat) + (wrapI IntKind.i64 (i.tdiv (8 : Int))).toNat * (1 : Nat))
                                                  (0 : Int)).fdiv
                                              ((2 : Int) ^ min (i.tmod (8 : Int)).toNat (64 : Nat))) &&&
                                          BitVec.ofInt (64 : Nat) (1 : Int)).toNat :
                                    Int)))).sub
                        b).a,
                    ((W4.mk (r.a <<< (1 : Nat) ||| r.b >>> (63 : Nat)) (r.b <<< (1 : Nat) ||| r.c >>> (63 : Nat))
                            (r.c <<< (1 : Nat) ||| r.d >>> (63 : Nat))
                            (r.d <<< (1 : Nat) |||
                              BitVec.ofInt (64 : Nat)
                                (wrapI IntKind.i64
                                  (↑(BitVec.ofInt (64 : Nat)
                                            ((A.getD
                                                  ((0 : Nat) + (wrapI IntKind.i64 (i.tdiv (8 : Int))).toNat * (1 : Nat))
                                                  (0 : Int)).fdiv
                                              ((2 : Int) ^ min (i.tmod (8 : Int)).toNat (64 : Nat))) &&&
                                          BitVec.ofInt (64 : Nat) (1 : Int)).toNat :
                                    Int)))).sub
                        b).b,
                    ((W4.mk (r.a <<< (1 : Nat) ||| r.b >>> (63 : Nat)) (r.b <<< (1 : Nat) ||| r.c >>> (63 : Nat))
                            (r.c <<< (1 : Nat) ||| r.d >>> (63 : Nat))
                            (r.d <<< (1 : Nat) |||
                              BitVec.ofInt (64 : Nat)
                                (wrapI IntKind.i64
                                  (↑(BitVec.ofInt (64 : Nat)
                                            ((A.getD
                                                  ((0 : Nat) + (wrapI IntKind.i64 (i.tdiv (8 : Int))).toNat * (1 : Nat))
                                                  (0 : Int)).fdiv
                                              ((2 : Int) ^ min (i.tmod (8 : Int)).toNat (64 : Nat))) &&&
                                          BitVec.ofInt (64 : Nat) (1 : Int)).toNat :
                                    Int)))).sub
                        b).c,
                    ((W4.mk (r.a <<< (1 : Nat) ||| r.b >>> (63 : Nat)) (r.b <<< (1 : Nat) ||| r.c >>> (63 : Nat))
                            (r.c <<< (1 : Nat) ||| r.d >>> (63 : Nat))
                            (r.d <<< (1 : Nat) |||
                              BitVec.ofInt (64 : Nat)
                                (wrapI IntKind.i64
                                  (↑(BitVec.ofInt (64 : Nat)
                                            ((A.getD
                                                  ((0 : Nat) + (wrapI IntKind.i64 (i.tdiv (8 : Int))).toNat * (1 : Nat))
                                                  (0 : Int)).fdiv
                                              ((2 : Int) ^ min (i.tmod (8 : Int)).toNat (64 : Nat))) &&&
                                          BitVec.ofInt (64 : Nat) (1 : Int)).toNat :
                                    Int)))).sub
                        b).d]])))
        (Tr.chk true
          (Tr.br
            (!(W4.mk (r.a <<< (1 : Nat) ||| r.b >>> (63 : Nat)) (r.b <<< (1 : Nat) ||| r.c >>> (63 : Nat))
                    (r.c <<< (1 : Nat) ||| r.d >>> (63 : Nat))
                    (r.d <<< (1 : Nat) |||
                      BitVec.ofInt (64 : Nat)
                        (wrapI IntKind.i64
                          (↑(BitVec.ofInt (64 : Nat)
                                    ((A.getD ((0 : Nat) + (wrapI IntKind.i64 (i.tdiv (8 : Int))).toNat * (1 : Nat))
                                          (0 : Int)).fdiv
                                      ((2 : Int) ^ min (i.tmod (8 : Int)).toNat (64 : Nat))) &&&
                                  BitVec.ofInt (64 : Nat) (1 : Int)).toNat :
                            Int)))).lt
                b)
            (Tr.chk
              (decide ((0 : Int) ≤ wrapI IntKind.i64 (i.tdiv (8 : Int))) &&
                    decide (wrapI IntKind.i64 (i.tdiv (8 : Int)) < (32 : Int)) &&
                  (decide ((0 : Nat) + (wrapI IntKind.i64 (i.tdiv (8 : Int))).toNat * (1 : Nat) < Q.length) &&
                    (decide ((0 : Int) ≤ i.tmod (8 : Int)) &&
                      (decide ((0 : Int) ≤ wrapI IntKind.i64 (i.tdiv (8 : Int))) &&
                          decide (wrapI IntKind.i64 (i.tdiv (8 : Int)) < (32 : Int)) &&
                        decide
                          ((0 : Nat) + (wrapI IntKind.i64 (i.tdiv (8 : Int))).toNat * (1 : Nat) + (1 : Nat) ≤
                            Q.length)))) &&
                true)
              (Tr.leaf
                (X.normal,
                  [((0 : Nat), V.sl (0 : Nat) (0 : Nat) (1 : Nat) (32 : Nat) none),
                    ((3 : Nat), V.ptr (1 : Nat) (0 : Nat)), ((5 : Nat), V.ptr (2 : Nat) (0 : Nat)),
                    ((6 : Nat), V.sl (3 : Nat) (0 : Nat) (1 : Nat) (32 : Nat) (some (32 : Nat))),
                    ((7 : Nat), V.ptr (4 : Nat) (0 : Nat)),
                    ((8 : Nat), V.int IntKind.i64 (wrapI IntKind.i64 (i - (1 : Int))))],
                  [Blk.ints A, Blk.b64 [b.a, b.b, b.c, b.d], Blk.b64 u,
                    Blk.ints
                      (Q.set ((0 : Nat) + (wrapI IntKind.i64 (i.tdiv (8 : Int))).toNat * (1 : Nat))
                        (wrapI IntKind.i64
                          (↑(BitVec.ofInt (64 : Nat)
                                    (Q.getD ((0 : Nat) + (wrapI IntKind.i64 (i.tdiv (8 : Int))).toNat * (1 : Nat))
                                      (0 : Int)) |||
                                  BitVec.ofInt (64 : Nat)
                                    (wrapI IntKind.i64
                                      ((1 : Int) * (2 : Int) ^ min (i.tmod (8 : Int)).toNat (64 : Nat)))).toNat :
                            Int))),
                    Blk.b64
                      [((W4.mk (r.a <<< (1 : Nat) ||| r.b >>> (63 : Nat)) (r.b <<< (1 : Nat) ||| r.c >>> (63 : Nat))
                                (r.c <<< (1 : Nat) ||| r.d >>> (63 : Nat))
                                (r.d <<< (1 : Nat) |||
                                  BitVec.ofInt (64 : Nat)
                                    (wrapI IntKind.i64
                                      (↑(BitVec.ofInt (64 : Nat)
                                                ((A.getD
                                                      ((0 : Nat) +
                                                        (wrapI IntKind.i64 (i.tdiv (8 : Int))).toNat * (1 : Nat))
                                                      (0 : Int)).fdiv
                                                  ((2 : Int) ^ min (i.tmod (8 : Int)).toNat (64 : Nat))) &&&
                                              BitVec.ofInt (64 : Nat) (1 : Int)).toNat :
                                        Int)))).sub
                            b).a,
                        ((W4.mk (r.a <<< (1 : Nat) ||| r.b >>> (63 : Nat)) (r.b <<< (1 : Nat) ||| r.c >>> (63 : Nat))
                                (r.c <<< (1 : Nat) ||| r.d >>> (63 : Nat))
                                (r.d <<< (1 : Nat) |||
                                  BitVec.ofInt (64 : Nat)
                                    (wrapI IntKind.i64
                                      (↑(BitVec.ofInt (64 : Nat)
                                                ((A.getD
                                                      ((0 : Nat) +
                                                        (wrapI IntKind.i64 (i.tdiv (8 : Int))).toNat * (1 : Nat))
                                                      (0 : Int)).fdiv
                                                  ((2 : Int) ^ min (i.tmod (8 : Int)).toNat (64 : Nat))) &&&
                                              BitVec.ofInt (64 : Nat) (1 : Int)).toNat :
                                        Int)))).sub
                            b).b,
                        ((W4.mk (r.a <<< (1 : Nat) ||| r.b >>> (63 : Nat)) (r.b <<< (1 : Nat) ||| r.c >>> (63 : Nat))
                                (r.c <<< (1 : Nat) ||| r.d >>> (63 : Nat))
                                (r.d <<< (1 : Nat) |||
                                  BitVec.ofInt (64 : Nat)
                                    (wrapI IntKind.i64
                                      (↑(BitVec.ofInt (64 : Nat)
                                                ((A.getD
                                                      ((0 : Nat) +
                                                        (wrapI IntKind.i64 (i.tdiv (8 : Int))).toNat * (1 : Nat))
                                                      (0 : Int)).fdiv
                                                  ((2 : Int) ^ min (i.tmod (8 : Int)).toNat (64 : Nat))) &&&
                                              BitVec.ofInt (64 : Nat) (1 : Int)).toNat :
                                        Int)))).sub
                            b).c,
                        ((W4.mk (r.a <<< (1 : Nat) ||| r.b >>> (63 : Nat)) (r.b <<< (1 : Nat) ||| r.c >>> (63 : Nat))
                                (r.c <<< (1 : Nat) ||| r.d >>> (63 : Nat))
                                (r.d <<< (1 : Nat) |||
                                  BitVec.ofInt (64 : Nat)
                                    (wrapI IntKind.i64
                                      (↑(BitVec.ofInt (64 : Nat)
                                                ((A.getD
                                                      ((0 : Nat) +
                                                        (wrapI IntKind.i64 (i.tdiv (8 : Int))).toNat * (1 : Nat))
                                                      (0 : Int)).fdiv
                                                  ((2 : Int) ^ min (i.tmod (8 : Int)).toNat (64 : Nat))) &&&
                                              BitVec.ofInt (64 : Nat) (1 : Int)).toNat :
                                        Int)))).sub
                            b).d]])))
            (Tr.chk true
              (Tr.leaf
                (X.normal,
                  [((0 : Nat), V.sl (0 : Nat) (0 : Nat) (1 : Nat) (32 : Nat) none),
                    ((3 : Nat), V.ptr (1 : Nat) (0 : Nat)), ((5 : Nat), V.ptr (2 : Nat) (0 : Nat)),
                    ((6 : Nat), V.sl (3 : Nat) (0 : Nat) (1 : Nat) (32 : Nat) (some (32 : Nat))),
                    ((7 : Nat), V.ptr (4 : Nat) (0 : Nat)),
                    ((8 : Nat), V.int IntKind.i64 (wrapI IntKind.i64 (i - (1 : Int))))],
                  [Blk.ints A, Blk.b64 [b.a, b.b, b.c, b.d], Blk.b64 u, Blk.ints Q,
                    Blk.b64
                      [r.a <<< (1 : Nat) ||| r.b >>> (63 : Nat), r.b <<< (1 : Nat) ||| r.c >>> (63 : Nat),
                        r.c <<< (1 : Nat) ||| r.d >>> (63 : Nat),
                        r.d <<< (1 : Nat) |||
                          BitVec.ofInt (64 : Nat)
                            (wrapI IntKind.i64
                              (↑(BitVec.ofInt (64 : Nat)
                                        ((A.getD ((0 : Nat) + (wrapI IntKind.i64 (i.tdiv (8 : Int))).toNat * (1 : Nat))
                                              (0 : Int)).fdiv
                                          ((2 : Int) ^ min (i.tmod (8 : Int)).toNat (64 : Nat))) &&&
                                      BitVec.ofInt (64 : Nat) (1 : Int)).toNat :
                                Int))]])))))))
    (Tr.leaf
      (X.exit (0 : Nat),
        [((5 : Nat), V.ptr (1 : Nat) (0 : Nat)),
          ((6 : Nat), V.sl (2 : Nat) (0 : Nat) (1 : Nat) (32 : Nat) (some (32 : Nat))),
          ((7 : Nat), V.ptr (3 : Nat) (0 : Nat))],
        [Blk.ints A, Blk.b64 u, Blk.ints Q, Blk.b64 [r.a, r.b, r.c, r.d]]))) := by kernel_rfl
end
end Go.Proofs.Ytajbaocfdlopbaa.K
end
section
open Go Go.Lh
namespace Go.Proofs.Ytajbaocfdlopbaa.K
noncomputable section
set_option maxRecDepth 100000
structure DwS where
  A : List Int
  Q : List Int
  b : W4
  r : W4
  u : List (BitVec 64)
def dw_r (a : DwS) (n : Nat) : W4 := if n = 0 then a.r else W4.ofN (W4.valI a.A / 2 ^ (256 - n) % a.b.n)
def dw_Q (a : DwS) (n : Nat) : List Int := if n = 0 then a.Q else W4.dg 32 (W4.valI a.A / 2 ^ (256 - n) / a.b.n * 2 ^ (256 - n))
def dw_S (a : DwS) (n : Nat) : Fr × Heap := ([(0,.sl 0 0 1 32 none),(3,.ptr 1 0),(5,.ptr 2 0),(6,.sl 3 0 1 32 (some 32)),(7,.ptr 4 0),(8,.int .i64 (255 - (n : Int)))], [.ints a.A, .b64 [a.b.a,a.b.b,a.b.c,a.b.d], .b64 a.u, .ints (dw_Q a n), .b64 [(dw_r a n).a,(dw_r a n).b,(dw_r a n).c,(dw_r a n).d]])
def dw_read : Fr → Heap → Option DwS := fun f h => match f, h with
  | [(0,.sl 0 0 1 32 none),(3,.ptr 1 0),(5,.ptr 2 0),(6,.sl 3 0 1 32 (some 32)),(7,.ptr 4 0),(8,.int .i64 255)], [.ints A, .b64 [ba,bb,bc,bd], .b64 u, .ints Q, .b64 [ra,rb,rc,rd]] => some ⟨A, Q, ⟨ba,bb,bc,bd⟩, ⟨ra,rb,rc,rd⟩, u⟩
  | _, _ => none
def dw_P (a : DwS) : Prop := a.A = W4.dg 32 (W4.valI a.A) ∧ a.Q = W4.dg 32 0 ∧ a.r = W4.zero ∧ a.b.n ≠ 0
def dw_ok (a : DwS) : Bool := @decide (dw_P a) (Classical.propDecidable _)
def dw_R (a : DwS) : W4 := W4.ofN (W4.valI a.A % a.b.n)
def dw_E (a : DwS) : Tr (X × Fr × Heap) := .leaf (.exit 0, [(5,.ptr 1 0),(6,.sl 2 0 1 32 (some 32)),(7,.ptr 3 0)], [.ints a.A, .b64 a.u, .ints (W4.dg 32 (W4.valI a.A / a.b.n)), .b64 [(dw_R a).a,(dw_R a).b,(dw_R a).c,(dw_R a).d]])
def dw_s : SmT := whT 4 [0,3,5,6,7,8] dw_read dw_ok dw_E
theorem dw_at : SmAtT Pr Go.Proofs.Try.f118 1 dw_s 0 := by
  refine cntT_x OR6_sound mixed dw_S (fun _ => 256) (fun a n => dvl_x a.A (dw_Q a n) a.b (dw_r a n) a.u (255 - (n : Int))) (by kernel_rfl) (by kernel_rfl) (by kernel_rfl) LoopsOk.noneT ?_ ?_
  · intro f g a h
    unfold dw_read at h
    split at h <;> cases h
    rfl
  · rintro ⟨A, Q, b, r, u⟩ q hok hq n hn
    obtain ⟨hA, hQ, hr, hb⟩ : dw_P ⟨A, Q, b, r, u⟩ := @of_decide_eq_true _ (Classical.propDecidable _) hok
    simp only at hA hQ hr hb hn
    rw [dw_E, Tr.is_leaf] at hq
    simp only [dw_R] at hq ⊢
    generalize hx : W4.valI A = N at *
    subst hA
    have hN : N < 2 ^ 256 := by rw [← hx, W4.valI_dg]; exact Nat.mod_lt _ (by decide)
    have hr' : ∀ j, dw_r ⟨W4.dg 32 N, Q, b, r, u⟩ j = W4.ofN (N / 2 ^ (256 - j) % b.n) := by
      intro j; unfold dw_r; split
      · rename_i h; subst h; rw [Nat.sub_zero, Nat.div_eq_of_lt hN, Nat.zero_mod, hr]; rfl
      · rw [hx]
    have hQ' : ∀ j, dw_Q ⟨W4.dg 32 N, Q, b, r, u⟩ j = W4.dg 32 (N / 2 ^ (256 - j) / b.n * 2 ^ (256 - j)) := by
      intro j; unfold dw_Q; split
      · rename_i h; subst h; rw [Nat.sub_zero, Nat.div_eq_of_lt hN, Nat.zero_div, Nat.zero_mul]; exact hQ
      · rw [hx]
    simp only [dw_S, hr', hQ', wp_chk, wp_leaf, wp_br, decide_eq_true_eq, decide_eq_false_iff_not, true_and, W4.dg_length, topB]
    refine ⟨fun h => ?_, fun h => .inr ⟨fun h => (by cases h), ?_⟩⟩
    · obtain ⟨t, ht⟩ : ∃ t, n + t = 255 := ⟨255 - n, by omega⟩
      have e1 : 256 - n = t + 1 := by omega
      have e2 : 256 - (n + 1) = t := by omega
      have e3 : (255 - (n : Int)) = (t : Int) := by omega
      have e4 : wrapI .i64 ((t : Int) - 1) = 255 - ((n + 1 : Nat) : Int) := by rw [wrapI_in (by omega) (by omega)]; omega
      have e5 : wrapI .i64 (Int.tdiv (t : Int) 8) = ((t / 8 : Nat) : Int) := by rw [tdiv_lit, wrapI_nat (by omega)]
      have e6 : Int.tmod (t : Int) 8 = ((t % 8 : Nat) : Int) := by rw [tmod_lit]
      simp only [e1, e2, e3, e4, e5, e6, Int.toNat_natCast, Nat.zero_add, Nat.mul_one]
      rw [W4.dg_get (n := 32) (m := N) (by omega : t / 8 < 32), W4.bit_el (by omega) hN, W4.dg_get (n := 32) (by omega : t / 8 < 32)]
      have hB : (BitVec.ofInt 64 (((N.testBit t).toNat : Nat) : Int)).toNat = (N.testBit t).toNat := by
        rw [BitVec.ofInt_natCast, BitVec.toNat_ofNat]; cases N.testBit t <;> rfl
      have hB1 : (N.testBit t).toNat ≤ 1 := by cases N.testBit t <;> decide
      have hbl := b.n_lt
      have hRl : N / 2 ^ (t + 1) % b.n < b.n := Nat.mod_lt _ (Nat.pos_of_ne_zero hb)
      have hRn : (W4.ofN (N / 2 ^ (t + 1) % b.n)).n = N / 2 ^ (t + 1) % b.n := by rw [W4.ofN_n, Nat.mod_eq_of_lt (by omega)]
      have hdbl := W4.dbl_n (W4.ofN (N / 2 ^ (t + 1) % b.n)) (e := BitVec.ofInt 64 (((N.testBit t).toNat : Nat) : Int)) (by omega)
      obtain ⟨h1, h2, h3⟩ := W4.dv_round (N := N) (b := b.n) (t := t) hb _ rfl
      have hset := W4.dg_or (N := 32) (t := t) (V := N / 2 ^ (t + 1) / b.n * 2 ^ (t + 1)) (by omega) rfl
      rw [hB, hRn] at hdbl
      rw [hset]
      generalize hr2 : (W4.mk ((W4.ofN (N / 2 ^ (t + 1) % b.n)).a <<< 1 ||| (W4.ofN (N / 2 ^ (t + 1) % b.n)).b >>> 63) ((W4.ofN (N / 2 ^ (t + 1) % b.n)).b <<< 1 ||| (W4.ofN (N / 2 ^ (t + 1) % b.n)).c >>> 63) ((W4.ofN (N / 2 ^ (t + 1) % b.n)).c <<< 1 ||| (W4.ofN (N / 2 ^ (t + 1) % b.n)).d >>> 63) ((W4.ofN (N / 2 ^ (t + 1) % b.n)).d <<< 1 ||| BitVec.ofInt 64 (((N.testBit t).toNat : Nat) : Int))) = r2 at *
      rw [hRn]
      have hle : N / 2 ^ t % b.n < 2 ^ 256 := Nat.lt_trans (Nat.mod_lt _ (Nat.pos_of_ne_zero hb)) hbl
      generalize N / 2 ^ (t + 1) % b.n = R at *
      generalize (N.testBit t).toNat = e at *
      have hfl : (decide (0 ≤ ((t / 8 : Nat) : Int)) && decide (((t / 8 : Nat) : Int) < 32)) = true := by simp only [Bool.and_eq_true, decide_eq_true_eq]; omega
      have hsub : b.n ≤ 2 * R + e → 2 ^ 256 ≤ 2 * R + e ∨ b.n ≤ r2.n → r2.sub b = W4.ofN (N / 2 ^ t % b.n) := fun h4 h5 => W4.ext_n (by
        rw [W4.ofN_n, h1, if_pos h4, W4.sub_nn, hdbl, Nat.mod_eq_of_lt (by omega : 2 * R + e - b.n < 2 ^ 256)]
        omega)
      refine ⟨?_, fun ho => ⟨?_, .inl ⟨by omega, ?_⟩⟩, fun ho => ⟨fun hl => ⟨?_, .inl ⟨by omega, ?_⟩⟩, fun hl => .inl ⟨by omega, ?_⟩⟩⟩
      · simp only [Bool.and_eq_true, decide_eq_true_eq]
        (repeat' apply And.intro) <;> first | omega | trivial
      · simp only [Bool.and_eq_true, decide_eq_true_eq]
        (repeat' apply And.intro) <;> first | omega | trivial
      · have h4 : b.n ≤ 2 * R + e := by omega
        rw [hsub h4 (.inl (by omega)), h2, if_pos h4]
      · simp only [Bool.and_eq_true, decide_eq_true_eq]
        (repeat' apply And.intro) <;> first | omega | trivial
      · rw [Bool.not_eq_true', W4.lt_false] at hl
        have h4 : b.n ≤ 2 * R + e := by
          rw [hdbl] at hl; exact Nat.le_trans hl (Nat.mod_le _ _)
        rw [hsub h4 (.inr hl), h2, if_pos h4]
      · rw [Bool.not_eq_false', W4.lt_iff] at hl
        have h6 : r2.n = 2 * R + e := by rw [hdbl, Nat.mod_eq_of_lt (by omega)]
        have h4 : ¬ b.n ≤ 2 * R + e := by omega
        have h7 : r2 = W4.ofN (N / 2 ^ t % b.n) := W4.ext_n (by rw [W4.ofN_n, h1, if_neg h4, Nat.mod_eq_of_lt (by omega), h6])
        rw [h2, if_neg h4, Nat.add_zero, ← h7, ← hr2]
        try rfl
    · have e : n = 256 := by omega
      subst e
      rw [← hq, Nat.sub_self, Nat.pow_zero, Nat.div_one, Nat.mul_one]
theorem dw_Ls : LoopsOk Pr Go.Proofs.Try.f118 1 (smLT 1 [dw_s]).o := LoopsOk.one (by kernel_rfl) dw_at
theorem rdivide_x (A : List Int) (b : W4) : Tr.prune (Tr.Sh.any)
  (execBF Pr OR6 (smLT (1 : Nat) [dw_s]) (100 : Nat) Go.Proofs.Try.f118
  [V.sl (0 : Nat) (0 : Nat) (1 : Nat) (32 : Nat) none, b.v] [Blk.ints A]) =
  Tr.chk
  (dw_ok
        (DwS.mk A (List.replicate (32 : Nat) (0 : Int)) b
          (W4.mk (BitVec.ofInt (64 : Nat) (0 : Int)) (BitVec.ofInt (64 : Nat) (0 : Int))
            (BitVec.ofInt (64 : Nat) (0 : Int)) (BitVec.ofInt (64 : Nat) (0 : Int)))
          [BitVec.ofInt (64 : Nat) (0 : Int), BitVec.ofInt (64 : Nat) (0 : Int), BitVec.ofInt (64 : Nat) (0 : Int),
            BitVec.ofInt (64 : Nat) (0 : Int)]) &&
      true &&
    true)
  (Tr.leaf
    (Fin.ret
        (V.tup
          [V.sl (1 : Nat) (0 : Nat) (1 : Nat) (32 : Nat) (some (32 : Nat)),
            V.agg
              [V.u64
                  (dw_R
                      (DwS.mk A (List.replicate (32 : Nat) (0 : Int)) b
                        (W4.mk (BitVec.ofInt (64 : Nat) (0 : Int)) (BitVec.ofInt (64 : Nat) (0 : Int))
                          (BitVec.ofInt (64 : Nat) (0 : Int)) (BitVec.ofInt (64 : Nat) (0 : Int)))
                        [BitVec.ofInt (64 : Nat) (0 : Int), BitVec.ofInt (64 : Nat) (0 : Int),
                          BitVec.ofInt (64 : Nat) (0 : Int), BitVec.ofInt (64 : Nat) (0 : Int)])).a,
                V.u64
                  (dw_R
                      (DwS.mk A (List.replicate (32 : Nat) (0 : Int)) b
                        (W4.mk (BitVec.ofInt (64 : Nat) (0 : Int)) (BitVec.ofInt (64 : Nat) (0 : Int))
                          (BitVec.ofInt (64 : Nat) (0 : Int)) (BitVec.ofInt (64 : Nat) (0 : Int)))
                        [BitVec.ofInt (64 : Nat) (0 : Int), BitVec.ofInt (64 : Nat) (0 : Int),
                          BitVec.ofInt (64 : Nat) (0 : Int), BitVec.ofInt (64 : Nat) (0 : Int)])).b,
                V.u64
                  (dw_R
                      (DwS.mk A (List.replicate (32 : Nat) (0 : Int)) b
                        (W4.mk (BitVec.ofInt (64 : Nat) (0 : Int)) (BitVec.ofInt (64 : Nat) (0 : Int))
                          (BitVec.ofInt (64 : Nat) (0 : Int)) (BitVec.ofInt (64 : Nat) (0 : Int)))
                        [BitVec.ofInt (64 : Nat) (0 : Int), BitVec.ofInt (64 : Nat) (0 : Int),
                          BitVec.ofInt (64 : Nat) (0 : Int), BitVec.ofInt (64 : Nat) (0 : Int)])).c,
                V.u64
                  (dw_R
                      (DwS.mk A (List.replicate (32 : Nat) (0 : Int)) b
                        (W4.mk (BitVec.ofInt (64 : Nat) (0 : Int)) (BitVec.ofInt (64 : Nat) (0 : Int))
                          (BitVec.ofInt (64 : Nat) (0 : Int)) (BitVec.ofInt (64 : Nat) (0 : Int)))
                        [BitVec.ofInt (64 : Nat) (0 : Int), BitVec.ofInt (64 : Nat) (0 : Int),
                          BitVec.ofInt (64 : Nat) (0 : Int), BitVec.ofInt (64 : Nat) (0 : Int)])).d]]),
      [Blk.ints A, Blk.ints (W4.dg (32 : Nat) (W4.valI A / b.n))])) := by kernel_rfl
end
end Go.Proofs.Ytajbaocfdlopbaa.K
end
section
open Go Go.Lh
namespace Go.Proofs.Ytajbaocfdlopbaa.K
noncomputable section
set_option maxRecDepth 100000
theorem rdivide_fn (N : Nat) (b : W4) (hN : N < 2 ^ 256) (hb : b.n ≠ 0) : LFn Pr 118 [.sl 0 0 1 32 none, b.v] [.ints (W4.dg 32 N)] (.ret (.tup [.sl 1 0 1 32 (some 32), (W4.ofN (N % b.n)).v])) [.ints (W4.dg 32 N), .ints (W4.dg 32 (N / b.n))] := by
  refine fnT OR6_sound mixed (by kernel_rfl) dw_Ls (rdivide_x (W4.dg 32 N) b) (tr1 ?_ ?_)
  · rw [Bool.and_true, Bool.and_true]
    refine @decide_eq_true _ (Classical.propDecidable _) ⟨?_, W4.is0_iff.1 (W4.is0_rep 32), rfl, hb⟩
    show W4.dg 32 _ = W4.dg 32 (W4.valI (W4.dg 32 _))
    rw [W4.valI_dg, W4.dg_mod]
  · simp only [dw_R]
    rw [valI_dg32 hN]; rfl
def nzW (b : W4) : Bool := @decide (b.n ≠ 0) (Classical.propDecidable _)
theorem nzW_iff {b : W4} : nzW b = true ↔ b.n ≠ 0 := by simp [nzW]
def readDv : List V → Heap → Option (List Int × W4) := fun args h => match args, h with
  | [.sl 0 0 1 32 none, .agg [.u64 a, .u64 b, .u64 c, .u64 d]], [.ints xs] => some (xs, ⟨a, b, c, d⟩)
  | _, _ => none
def rdivide_g : List V → Heap → Tr (Fin × Heap) := ctT readDv (fun a => .chk (W4.isD 32 a.1 && nzW a.2) (.leaf (.ret (.tup [.sl 1 0 1 32 (some 32), (W4.ofN (W4.valI a.1 % a.2.n)).v]), [.ints a.1, .ints (W4.dg 32 (W4.valI a.1 / a.2.n))])))
theorem rdivide_ok : ∀ args h r, (rdivide_g args h).is r → LFn Pr 118 args h r.1 r.2 := by
  refine ctT_ok (fun a => [.sl 0 0 1 32 none, a.2.v]) (fun a => [.ints a.1]) ?_ (fun a r h => ?_)
  · intro args h a e
    unfold readDv at e
    split at e <;> cases e
    exact ⟨rfl, rfl⟩
  · obtain ⟨xs, b⟩ := a
    rw [Tr.is_chk, Tr.is_leaf] at h
    obtain ⟨h, rfl⟩ := h
    simp only [Bool.and_eq_true, W4.isD_iff, nzW_iff] at h
    have h1 : W4.valI xs < 2 ^ 256 := by rw [h.1, W4.valI_dg]; exact Nat.mod_lt _ (by decide)
    have := rdivide_fn (W4.valI xs) b h1 h.2
    rw [← h.1] at this
    exact this
theorem rdivide_en : Enters Pr 118 := Enters.of (fn := Go.Proofs.Try.f118) (by kernel_rfl) (by kernel_rfl)
def KR7 : KnownT := (118, rdivide_g) :: KR6
theorem KR7_ok : KOkT Pr KR7 := KOkT.cons rdivide_en rdivide_ok (KR6_ok)
def OR7 : OrcT := autoT Pr ext KR7 [] 3
theorem OR7_sound : OrcSound Pr OR7.o := autoT_sound mixed ext_ok KR7_ok (by kernel_rfl) 3
theorem rdiv_x (a : W4) (b : W4) : Tr.prune (Tr.Sh.any.both Tr.Sh.any)
  (execBF Pr OR7 noLoopsT (100 : Nat) Go.Proofs.Try.f102 [a.v, b.v] []) =
  Tr.chk true
  (Tr.br
    (b.a == BitVec.ofInt (64 : Nat) (0 : Int) &&
      (b.b == BitVec.ofInt (64 : Nat) (0 : Int) &&
        (b.c == BitVec.ofInt (64 : Nat) (0 : Int) && (b.d == BitVec.ofInt (64 : Nat) (0 : Int) && true))))
    (Tr.chk true (Tr.leaf (Fin.ret (V.agg [V.u64 b.a, V.u64 b.b, V.u64 b.c, V.u64 b.d]), [])))
    (Tr.chk
      (W4.isD (32 : Nat) (W4.dg (32 : Nat) a.n) && nzW b && true &&
          ((true || false) && W4.isD (32 : Nat) (W4.dg (32 : Nat) (W4.valI (W4.dg (32 : Nat) a.n) / b.n)) && true) &&
        true)
      (Tr.leaf
        (Fin.ret
            (V.agg
              [V.u64 (W4.ofN (W4.valI (W4.dg (32 : Nat) (W4.valI (W4.dg (32 : Nat) a.n) / b.n)))).a,
                V.u64 (W4.ofN (W4.valI (W4.dg (32 : Nat) (W4.valI (W4.dg (32 : Nat) a.n) / b.n)))).b,
                V.u64 (W4.ofN (W4.valI (W4.dg (32 : Nat) (W4.valI (W4.dg (32 : Nat) a.n) / b.n)))).c,
                V.u64 (W4.ofN (W4.valI (W4.dg (32 : Nat) (W4.valI (W4.dg (32 : Nat) a.n) / b.n)))).d]),
          [])))) := by kernel_rfl
theorem rdiv_fn (a b : W4) : LFn Pr 102 [a.v, b.v] [] (.ret (divQ a b).v) [] := by
  refine fnT OR7_sound mixed (by kernel_rfl) LoopsOk.noneT (rdiv_x a b) ?_
  simp only [wp_chk_true, wp_br, Bool.and_true, z64, W4.zeroT', decide_eq_true_eq, decide_eq_false_iff_not]
  refine ⟨fun h => ?_, fun h => ?_⟩
  · have e : divQ a b = b := W4.ext_n (by rw [divQ_n, h, Nat.div_zero])
    rw [e]; exact (rfl : _ = _)
  · have e : divQ a b = W4.ofN (a.n / b.n) := W4.ext_n (by rw [divQ_n, W4.ofN_n, Nat.mod_eq_of_lt (Nat.lt_of_le_of_lt (Nat.div_le_self _ _) a.n_lt)])
    rw [valI_dg32 a.n_lt, valI_dg32 (Nat.lt_of_le_of_lt (Nat.div_le_self _ _) a.n_lt), e, W4.isD_dg, W4.isD_dg, nzW_iff.2 h]
    exact tr1 rfl rfl
theorem rdiv_en : Enters Pr 102 := Enters.of (fn := Go.Proofs.Try.f102) (by kernel_rfl) (by kernel_rfl)
def KR8 : KnownT := (102, old (ctWW fun x y => (divQ x y).v)) :: KR7
theorem KR8_ok : KOkT Pr KR8 := KOkT.cons rdiv_en (old_ok (ctWW_ok rdiv_fn)) (KR7_ok)
def OR8 : OrcT := autoT Pr ext KR8 [] 3
theorem OR8_sound : OrcSound Pr OR8.o := autoT_sound mixed ext_ok KR8_ok (by kernel_rfl) 3
end
end Go.Proofs.Ytajbaocfdlopbaa.K
end
section
open Go Go.Lh
namespace Go.Proofs.Ytajbaocfdlopbaa.K
namespace E
noncomputable section
set_option maxRecDepth 100000
def add_g := ctWW (fun x y => (W4.add x y).v)
def mul_g := ctWW (fun x y => (W4.mul x y).v)
def div_g := ctWW (fun x y => (divQ x y).v)
theorem add_en : Enters Pr 40 := Enters.of (fn := Go.Proofs.Try.f40) (by kernel_rfl) (by kernel_rfl)
theorem mul_en : Enters Pr 64 := Enters.of (fn := Go.Proofs.Try.f64) (by kernel_rfl) (by kernel_rfl)
theorem div_en : Enters Pr 80 := Enters.of (fn := Go.Proofs.Try.f80) (by kernel_rfl) (by kernel_rfl)
def KF0 : Known := [(36, from_g), (64, mul_g), (80, div_g), (39, sub_g), (40, add_g), (38, less_g)]
theorem KF0_ok : KOk Pr KF0 := KOk.cons from_en (ctU_ok from_fn) (KOk.cons mul_en (ctWW_ok mul_fn) (KOk.cons div_en (ctWW_ok div_fn) (KOk.cons sub_en (ctWW_ok sub_fn) (KOk.cons add_en (ctWW_ok add_fn) (KOk.cons less_en (ctWW_ok less_fn) KOk.nil)))))
def OF0 : Orc := auto Pr ext KF0 [] 3
theorem OF0_sound : OrcSound Pr OF0 := auto_sound mixed ext_ok KF0_ok (by kernel_rfl) 3
def stepW (b : W4) (far t : BitVec 64) : W4 := divQ (divQ (W4.mul b (W4.small far)) (W4.small t)) (W4.small 8)
theorem step_x (b : W4) (far t : BitVec 64) : execFD Pr OF0 noLoops [] 100 Go.Proofs.Try.f79 [.u64 far, .ptr 0 0, .ptr 1 0] [.b64 (wl b), .b64 [t]] = some (true, .ret (stepW b far t).v, [.b64 (wl b), .b64 [t]]) := by kernel_rfl
theorem step_fn (b : W4) (far t : BitVec 64) : LFn Pr 79 [.u64 far, .ptr 0 0, .ptr 1 0] [.b64 (wl b), .b64 [t]] (.ret (stepW b far t).v) [.b64 (wl b), .b64 [t]] :=
  execFD_sound (fn := Go.Proofs.Try.f79) OF0_sound mixed (by kernel_rfl) (fun _ _ _ _ => LoopOk.none) (step_x b far t)
structure ST where
  far : BitVec 64
  b : W4
  t : BitVec 64
def readST : List V → Heap → Option ST := fun args h => match args, h with
  | [.u64 far, .ptr 0 0, .ptr 1 0], [.b64 [a, b, c, d], .b64 [t]] => some ⟨far, ⟨a, b, c, d⟩, t⟩
  | _, _ => none
def step_g := ct readST always (fun a => .ret (stepW a.b a.far a.t).v) (fun a => [.b64 [a.b.a, a.b.b, a.b.c, a.b.d], .b64 [a.t]])
theorem step_ok : ∀ args h fin h', step_g args h = some (true, fin, h') → LFn Pr 79 args h fin h' := by
  refine ct_ok (fun a => [.u64 a.far, .ptr 0 0, .ptr 1 0]) (fun a => [.b64 (wl a.b), .b64 [a.t]]) ?_ (fun a _ => step_fn a.b a.far a.t)
  intro args h a e
  unfold readST at e
  split at e <;> cases e
  exact ⟨rfl, rfl⟩
theorem step_ro : ∀ args h r, step_g args h = some r → r.2.2 = h := by
  intro args h r e
  unfold step_g ct at e
  split at e <;> cases e
  rename_i a ha
  unfold readST at ha
  split at ha <;> cases ha
  rfl
theorem step_en : Enters Pr 79 := Enters.of (fn := Go.Proofs.Try.f79) (by kernel_rfl) (by kernel_rfl)
end
end E
end Go.Proofs.Ytajbaocfdlopbaa.K
end
section
open Go Go.Lh
namespace Go.Proofs.Ytajbaocfdlopbaa.K
namespace E
noncomputable section
set_option maxRecDepth 100000
def KF1 : Known := (79, step_g) :: KF0
theorem KF1_ok : KOk Pr KF1 := KOk.cons step_en step_ok KF0_ok
def OF1 : Orc := withRo (auto Pr ext KF1 [] 3) [79] (by
  intro f hf args h r e
  have : f = 79 := by
    simp only [memN] at hf
    by_cases e : Nat.beq 79 f = true
    · exact (Nat.eq_of_beq_eq_true e).symm
    · rw [if_neg e] at hf; cases hf
  subst this
  exact step_ro args h r e)
theorem OF1_sound : OrcSound Pr OF1 := withRo_sound (auto_sound mixed ext_ok KF1_ok (by kernel_rfl) 3)
def fl (r : Option (Bool × Fin × Heap)) : Option Bool := match r with | some (k, _, _) => some k | none => none
theorem next_a (b : W4) (u l : BitVec 64) : execFD Pr (withAsm OF1 [(12,true)]) noLoops [] 100 Go.Proofs.Try.f37 [b.v, .u64 u, .u64 l] [] =
  some (l / BitVec.ofInt 64 2 == BitVec.ofInt 64 0 && true && true && true, .ret (b).v, []) := by kernel_rfl
theorem next_b (b : W4) (u l : BitVec 64) : execFD Pr (withAsm OF1 [(12,false),(15,true)]) noLoops [] 100 Go.Proofs.Try.f37 [b.v, .u64 u, .u64 l] [] =
  some (!l / BitVec.ofInt 64 2 == BitVec.ofInt 64 0 && (u == l / BitVec.ofInt 64 2 && true) && true && true, .ret (b).v, []) := by kernel_rfl
theorem next_d (b : W4) (u l : BitVec 64) : execFD Pr (withAsm OF1 [(12,false),(15,false),(21,false),(36,true)]) noLoops [] 100 Go.Proofs.Try.f37 [b.v, .u64 u, .u64 l] [] =
  some (!l / BitVec.ofInt 64 2 == BitVec.ofInt 64 0 && (!u == l / BitVec.ofInt 64 2 && true) && true && (!decide (u < l / BitVec.ofInt 64 2) && true && true && (always (ST.mk (u - l / BitVec.ofInt 64 2) b (l / BitVec.ofInt 64 2)) && true && (((stepW b (u - l / BitVec.ofInt 64 2) (l / BitVec.ofInt 64 2)).a == BitVec.ofInt 64 0 && ((stepW b (u - l / BitVec.ofInt 64 2) (l / BitVec.ofInt 64 2)).b == BitVec.ofInt 64 0 && ((stepW b (u - l / BitVec.ofInt 64 2) (l / BitVec.ofInt 64 2)).c == BitVec.ofInt 64 0 && ((stepW b (u - l / BitVec.ofInt 64 2) (l / BitVec.ofInt 64 2)).d == BitVec.ofInt 64 0 && true)))) && true && true && (always (WW.mk b (W4.mk (stepW b (u - l / BitVec.ofInt 64 2) (l / BitVec.ofInt 64 2)).a (stepW b (u - l / BitVec.ofInt 64 2) (l / BitVec.ofInt 64 2)).b (stepW b (u - l / BitVec.ofInt 64 2) (l / BitVec.ofInt 64 2)).c (BitVec.ofInt 64 1))) && true && true)))) && true, .ret (W4.add b (W4.mk (stepW b (u - l / BitVec.ofInt 64 2) (l / BitVec.ofInt 64 2)).a (stepW b (u - l / BitVec.ofInt 64 2) (l / BitVec.ofInt 64 2)).b (stepW b (u - l / BitVec.ofInt 64 2) (l / BitVec.ofInt 64 2)).c (BitVec.ofInt 64 1))).v, []) := by kernel_rfl
theorem next_e (b : W4) (u l : BitVec 64) : execFD Pr (withAsm OF1 [(12,false),(15,false),(21,false),(36,false)]) noLoops [] 100 Go.Proofs.Try.f37 [b.v, .u64 u, .u64 l] [] =
  some (!l / BitVec.ofInt 64 2 == BitVec.ofInt 64 0 && (!u == l / BitVec.ofInt 64 2 && true) && true && (!decide (u < l / BitVec.ofInt 64 2) && true && true && (always (ST.mk (u - l / BitVec.ofInt 64 2) b (l / BitVec.ofInt 64 2)) && true && (!((stepW b (u - l / BitVec.ofInt 64 2) (l / BitVec.ofInt 64 2)).a == BitVec.ofInt 64 0 && ((stepW b (u - l / BitVec.ofInt 64 2) (l / BitVec.ofInt 64 2)).b == BitVec.ofInt 64 0 && ((stepW b (u - l / BitVec.ofInt 64 2) (l / BitVec.ofInt 64 2)).c == BitVec.ofInt 64 0 && ((stepW b (u - l / BitVec.ofInt 64 2) (l / BitVec.ofInt 64 2)).d == BitVec.ofInt 64 0 && true)))) && true && true && (always (WW.mk b (stepW b (u - l / BitVec.ofInt 64 2) (l / BitVec.ofInt 64 2))) && true && true)))) && true, .ret (W4.add b (stepW b (u - l / BitVec.ofInt 64 2) (l / BitVec.ofInt 64 2))).v, []) := by kernel_rfl
theorem next_c (b : W4) (u l : BitVec 64) : execFD Pr (withAsm OF1 [(12,false),(15,false),(21,true)]) noLoops [] 100 Go.Proofs.Try.f37 [b.v, .u64 u, .u64 l] [] =
  some (!l / BitVec.ofInt 64 2 == BitVec.ofInt 64 0 && (!u == l / BitVec.ofInt 64 2 && true) && true &&
      (decide (u < l / BitVec.ofInt 64 2) && true && (always (ST.mk (l / BitVec.ofInt 64 2 - u) b (l / BitVec.ofInt 64 2)) &&
       (always (WW.mk b (stepW b (l / BitVec.ofInt 64 2 - u) (l / BitVec.ofInt 64 2))) && true) && true)) && true,
   .ret (W4.sub b (stepW b (l / BitVec.ofInt 64 2 - u) (l / BitVec.ofInt 64 2))).v, []) := by kernel_rfl
def tgt (l : BitVec 64) : BitVec 64 := l / BitVec.ofInt 64 2
def bump (s : W4) : W4 := if s.n = 0 then W4.mk s.a s.b s.c (BitVec.ofInt 64 1) else s
def nextC (b : W4) (u l : BitVec 64) : W4 :=
  if tgt l = 0 then b else if u = tgt l then b else if u < tgt l then W4.sub b (stepW b (tgt l - u) (tgt l)) else W4.add b (bump (stepW b (u - tgt l) (tgt l)))
theorem next_fn (b : W4) (u l : BitVec 64) : LFn Pr 37 [b.v, .u64 u, .u64 l] [] (.ret (nextC b u l).v) [] := by
  have hs : ∀ {asm : List (Nat × Bool)}, OrcSound Pr (withAsm OF1 asm) := fun {_} => withAsm_sound OF1_sound
  by_cases h1 : tgt l = 0
  · refine execFD_sound (fn := Go.Proofs.Try.f37) hs mixed (by kernel_rfl) (fun _ _ _ _ => LoopOk.none) ((next_a b u l).trans (stF ?_ ?_ rfl))
    · unfold tgt at h1; rw [h1]; rfl
    · unfold nextC; rw [if_pos h1]
  · have b1 : (l / BitVec.ofInt 64 2 == BitVec.ofInt 64 0) = false := by rw [beq_eq_false_iff_ne]; exact h1
    by_cases h2 : u = tgt l
    · refine execFD_sound (fn := Go.Proofs.Try.f37) hs mixed (by kernel_rfl) (fun _ _ _ _ => LoopOk.none) ((next_b b u l).trans (stF ?_ ?_ rfl))
      · have b2 : (u == l / BitVec.ofInt 64 2) = true := by rw [beq_iff_eq]; exact h2
        rw [b1, b2]; rfl
      · unfold nextC; rw [if_neg h1, if_pos h2]
    · have b2 : (u == l / BitVec.ofInt 64 2) = false := by rw [beq_eq_false_iff_ne]; exact h2
      by_cases h3 : u < tgt l
      · have b3 : decide (u < l / BitVec.ofInt 64 2) = true := decide_eq_true h3
        refine execFD_sound (fn := Go.Proofs.Try.f37) hs mixed (by kernel_rfl) (fun _ _ _ _ => LoopOk.none) ((next_c b u l).trans (stF ?_ ?_ rfl))
        · rw [b1, b2, b3]; rfl
        · unfold nextC; rw [if_neg h1, if_neg h2, if_pos h3]; rfl
      · have b3 : decide (u < l / BitVec.ofInt 64 2) = false := decide_eq_false h3
        by_cases h4 : (stepW b (u - tgt l) (tgt l)).n = 0
        · refine execFD_sound (fn := Go.Proofs.Try.f37) hs mixed (by kernel_rfl) (fun _ _ _ _ => LoopOk.none) ((next_d b u l).trans (stF ?_ ?_ rfl))
          · rw [b1, b2, b3, W4.eq_zero, decide_eq_true (show (stepW b (u - l / BitVec.ofInt 64 2) (l / BitVec.ofInt 64 2)).n = 0 from h4)]; rfl
          · unfold nextC bump; rw [if_neg h1, if_neg h2, if_neg h3, if_pos h4]; rfl
        · refine execFD_sound (fn := Go.Proofs.Try.f37) hs mixed (by kernel_rfl) (fun _ _ _ _ => LoopOk.none) ((next_e b u l).trans (stF ?_ ?_ rfl))
          · rw [b1, b2, b3, W4.eq_zero, decide_eq_false (show ¬ (stepW b (u - l / BitVec.ofInt 64 2) (l / BitVec.ofInt 64 2)).n = 0 from h4)]; rfl
          · unfold nextC bump; rw [if_neg h1, if_neg h2, if_neg h3, if_neg h4]; rfl
theorem next_en : Enters Pr 37 := Enters.of (fn := Go.Proofs.Try.f37) (by kernel_rfl) (by kernel_rfl)
end
end E
end Go.Proofs.Ytajbaocfdlopbaa.K
end
section
open Go Go.Lh
namespace Go.Proofs.Ytajbaocfdlopbaa.K
namespace E
noncomputable section
set_option maxRecDepth 100000
def readWUU : List V → Heap → Option (W4 × BitVec 64 × BitVec 64) := fun args h => match args, h with
  | [.agg [.u64 a, .u64 b, .u64 c, .u64 d], .u64 u, .u64 l], [] => some (⟨a, b, c, d⟩, u, l)
  | _, _ => none
def next_g := ct readWUU always (fun a => .ret (nextC a.1 a.2.1 a.2.2).v) noHeap
theorem next_ok : ∀ args h fin h', next_g args h = some (true, fin, h') → LFn Pr 37 args h fin h' := by
  refine ct_ok (fun a => [a.1.v, .u64 a.2.1, .u64 a.2.2]) (fun _ => []) ?_ (fun a _ => next_fn a.1 a.2.1 a.2.2)
  intro args h a e
  unfold readWUU at e
  split at e <;> cases e
  exact ⟨rfl, rfl⟩
def KF2 : Known := (37, next_g) :: KF0
theorem KF2_ok : KOk Pr KF2 := KOk.cons next_en next_ok KF0_ok
def OF2 : Orc := auto Pr ext KF2 [41, 85] 4
theorem OF2_sound : OrcSound Pr OF2 := auto_sound mixed ext_ok KF2_ok (by kernel_rfl) 4
theorem ex_x : execFD Pr OF2 noLoops [] 100 Go.Proofs.Try.f35 [] [] = some (true, .ret (.bool true), []) := by kernel_rfl
theorem feeEx_fn : LFn Pr 35 [] [] (.ret (.bool true)) [] :=
  execFD_sound (fn := Go.Proofs.Try.f35) OF2_sound mixed (by kernel_rfl) (fun _ _ _ _ => LoopOk.none) ex_x
end
end E
end Go.Proofs.Ytajbaocfdlopbaa.K
end
section
open Go Go.Lh
namespace Go.Proofs.Ytajbaocfdlopbaa.K
namespace E
noncomputable section
set_option maxRecDepth 100000
def ex_g : List V → Heap → Option (Bool × Fin × Heap) := fun args h => match args, h with
  | [], [] => some (true, .ret (.bool true), [])
  | _, _ => none
theorem ex_ok : ∀ args h fin h', ex_g args h = some (true, fin, h') → LFn Pr 35 args h fin h' := by
  intro args h fin h' e
  unfold ex_g at e
  split at e <;> cases e
  exact feeEx_fn
theorem ex_en : Enters Pr 35 := Enters.of (fn := Go.Proofs.Try.f35) (by kernel_rfl) (by kernel_rfl)
def KF3 : Known := (35, ex_g) :: KF2
theorem KF3_ok : KOk Pr KF3 := KOk.cons ex_en ex_ok KF2_ok
def OF3 : Orc := auto Pr ext KF3 [85] 4
theorem OF3_sound : OrcSound Pr OF3 := auto_sound mixed ext_ok KF3_ok (by kernel_rfl) 4
end
end E
end Go.Proofs.Ytajbaocfdlopbaa.K
end
section
open Go Go.Lh
namespace Go.Proofs.Ytajbaocfdlopbaa.K
namespace E
noncomputable section
set_option maxRecDepth 100000
def OF4 : Orc := auto Pr ext KF0 [] 3
theorem OF4_sound : OrcSound Pr OF4 := auto_sound mixed ext_ok KF0_ok (by kernel_rfl) 3
def lesserC (a b : W4) : W4 := if W4.lt b a = true then b else a
theorem les_y (a b : W4) : execFD Pr OF4 noLoops [(7,true)] 100 Go.Proofs.Try.f85 [a.v, b.v] [] = some (always (WW.mk b a) && true && (W4.lt b a && true) && true, .ret b.v, []) := by kernel_rfl
theorem les_n (a b : W4) : execFD Pr OF4 noLoops [(7,false)] 100 Go.Proofs.Try.f85 [a.v, b.v] [] = some (always (WW.mk b a) && true && (!W4.lt b a && true) && true && true, .ret a.v, []) := by kernel_rfl
theorem lesser_fn (a b : W4) : LFn Pr 85 [a.v, b.v] [] (.ret (lesserC a b).v) [] := by
  by_cases h : W4.lt b a = true
  · refine execFD_sound (fn := Go.Proofs.Try.f85) OF4_sound mixed (by kernel_rfl) (fun _ _ _ _ => LoopOk.none) ((les_y a b).trans (stF ?_ ?_ rfl))
    · rw [h]; rfl
    · unfold lesserC; rw [if_pos h]
  · refine execFD_sound (fn := Go.Proofs.Try.f85) OF4_sound mixed (by kernel_rfl) (fun _ _ _ _ => LoopOk.none) ((les_n a b).trans (stF ?_ ?_ rfl))
    · rw [Bool.eq_false_iff.2 h]; rfl
    · unfold lesserC; rw [if_neg h]
def lesser_g := ctWW (fun a b => (lesserC a b).v)
theorem lesser_en : Enters Pr 85 := Enters.of (fn := Go.Proofs.Try.f85) (by kernel_rfl) (by kernel_rfl)
end
end E
end Go.Proofs.Ytajbaocfdlopbaa.K
end
section
open Go Go.Lh
namespace Go.Proofs.Ytajbaocfdlopbaa.K
namespace E
noncomputable section
set_option maxRecDepth 100000
structure TX where
  k : Int
  s1 : List (BitVec 8)
  s2 : List (BitVec 8)
  n : BitVec 64
  g : BitVec 64
  p : W4
  t : W4
  v : W4
  d : List (BitVec 8)
  a : V
def TX.val (x : TX) : V := .agg [.int .i64 x.k, .str x.s1, .str x.s2, .u64 x.n, .u64 x.g, .u64 x.p.a, .u64 x.p.b, .u64 x.p.c, .u64 x.p.d, .u64 x.t.a, .u64 x.t.b, .u64 x.t.c, .u64 x.t.d, .u64 x.v.a, .u64 x.v.b, .u64 x.v.c, .u64 x.v.d, .str x.d, x.a]
theorem lesser_ok : ∀ args h fin h', lesser_g args h = some (true, fin, h') → LFn Pr 85 args h fin h' := ctWW_ok lesser_fn
def KF5 : Known := (85, lesser_g) :: KF0
theorem KF5_ok : KOk Pr KF5 := KOk.cons lesser_en lesser_ok KF0_ok
def OF5 : Orc := auto Pr ext KF5 [] 3
theorem OF5_sound : OrcSound Pr OF5 := auto_sound mixed ext_ok KF5_ok (by kernel_rfl) 3
theorem pr_a (x : TX) (b : W4) : execFD Pr (withAsm OF5 [(9,true),(14,true)]) noLoops [(24,true)] 100 Go.Proofs.Try.f41 [x.val, b.v] [] = some (x.k == (2 : Int) && true && (always (WW.mk x.p b) && (x.p.lt b && true) && true) && true, .ret (.tup [W4.zero.v, W4.zero.v, .int .i64 17]), []) := by kernel_rfl
theorem pr_b (x : TX) (b : W4) : execFD Pr (withAsm OF5 [(9,false),(14,true)]) noLoops [(24,true)] 100 Go.Proofs.Try.f41 [x.val, b.v] [] = some (!x.k == (2 : Int) && true && (always (WW.mk x.p b) && (x.p.lt b && true) && true) && true, .ret (.tup [W4.zero.v, W4.zero.v, .int .i64 17]), []) := by kernel_rfl
theorem pr_c (x : TX) (b : W4) : execFD Pr (withAsm OF5 [(9,false),(14,false)]) noLoops [(24,false)] 100 Go.Proofs.Try.f41 [x.val, b.v] [] = some (!x.k == (2 : Int) && true && (always (WW.mk x.p b) && (!x.p.lt b && true) && true && (always (WW.mk x.p b) && true && (always (WW.mk b (x.p.sub b)) && true && true))) && true, .ret (.tup [(W4.add b (W4.sub x.p b)).v, (W4.sub x.p b).v, .int .i64 0]), []) := by kernel_rfl
theorem pr_d (x : TX) (b : W4) : execFD Pr (withAsm OF5 [(9,true),(14,false)]) noLoops [(24,true)] 100 Go.Proofs.Try.f41 [x.val, b.v] [] = some (x.k == (2 : Int) && true && (always (WW.mk x.p b) && (!x.p.lt b && (always (WW.mk x.p x.t) && true)) && ((bif false then true else bif true then x.p.lt x.t else false) && true)) && true, .ret (.tup [W4.zero.v, W4.zero.v, .int .i64 17]), []) := by kernel_rfl
theorem pr_e (x : TX) (b : W4) : execFD Pr (withAsm OF5 [(9,true),(14,false)]) noLoops [(24,false)] 100 Go.Proofs.Try.f41 [x.val, b.v] [] = some (x.k == (2 : Int) && true && (always (WW.mk x.p b) && (!x.p.lt b && (always (WW.mk x.p x.t) && true)) && ((!bif false then true else bif true then x.p.lt x.t else false) && true) && (always (WW.mk x.p b) && true && (always (WW.mk (x.p.sub b) x.t) && true && (always (WW.mk b (lesserC (x.p.sub b) x.t)) && true && true)))) && true, .ret (.tup [(W4.add b (lesserC (W4.sub x.p b) x.t)).v, (lesserC (W4.sub x.p b) x.t).v, .int .i64 0]), []) := by kernel_rfl
def tipC (x : TX) (b : W4) : W4 := if x.k = 2 then lesserC (W4.sub x.p b) x.t else W4.sub x.p b
def badC (x : TX) (b : W4) : Bool := x.p.lt b || (decide (x.k = 2) && x.p.lt x.t)
def priceV (x : TX) (b : W4) : V := if badC x b = true then .tup [W4.zero.v, W4.zero.v, .int .i64 17] else .tup [(W4.add b (tipC x b)).v, (tipC x b).v, .int .i64 0]
theorem price_fn (x : TX) (b : W4) : LFn Pr 41 [x.val, b.v] [] (.ret (priceV x b)) [] := by
  have hs : ∀ {asm : List (Nat × Bool)}, OrcSound Pr (withAsm OF5 asm) := fun {_} => withAsm_sound OF5_sound
  by_cases h1 : x.p.lt b = true
  · by_cases h2 : x.k = 2
    · refine execFD_sound (fn := Go.Proofs.Try.f41) hs mixed (by kernel_rfl) (fun _ _ _ _ => LoopOk.none) ((pr_a x b).trans (stF ?_ ?_ rfl))
      · rw [h1, beq_iff_eq.2 h2]; rfl
      · unfold priceV badC; rw [h1]; rfl
    · refine execFD_sound (fn := Go.Proofs.Try.f41) hs mixed (by kernel_rfl) (fun _ _ _ _ => LoopOk.none) ((pr_b x b).trans (stF ?_ ?_ rfl))
      · rw [h1, beq_eq_false_iff_ne.2 h2]; rfl
      · unfold priceV badC; rw [h1]; rfl
  · have h1 := Bool.eq_false_iff.2 h1
    by_cases h2 : x.k = 2
    · by_cases h3 : x.p.lt x.t = true
      · refine execFD_sound (fn := Go.Proofs.Try.f41) hs mixed (by kernel_rfl) (fun _ _ _ _ => LoopOk.none) ((pr_d x b).trans (stF ?_ ?_ rfl))
        · rw [h1, h3, beq_iff_eq.2 h2]; rfl
        · unfold priceV badC; rw [h1, h3, decide_eq_true h2]; rfl
      · have h3 := Bool.eq_false_iff.2 h3
        refine execFD_sound (fn := Go.Proofs.Try.f41) hs mixed (by kernel_rfl) (fun _ _ _ _ => LoopOk.none) ((pr_e x b).trans (stF ?_ ?_ rfl))
        · rw [h1, h3, beq_iff_eq.2 h2]; rfl
        · unfold priceV badC tipC; rw [h1, h3, if_pos h2, decide_eq_true h2]; rfl
    · refine execFD_sound (fn := Go.Proofs.Try.f41) hs mixed (by kernel_rfl) (fun _ _ _ _ => LoopOk.none) ((pr_c x b).trans (stF ?_ ?_ rfl))
      · rw [h1, beq_eq_false_iff_ne.2 h2]; rfl
      · unfold priceV badC tipC; rw [h1, if_neg h2, decide_eq_false h2]; rfl
theorem price_en : Enters Pr 41 := Enters.of (fn := Go.Proofs.Try.f41) (by kernel_rfl) (by kernel_rfl)
end
end E
end Go.Proofs.Ytajbaocfdlopbaa.K
end
section
open Go Go.Lh
namespace Go.Proofs.Ytajbaocfdlopbaa.K
noncomputable section
set_option maxRecDepth 100000
theorem fchk_x (b : Bool) : Tr.prune (Tr.Sh.any.both Tr.Sh.any)
  (execBF Pr OT2 noLoopsT (100 : Nat) Go.Proofs.Try.f117 [V.bool b] []) =
  Tr.chk true
  (Tr.br (!b) (Tr.chk true (Tr.leaf (Fin.pan (V.iface (108 : Nat) (V.agg [])), [])))
    (Tr.chk true (Tr.leaf (Fin.ret (V.tup []), [])))) := by kernel_rfl
def overV : V := .iface 108 (.agg [])
def chk_f (b : Bool) : Tr (Fin × Heap) := .br b (.leaf (.ret (.tup []), [])) (.leaf (.pan overV, []))
def readB1 : List V → Heap → Option Bool := fun args h => match args, h with
  | [.bool b], [] => some b
  | _, _ => none
theorem chk_ok : ∀ args h r, (ctT readB1 chk_f args h).is r → LFn Pr 117 args h r.1 r.2 := by
  refine ctT_ok (fun b => [.bool b]) (fun _ => []) ?_ (fun b r h => ?_)
  · intro args h a e
    unfold readB1 at e
    split at e <;> cases e
    exact ⟨rfl, rfl⟩
  · refine fnTT OT2_sound mixed (by kernel_rfl) LoopsOk.noneT (fchk_x b) (E := chk_f b) ?_ r h
    intro q hq
    rw [chk_f, Tr.is_br] at hq
    cases b <;> simpa [wp_chk_true, wp_br, wp_leaf, Tr.is_leaf, overV] using hq
def KG0 : KnownT := (117, ctT readB1 chk_f) :: KW2
theorem KG0_ok : KOkT Pr KG0 := KOkT.cons (Enters.of (fn := Go.Proofs.Try.f117) (by kernel_rfl) (by kernel_rfl)) chk_ok KW2_ok
def OG0 : OrcT := autoT Pr ext KG0 [] 5
theorem OG0_sound : OrcSound Pr OG0.o := autoT_sound mixed ext_ok KG0_ok (by kernel_rfl) 5
theorem ftimes_x (x : W4) (y : W4) : Tr.prune (Tr.Sh.any.l.l.l.l.l.both (Tr.Sh.any.both Tr.Sh.any).r.r.r.r)
  (execXF Pr OG0 noLoopsT (100 : Nat) Go.Proofs.Try.f96 [x.v, y.v] []) =
  Tr.chk true
  (Tr.br
    (y.a == BitVec.ofInt (64 : Nat) (0 : Int) &&
      (y.b == BitVec.ofInt (64 : Nat) (0 : Int) &&
        (y.c == BitVec.ofInt (64 : Nat) (0 : Int) && (y.d == BitVec.ofInt (64 : Nat) (0 : Int) && true))))
    (Tr.chk true
      (Tr.leaf (Fin.ret (V.agg [V.u64 (x.mul y).a, V.u64 (x.mul y).b, V.u64 (x.mul y).c, V.u64 (x.mul y).d]), [])))
    (Tr.chk true
      (Tr.br
        ((divQ (x.mul y) y).a == x.a &&
          ((divQ (x.mul y) y).b == x.b && ((divQ (x.mul y) y).c == x.c && ((divQ (x.mul y) y).d == x.d && true))))
        (Tr.chk true
          (Tr.leaf (Fin.ret (V.agg [V.u64 (x.mul y).a, V.u64 (x.mul y).b, V.u64 (x.mul y).c, V.u64 (x.mul y).d]), [])))
        (Tr.leaf (Fin.pan (V.iface (108 : Nat) (V.agg [])), []))))) := by kernel_rfl
theorem fplus_x (x : W4) (y : W4) : Tr.prune (Tr.Sh.any.both Tr.Sh.any)
  (execXF Pr OG0 noLoopsT (100 : Nat) Go.Proofs.Try.f95 [x.v, y.v] []) =
  Tr.chk true
  (Tr.br (!(x.add y).lt x)
    (Tr.chk true
      (Tr.leaf (Fin.ret (V.agg [V.u64 (x.add y).a, V.u64 (x.add y).b, V.u64 (x.add y).c, V.u64 (x.add y).d]), [])))
    (Tr.leaf (Fin.pan (V.iface (108 : Nat) (V.agg [])), []))) := by kernel_rfl
end
end Go.Proofs.Ytajbaocfdlopbaa.K
end
section
open Go Go.Lh
namespace Go.Proofs.Ytajbaocfdlopbaa.K
noncomputable section
set_option maxRecDepth 100000
def eqW (x y : W4) : Bool := x.a == y.a && (x.b == y.b && (x.c == y.c && (x.d == y.d && true)))
def z0W (y : W4) : Bool := y.a == BitVec.ofInt 64 0 && (y.b == BitVec.ofInt 64 0 && (y.c == BitVec.ofInt 64 0 && (y.d == BitVec.ofInt 64 0 && true)))
def timesOk (x y : W4) : Bool := z0W y || eqW (divQ (x.mul y) y) x
def plusOk (x y : W4) : Bool := !(x.add y).lt x
def overT (b : Bool) (v : V) : Tr (Fin × Heap) := .br b (.leaf (.ret v, [])) (.leaf (.pan overV, []))
def times_f (p : W4 × W4) : Tr (Fin × Heap) := overT (timesOk p.1 p.2) (p.1.mul p.2).v
def plus_f (p : W4 × W4) : Tr (Fin × Heap) := overT (plusOk p.1 p.2) (p.1.add p.2).v
def readWWf : List V → Heap → Option (W4 × W4) := fun args h => match args, h with
  | [.agg [.u64 a, .u64 b, .u64 c, .u64 d], .agg [.u64 e, .u64 f, .u64 g, .u64 i]], [] => some (⟨a, b, c, d⟩, ⟨e, f, g, i⟩)
  | _, _ => none
theorem times_ok : ∀ args h r, (ctT readWWf times_f args h).is r → LFn Pr 96 args h r.1 r.2 := by
  refine ctT_ok (fun p => [p.1.v, p.2.v]) (fun _ => []) ?_ (fun p r h => ?_)
  · intro args h a e
    unfold readWWf at e
    split at e <;> cases e
    exact ⟨rfl, rfl⟩
  · obtain ⟨x, y⟩ := p
    refine fnXT OG0_sound mixed (by kernel_rfl) LoopsOk.noneT (ftimes_x x y) (E := times_f (x, y)) ?_ r h
    intro q hq
    simp only [times_f, overT, timesOk, Tr.is_br, Tr.is_leaf] at hq
    refine wp_chk_true.2 (wp_br.2 ⟨fun h1 => wp_chk_true.2 ?_, fun h1 => wp_chk_true.2 (wp_br.2 ⟨fun h2 => wp_chk_true.2 ?_, fun h2 => ?_⟩)⟩)
    · have h1 : z0W y = true := h1
      rw [h1, Bool.true_or, if_pos rfl] at hq; exact hq
    · have h1 : z0W y = false := h1
      have h2 : eqW (divQ (x.mul y) y) x = true := h2
      rw [h1, h2, Bool.false_or, if_pos rfl] at hq; exact hq
    · have h1 : z0W y = false := h1
      have h2 : eqW (divQ (x.mul y) y) x = false := h2
      rw [h1, h2, Bool.false_or, if_neg (by decide)] at hq; exact hq
theorem plus_ok : ∀ args h r, (ctT readWWf plus_f args h).is r → LFn Pr 95 args h r.1 r.2 := by
  refine ctT_ok (fun p => [p.1.v, p.2.v]) (fun _ => []) ?_ (fun p r h => ?_)
  · intro args h a e
    unfold readWWf at e
    split at e <;> cases e
    exact ⟨rfl, rfl⟩
  · obtain ⟨x, y⟩ := p
    refine fnXT OG0_sound mixed (by kernel_rfl) LoopsOk.noneT (fplus_x x y) (E := plus_f (x, y)) ?_ r h
    intro q hq
    simp only [plus_f, overT, plusOk, Tr.is_br, Tr.is_leaf] at hq
    refine wp_chk_true.2 (wp_br.2 ⟨fun h1 => wp_chk_true.2 ?_, fun h1 => ?_⟩)
    · rw [if_pos h1] at hq; exact hq
    · rw [h1, if_neg (by decide)] at hq; exact hq
def KG1 : KnownT := (96, ctT readWWf times_f) :: (95, ctT readWWf plus_f) :: KG0
theorem KG1_ok : KOkT Pr KG1 := KOkT.cons (Enters.of (fn := Go.Proofs.Try.f96) (by kernel_rfl) (by kernel_rfl)) times_ok (KOkT.cons (Enters.of (fn := Go.Proofs.Try.f95) (by kernel_rfl) (by kernel_rfl)) plus_ok KG0_ok)
def OG1 : OrcT := autoT Pr ext KG1 [] 5
theorem OG1_sound : OrcSound Pr OG1.o := autoT_sound mixed ext_ok KG1_ok (by kernel_rfl) 5
theorem fmost_x (k : Int) (s1 : List (BitVec 8)) (s2 : List (BitVec 8)) (d : List (BitVec 8)) (n : BitVec 64) (g : BitVec 64) (p : W4) (t : W4) (v : W4) : Tr.prune ((Tr.Sh.any.r.both
      Tr.Sh.any.l).both
  Tr.Sh.any.l)
  (execDF Pr OG1 noLoopsT (100 : Nat) Go.Proofs.Try.f53
  [V.agg
      [V.int IntKind.i64 k, V.str s1, V.str s2, V.u64 n, V.u64 g, V.u64 p.a, V.u64 p.b, V.u64 p.c, V.u64 p.d, V.u64 t.a,
        V.u64 t.b, V.u64 t.c, V.u64 t.d, V.u64 v.a, V.u64 v.b, V.u64 v.c, V.u64 v.d, V.str d, V.nilSl]]
  []) =
  Tr.chk true
  (Tr.br (timesOk p (W4.small g))
    (Tr.chk true
      (Tr.br (plusOk (p.mul (W4.small g)) v)
        (Tr.chk true
          (Tr.leaf
            (Fin.ret
                (V.tup
                  [V.agg
                      [V.u64 ((p.mul (W4.small g)).add v).a, V.u64 ((p.mul (W4.small g)).add v).b,
                        V.u64 ((p.mul (W4.small g)).add v).c, V.u64 ((p.mul (W4.small g)).add v).d],
                    V.bool true]),
              [])))
        (Tr.chk true
          (Tr.leaf
            (Fin.ret
                (V.tup
                  [V.agg
                      [V.u64 (BitVec.ofInt (64 : Nat) (0 : Int)), V.u64 (BitVec.ofInt (64 : Nat) (0 : Int)),
                        V.u64 (BitVec.ofInt (64 : Nat) (0 : Int)), V.u64 (BitVec.ofInt (64 : Nat) (0 : Int))],
                    V.bool false]),
              [])))))
    (Tr.chk true
      (Tr.leaf
        (Fin.ret
            (V.tup
              [V.agg
                  [V.u64 (BitVec.ofInt (64 : Nat) (0 : Int)), V.u64 (BitVec.ofInt (64 : Nat) (0 : Int)),
                    V.u64 (BitVec.ofInt (64 : Nat) (0 : Int)), V.u64 (BitVec.ofInt (64 : Nat) (0 : Int))],
                V.bool false]),
          [])))) := by kernel_rfl
end
end Go.Proofs.Ytajbaocfdlopbaa.K
end
