/- The functions that this law reaches: what each comes to. -/
import Derived.Test.YtajbaocfdlopbaaProg
import Derived.Test.YtajbaocfdlopbaaLh5
set_option linter.unusedSimpArgs false
set_option linter.unusedVariables false
section
open Go Go.Lh
namespace Go.Proofs.Ytajbaocfdlopbaa.K
noncomputable section
set_option maxRecDepth 100000
abbrev Pr : Program := Go.Proofs.Try.prog
theorem mixed : Pr.follows .mixedOrders = true := by kernel_rfl
def ext : FuncId → List V → Option (Bool × V) := extL [(82, subX), (84, addX), (114, cntX)]
theorem ext_ok : ExtOk Pr ext :=
  extL_cons (subX_at (fn := Go.Proofs.Try.f82) (by kernel_rfl) (by kernel_rfl) (by kernel_rfl) (by kernel_rfl) (by kernel_rfl))
  (extL_cons (addX_at (fn := Go.Proofs.Try.f84) (by kernel_rfl) (by kernel_rfl) (by kernel_rfl) (by kernel_rfl) (by kernel_rfl))
  (extL_cons (cntX_at (fn := Go.Proofs.Try.f114) (by kernel_rfl) (by kernel_rfl) (by kernel_rfl) (by kernel_rfl) (by kernel_rfl)) extL_nil))
end
end Go.Proofs.Ytajbaocfdlopbaa.K
end
section
open Go Go.Lh
namespace Go.Proofs.Ytajbaocfdlopbaa.K
noncomputable section
set_option maxRecDepth 100000
def OW0 : Orc := auto Pr ext [] [81, 107, 83, 106] 4
theorem OW0_sound : OrcSound Pr OW0 := auto_sound mixed ext_ok KOk.nil (by kernel_rfl) 4
theorem add_x (x : W4) (y : W4) :
  execFD Pr OW0 noLoops [] (100 : Nat) Go.Proofs.Try.f40 [x.v, y.v] [] =
  some
  (decide ((outC x.d y.d (BitVec.ofInt (64 : Nat) (0 : Int))).toNat ≤ (1 : Nat)) && true && true &&
                (decide ((outC x.c y.c (outC x.d y.d (BitVec.ofInt (64 : Nat) (0 : Int)))).toNat ≤ (1 : Nat)) && true &&
                    true &&
                  (decide
                          ((outC x.b y.b (outC x.c y.c (outC x.d y.d (BitVec.ofInt (64 : Nat) (0 : Int))))).toNat ≤
                            (1 : Nat)) &&
                        true &&
                      true &&
                    true)) &&
              true &&
            true &&
          true &&
        true &&
      true,
    Fin.ret
      (V.agg
        [V.u64 (sumC x.a y.a (outC x.b y.b (outC x.c y.c (outC x.d y.d (BitVec.ofInt (64 : Nat) (0 : Int)))))),
          V.u64 (sumC x.b y.b (outC x.c y.c (outC x.d y.d (BitVec.ofInt (64 : Nat) (0 : Int))))),
          V.u64 (sumC x.c y.c (outC x.d y.d (BitVec.ofInt (64 : Nat) (0 : Int)))),
          V.u64 (sumC x.d y.d (BitVec.ofInt (64 : Nat) (0 : Int)))]),
    []) := by kernel_rfl
theorem sub_x (x : W4) (y : W4) :
  execFD Pr OW0 noLoops [] (100 : Nat) Go.Proofs.Try.f39 [x.v, y.v] [] =
  some
  (decide ((outB x.d y.d (BitVec.ofInt (64 : Nat) (0 : Int))).toNat ≤ (1 : Nat)) && true && true &&
                (decide ((outB x.c y.c (outB x.d y.d (BitVec.ofInt (64 : Nat) (0 : Int)))).toNat ≤ (1 : Nat)) && true &&
                    true &&
                  (decide
                          ((outB x.b y.b (outB x.c y.c (outB x.d y.d (BitVec.ofInt (64 : Nat) (0 : Int))))).toNat ≤
                            (1 : Nat)) &&
                        true &&
                      true &&
                    true)) &&
              true &&
            true &&
          true &&
        true &&
      true,
    Fin.ret
      (V.agg
        [V.u64 (difB x.a y.a (outB x.b y.b (outB x.c y.c (outB x.d y.d (BitVec.ofInt (64 : Nat) (0 : Int)))))),
          V.u64 (difB x.b y.b (outB x.c y.c (outB x.d y.d (BitVec.ofInt (64 : Nat) (0 : Int))))),
          V.u64 (difB x.c y.c (outB x.d y.d (BitVec.ofInt (64 : Nat) (0 : Int)))),
          V.u64 (difB x.d y.d (BitVec.ofInt (64 : Nat) (0 : Int)))]),
    []) := by kernel_rfl
theorem less_x (x : W4) (y : W4) :
  execFD Pr OW0 noLoops [] (100 : Nat) Go.Proofs.Try.f38 [x.v, y.v] [] =
  some
  (decide ((outB x.d y.d (BitVec.ofInt (64 : Nat) (0 : Int))).toNat ≤ (1 : Nat)) && true && true &&
          (decide ((outB x.c y.c (outB x.d y.d (BitVec.ofInt (64 : Nat) (0 : Int)))).toNat ≤ (1 : Nat)) && true &&
              true &&
            (decide
                    ((outB x.b y.b (outB x.c y.c (outB x.d y.d (BitVec.ofInt (64 : Nat) (0 : Int))))).toNat ≤
                      (1 : Nat)) &&
                  true &&
                true &&
              true)) &&
        true &&
      true,
    Fin.ret
      (V.bool
        (outB x.a y.a (outB x.b y.b (outB x.c y.c (outB x.d y.d (BitVec.ofInt (64 : Nat) (0 : Int))))) ==
          BitVec.ofInt (64 : Nat) (1 : Int))),
    []) := by kernel_rfl
theorem mul64_x (x : BitVec 64) (y : BitVec 64) :
  execFD Pr OW0 noLoops [] (100 : Nat) Go.Proofs.Try.f106 [V.u64 x, V.u64 y] [] =
  some
  (true,
    Fin.ret
      (V.tup
        [V.u64
            (x >>> (32 : Nat) * y >>> (32 : Nat) +
                (x >>> (32 : Nat) * (y &&& BitVec.ofInt (64 : Nat) (4294967295 : Int)) +
                    ((x &&& BitVec.ofInt (64 : Nat) (4294967295 : Int)) *
                        (y &&& BitVec.ofInt (64 : Nat) (4294967295 : Int))) >>>
                      (32 : Nat)) >>>
                  (32 : Nat) +
              ((x >>> (32 : Nat) * (y &&& BitVec.ofInt (64 : Nat) (4294967295 : Int)) +
                      ((x &&& BitVec.ofInt (64 : Nat) (4294967295 : Int)) *
                          (y &&& BitVec.ofInt (64 : Nat) (4294967295 : Int))) >>>
                        (32 : Nat) &&&
                    BitVec.ofInt (64 : Nat) (4294967295 : Int)) +
                  (x &&& BitVec.ofInt (64 : Nat) (4294967295 : Int)) * y >>> (32 : Nat)) >>>
                (32 : Nat)),
          V.u64 (x * y)]),
    []) := by kernel_rfl
theorem c0 : (BitVec.ofInt 64 0).toNat ≤ 1 := by decide
theorem add_fn (x y : W4) : LFn Pr 40 [x.v, y.v] [] (.ret (W4.add x y).v) [] := by
  refine execFD_sound (fn := Go.Proofs.Try.f40) OW0_sound mixed (by kernel_rfl) (fun _ _ _ _ => LoopOk.none) ((add_x x y).trans (stF ?_ ?_ rfl))
  · have l1 := outC_le x.d y.d _ c0
    have l2 := outC_le x.c y.c _ l1
    have l3 := outC_le x.b y.b _ l2
    simp only [decide_eq_true l1, decide_eq_true l2, decide_eq_true l3, Bool.and_true]
  · rw [← W4.addP_eq]; rfl
theorem sub_fn (x y : W4) : LFn Pr 39 [x.v, y.v] [] (.ret (W4.sub x y).v) [] := by
  refine execFD_sound (fn := Go.Proofs.Try.f39) OW0_sound mixed (by kernel_rfl) (fun _ _ _ _ => LoopOk.none) ((sub_x x y).trans (stF ?_ ?_ rfl))
  · have l1 := outB_le x.d y.d _ c0
    have l2 := outB_le x.c y.c _ l1
    have l3 := outB_le x.b y.b _ l2
    simp only [decide_eq_true l1, decide_eq_true l2, decide_eq_true l3, Bool.and_true]
  · rw [← W4.subP_eq]; rfl
theorem less_fn (x y : W4) : LFn Pr 38 [x.v, y.v] [] (.ret (.bool (W4.lt x y))) [] := by
  refine execFD_sound (fn := Go.Proofs.Try.f38) OW0_sound mixed (by kernel_rfl) (fun _ _ _ _ => LoopOk.none) ((less_x x y).trans (stF ?_ ?_ rfl))
  · have l1 := outB_le x.d y.d _ c0
    have l2 := outB_le x.c y.c _ l1
    have l3 := outB_le x.b y.b _ l2
    simp only [decide_eq_true l1, decide_eq_true l2, decide_eq_true l3, Bool.and_true]
  · rw [← W4.ltP_eq]; rfl
theorem mul64_fn (x y : BitVec 64) : LFn Pr 106 [.u64 x, .u64 y] [] (.ret (.tup [.u64 (mulHi x y), .u64 (x * y)])) [] :=
  execFD_sound (fn := Go.Proofs.Try.f106) OW0_sound mixed (by kernel_rfl) (fun _ _ _ _ => LoopOk.none) ((mul64_x x y).trans (stF rfl rfl rfl))
theorem mul64_en : Enters Pr 106 := Enters.of (fn := Go.Proofs.Try.f106) (by kernel_rfl) (by kernel_rfl)
def mul64_g := ctUU (fun x y => .tup [.u64 (mulHi x y), .u64 (x * y)])
def OW1 : Orc := auto Pr ext [(106, mul64_g)] [81, 107] 3
theorem OW1_sound : OrcSound Pr OW1 := auto_sound mixed ext_ok (KOk.cons mul64_en (ctUU_ok mul64_fn) KOk.nil) (by kernel_rfl) 3
theorem mul_x (x y : W4) : execFD Pr OW1 noLoops [] 100 Go.Proofs.Try.f64 [x.v, y.v] [] = some (true, .ret (W4.mulP x y).v, []) := by kernel_rfl
theorem mul_fn (x y : W4) : LFn Pr 64 [x.v, y.v] [] (.ret (W4.mul x y).v) [] := by
  rw [← W4.mulP_eq]
  exact execFD_sound (fn := Go.Proofs.Try.f64) OW1_sound mixed (by kernel_rfl) (fun _ _ _ _ => LoopOk.none) (mul_x x y)
end
end Go.Proofs.Ytajbaocfdlopbaa.K
end
section
open Go Go.Lh
namespace Go.Proofs.Ytajbaocfdlopbaa.K
noncomputable section
set_option maxRecDepth 100000
def iAdd (i : Int) : Nat → Int
  | 0 => i
  | n + 1 => i + ((n + 1 : Nat) : Int)
theorem iAdd_eq (i : Int) (n : Nat) : iAdd i n = i + n := by cases n <;> simp [iAdd]
structure MV where
  ls : List (BitVec 64)
  os : List (BitVec 64)
  xs : List (BitVec 64)
  n : Int
  i : Int
/-- part k, of what is moved left by r -/
def lPart (ls : List (BitVec 64)) (r k : Nat) : BitVec 64 := if 0 < r ∧ 0 < k then ls.getD k 0 <<< r ||| ls.getD (k - 1) 0 >>> (64 - r) else ls.getD k 0 <<< r
def leftN (ls os : List (BitVec 64)) (q r : Nat) : Nat → List (BitVec 64)
  | 0 => os
  | n + 1 => (leftN ls os q r n).set (q + n) (lPart ls r n)
theorem leftN_length (ls os : List (BitVec 64)) (q r : Nat) : ∀ n, (leftN ls os q r n).length = os.length
  | 0 => rfl
  | n + 1 => by simp [leftN, leftN_length ls os q r n]
def rPart (ls : List (BitVec 64)) (q r j : Nat) : BitVec 64 := if 0 < r ∧ j + q + 1 < 4 then ls.getD (j + q) 0 >>> r ||| ls.getD (j + q + 1) 0 <<< (64 - r) else ls.getD (j + q) 0 >>> r
def rightN (ls os : List (BitVec 64)) (q r : Nat) : Nat → List (BitVec 64)
  | 0 => os
  | n + 1 => (rightN ls os q r n).set n (rPart ls q r n)
theorem rightN_length (ls os : List (BitVec 64)) (q r : Nat) : ∀ n, (rightN ls os q r n).length = os.length
  | 0 => rfl
  | n + 1 => by simp [rightN, rightN_length ls os q r n]
theorem getD_set_self (xs : List (BitVec 64)) (i : Nat) (v : BitVec 64) (h : i < xs.length) : (xs.set i v).getD i 0 = v := by
  rw [List.getD_eq_getElem?_getD, List.getElem?_set_self h]; rfl
theorem leftA (ls : List (BitVec 64)) (os : List (BitVec 64)) (xs : List (BitVec 64)) (n : Int) (i : Int) :
  execN Pr (withAsm noOrc [((13 : Nat), true), ((30 : Nat), true), ((33 : Nat), true)]) noLoops [] (100 : Nat) (0 : Nat)
  [(1 : Nat), (4 : Nat), (5 : Nat), (6 : Nat), (7 : Nat)] (loopBody Go.Proofs.Try.f104 (0 : Nat))
  [((1 : Nat), V.int IntKind.i64 n), ((4 : Nat), V.ptr (0 : Nat) (0 : Nat)), ((5 : Nat), V.ptr (1 : Nat) (0 : Nat)),
    ((6 : Nat), V.ptr (2 : Nat) (0 : Nat)), ((7 : Nat), V.int IntKind.i64 i)]
  [Blk.b64 xs, Blk.b64 ls, Blk.b64 os] =
  some
  (decide (i < (4 : Int)) && true && true &&
      (decide ((0 : Int) ≤ wrapI IntKind.i64 (i - wrapI IntKind.i64 (n.tdiv (64 : Int)))) &&
              decide (wrapI IntKind.i64 (i - wrapI IntKind.i64 (n.tdiv (64 : Int))) < (4 : Int)) &&
            (decide
                ((0 : Nat) + (wrapI IntKind.i64 (i - wrapI IntKind.i64 (n.tdiv (64 : Int)))).toNat * (1 : Nat) <
                  ls.length) &&
              (decide ((0 : Int) ≤ n.tmod (64 : Int)) &&
                (decide ((0 : Int) ≤ i) && decide (i < (4 : Int)) &&
                  (decide ((0 : Nat) + i.toNat * (1 : Nat) + (1 : Nat) ≤ os.length) && true)))) &&
          (decide (n.tmod (64 : Int) > (0 : Int)) &&
              (decide (wrapI IntKind.i64 (i - wrapI IntKind.i64 (n.tdiv (64 : Int))) > (0 : Int)) && true) &&
            (decide ((0 : Int) ≤ i) && decide (i < (4 : Int)) &&
              (decide
                  ((0 : Nat) + i.toNat * (1 : Nat) <
                    (os.set ((0 : Nat) + i.toNat * (1 : Nat))
                        (ls.getD
                            ((0 : Nat) +
                              (wrapI IntKind.i64 (i - wrapI IntKind.i64 (n.tdiv (64 : Int)))).toNat * (1 : Nat))
                            (OfNat.ofNat (0 : Nat)) <<<
                          (n.tmod (64 : Int)).toNat)).length) &&
                (decide
                      ((0 : Int) ≤
                        wrapI IntKind.i64
                          (wrapI IntKind.i64 (i - wrapI IntKind.i64 (n.tdiv (64 : Int))) - (1 : Int))) &&
                    decide
                      (wrapI IntKind.i64 (wrapI IntKind.i64 (i - wrapI IntKind.i64 (n.tdiv (64 : Int))) - (1 : Int)) <
                        (4 : Int)) &&
                  (decide
                      ((0 : Nat) +
                          (wrapI IntKind.i64
                                (wrapI IntKind.i64 (i - wrapI IntKind.i64 (n.tdiv (64 : Int))) - (1 : Int))).toNat *
                            (1 : Nat) <
                        ls.length) &&
                    (decide ((0 : Int) ≤ wrapI IntKind.i64 ((64 : Int) - n.tmod (64 : Int))) &&
                      (decide ((0 : Int) ≤ i) && decide (i < (4 : Int)) &&
                        (decide
                            ((0 : Nat) + i.toNat * (1 : Nat) + (1 : Nat) ≤
                              (os.set ((0 : Nat) + i.toNat * (1 : Nat))
                                  (ls.getD
                                      ((0 : Nat) +
                                        (wrapI IntKind.i64 (i - wrapI IntKind.i64 (n.tdiv (64 : Int)))).toNat *
                                          (1 : Nat))
                                      (OfNat.ofNat (0 : Nat)) <<<
                                    (n.tmod (64 : Int)).toNat)).length) &&
                          true)))))))) &&
        true),
    X.normal,
    [((1 : Nat), V.int IntKind.i64 n), ((4 : Nat), V.ptr (0 : Nat) (0 : Nat)), ((5 : Nat), V.ptr (1 : Nat) (0 : Nat)),
      ((6 : Nat), V.ptr (2 : Nat) (0 : Nat)), ((7 : Nat), V.int IntKind.i64 (wrapI IntKind.i64 (i + (1 : Int))))],
    [Blk.b64 xs, Blk.b64 ls,
      Blk.b64
        ((os.set ((0 : Nat) + i.toNat * (1 : Nat))
              (ls.getD ((0 : Nat) + (wrapI IntKind.i64 (i - wrapI IntKind.i64 (n.tdiv (64 : Int)))).toNat * (1 : Nat))
                  (OfNat.ofNat (0 : Nat)) <<<
                (n.tmod (64 : Int)).toNat)).set
          ((0 : Nat) + i.toNat * (1 : Nat))
          ((os.set ((0 : Nat) + i.toNat * (1 : Nat))
                  (ls.getD
                      ((0 : Nat) + (wrapI IntKind.i64 (i - wrapI IntKind.i64 (n.tdiv (64 : Int)))).toNat * (1 : Nat))
                      (OfNat.ofNat (0 : Nat)) <<<
                    (n.tmod (64 : Int)).toNat)).getD
              ((0 : Nat) + i.toNat * (1 : Nat)) (OfNat.ofNat (0 : Nat)) |||
            ls.getD
                ((0 : Nat) +
                  (wrapI IntKind.i64
                        (wrapI IntKind.i64 (i - wrapI IntKind.i64 (n.tdiv (64 : Int))) - (1 : Int))).toNat *
                    (1 : Nat))
                (OfNat.ofNat (0 : Nat)) >>>
              (wrapI IntKind.i64 ((64 : Int) - n.tmod (64 : Int))).toNat))]) := by kernel_rfl
theorem leftB (ls : List (BitVec 64)) (os : List (BitVec 64)) (xs : List (BitVec 64)) (n : Int) (i : Int) :
  execN Pr (withAsm noOrc [((13 : Nat), true), ((30 : Nat), true), ((33 : Nat), false)]) noLoops [] (100 : Nat)
  (0 : Nat) [(1 : Nat), (4 : Nat), (5 : Nat), (6 : Nat), (7 : Nat)] (loopBody Go.Proofs.Try.f104 (0 : Nat))
  [((1 : Nat), V.int IntKind.i64 n), ((4 : Nat), V.ptr (0 : Nat) (0 : Nat)), ((5 : Nat), V.ptr (1 : Nat) (0 : Nat)),
    ((6 : Nat), V.ptr (2 : Nat) (0 : Nat)), ((7 : Nat), V.int IntKind.i64 i)]
  [Blk.b64 xs, Blk.b64 ls, Blk.b64 os] =
  some
  (decide (i < (4 : Int)) && true && true &&
      (decide ((0 : Int) ≤ wrapI IntKind.i64 (i - wrapI IntKind.i64 (n.tdiv (64 : Int)))) &&
              decide (wrapI IntKind.i64 (i - wrapI IntKind.i64 (n.tdiv (64 : Int))) < (4 : Int)) &&
            (decide
                ((0 : Nat) + (wrapI IntKind.i64 (i - wrapI IntKind.i64 (n.tdiv (64 : Int)))).toNat * (1 : Nat) <
                  ls.length) &&
              (decide ((0 : Int) ≤ n.tmod (64 : Int)) &&
                (decide ((0 : Int) ≤ i) && decide (i < (4 : Int)) &&
                  (decide ((0 : Nat) + i.toNat * (1 : Nat) + (1 : Nat) ≤ os.length) && true)))) &&
          (decide (n.tmod (64 : Int) > (0 : Int)) &&
              (!decide (wrapI IntKind.i64 (i - wrapI IntKind.i64 (n.tdiv (64 : Int))) > (0 : Int)) && true) &&
            true) &&
        true),
    X.normal,
    [((1 : Nat), V.int IntKind.i64 n), ((4 : Nat), V.ptr (0 : Nat) (0 : Nat)), ((5 : Nat), V.ptr (1 : Nat) (0 : Nat)),
      ((6 : Nat), V.ptr (2 : Nat) (0 : Nat)), ((7 : Nat), V.int IntKind.i64 (wrapI IntKind.i64 (i + (1 : Int))))],
    [Blk.b64 xs, Blk.b64 ls,
      Blk.b64
        (os.set ((0 : Nat) + i.toNat * (1 : Nat))
          (ls.getD ((0 : Nat) + (wrapI IntKind.i64 (i - wrapI IntKind.i64 (n.tdiv (64 : Int)))).toNat * (1 : Nat))
              (OfNat.ofNat (0 : Nat)) <<<
            (n.tmod (64 : Int)).toNat))]) := by kernel_rfl
theorem leftC (ls : List (BitVec 64)) (os : List (BitVec 64)) (xs : List (BitVec 64)) (n : Int) (i : Int) :
  execN Pr (withAsm noOrc [((13 : Nat), true), ((30 : Nat), false)]) noLoops [] (100 : Nat) (0 : Nat)
  [(1 : Nat), (4 : Nat), (5 : Nat), (6 : Nat), (7 : Nat)] (loopBody Go.Proofs.Try.f104 (0 : Nat))
  [((1 : Nat), V.int IntKind.i64 n), ((4 : Nat), V.ptr (0 : Nat) (0 : Nat)), ((5 : Nat), V.ptr (1 : Nat) (0 : Nat)),
    ((6 : Nat), V.ptr (2 : Nat) (0 : Nat)), ((7 : Nat), V.int IntKind.i64 i)]
  [Blk.b64 xs, Blk.b64 ls, Blk.b64 os] =
  some
  (decide (i < (4 : Int)) && true && true &&
      (decide ((0 : Int) ≤ wrapI IntKind.i64 (i - wrapI IntKind.i64 (n.tdiv (64 : Int)))) &&
              decide (wrapI IntKind.i64 (i - wrapI IntKind.i64 (n.tdiv (64 : Int))) < (4 : Int)) &&
            (decide
                ((0 : Nat) + (wrapI IntKind.i64 (i - wrapI IntKind.i64 (n.tdiv (64 : Int)))).toNat * (1 : Nat) <
                  ls.length) &&
              (decide ((0 : Int) ≤ n.tmod (64 : Int)) &&
                (decide ((0 : Int) ≤ i) && decide (i < (4 : Int)) &&
                  (decide ((0 : Nat) + i.toNat * (1 : Nat) + (1 : Nat) ≤ os.length) && true)))) &&
          (!decide (n.tmod (64 : Int) > (0 : Int)) && true && true) &&
        true),
    X.normal,
    [((1 : Nat), V.int IntKind.i64 n), ((4 : Nat), V.ptr (0 : Nat) (0 : Nat)), ((5 : Nat), V.ptr (1 : Nat) (0 : Nat)),
      ((6 : Nat), V.ptr (2 : Nat) (0 : Nat)), ((7 : Nat), V.int IntKind.i64 (wrapI IntKind.i64 (i + (1 : Int))))],
    [Blk.b64 xs, Blk.b64 ls,
      Blk.b64
        (os.set ((0 : Nat) + i.toNat * (1 : Nat))
          (ls.getD ((0 : Nat) + (wrapI IntKind.i64 (i - wrapI IntKind.i64 (n.tdiv (64 : Int)))).toNat * (1 : Nat))
              (OfNat.ofNat (0 : Nat)) <<<
            (n.tmod (64 : Int)).toNat))]) := by kernel_rfl
theorem leftZ (ls : List (BitVec 64)) (os : List (BitVec 64)) (xs : List (BitVec 64)) (n : Int) (i : Int) :
  execN Pr (withAsm noOrc [((13 : Nat), false)]) noLoops [] (100 : Nat) (0 : Nat) [(4 : Nat), (6 : Nat)]
  (loopBody Go.Proofs.Try.f104 (0 : Nat))
  [((1 : Nat), V.int IntKind.i64 n), ((4 : Nat), V.ptr (0 : Nat) (0 : Nat)), ((5 : Nat), V.ptr (1 : Nat) (0 : Nat)),
    ((6 : Nat), V.ptr (2 : Nat) (0 : Nat)), ((7 : Nat), V.int IntKind.i64 i)]
  [Blk.b64 xs, Blk.b64 ls, Blk.b64 os] =
  some
  (!decide (i < (4 : Int)) && true && true, X.exit (0 : Nat),
    [((4 : Nat), V.ptr (0 : Nat) (0 : Nat)), ((6 : Nat), V.ptr (1 : Nat) (0 : Nat))],
    [Blk.b64 xs, Blk.b64 os]) := by kernel_rfl

def left_S : MV → Nat → Fr × Heap := fun a j => ([(1,.int .i64 a.n),(4,.ptr 0 0),(5,.ptr 1 0),(6,.ptr 2 0),(7,.int .i64 (iAdd a.i j))], [.b64 a.xs, .b64 a.ls, .b64 (leftN a.ls a.os (a.n.toNat / 64) (a.n.toNat % 64) j)])
def left_read : Fr → Heap → Option MV := fun f h => match f, h with
  | [(1,.int .i64 n),(4,.ptr 0 0),(5,.ptr 1 0),(6,.ptr 2 0),(7,.int .i64 i)], [.b64 xs, .b64 ls, .b64 os] => some ⟨ls, os, xs, n, i⟩
  | _, _ => none
def left_ok : MV → Bool := fun a => decide (a.ls.length = 4) && decide (a.os.length = 4) && decide (0 ≤ a.n) && decide (a.n < 256) && decide (a.i = ((a.n.toNat / 64 : Nat) : Int))
def left_E : MV → X × Fr × Heap := fun a => (.exit 0, [(4,.ptr 0 0),(6,.ptr 1 0)], [.b64 a.xs, .b64 (leftN a.ls a.os (a.n.toNat / 64) (a.n.toNat % 64) (4 - a.n.toNat / 64))])
def left_k : Nat := 0
def left_s : Sm := whS 4 [1,4,5,6,7] left_read left_ok left_E
theorem left_at : SmAt Pr Go.Proofs.Try.f104 0 left_s left_k := by
  refine cnt_at left_S (fun a => 4 - a.n.toNat / 64) (by kernel_rfl) (by kernel_rfl) ?_ ?_ ?_ ?_
  · intro f g a h
    unfold left_read at h
    split at h <;> cases h
    rfl
  · intro a h; cases h
  · intro a hok j hj
    simp only [left_ok, Bool.and_eq_true, decide_eq_true_eq] at hok
    obtain ⟨⟨⟨⟨h1, h2⟩, h3⟩, h4⟩, h5⟩ := hok
    obtain ⟨q, hq⟩ : ∃ q, a.n.toNat / 64 = q := ⟨_, rfl⟩
    obtain ⟨r, hr⟩ : ∃ r, a.n.toNat % 64 = r := ⟨_, rfl⟩
    have hq4 : q < 4 := by omega
    have hr4 : r < 64 := by omega
    have en : a.n = ((a.n.toNat : Nat) : Int) := by omega
    have ed : wrapI .i64 (a.n.tdiv 64) = (q : Int) := by rw [en, tdiv_lit, wrapI_nat (by omega)]; exact congrArg _ hq
    have er : a.n.tmod 64 = (r : Int) := by rw [en, tmod_lit]; exact congrArg _ hr
    have e64 : wrapI .i64 ((64 : Int) - (r : Int)) = ((64 - r : Nat) : Int) := by rw [lit_sub _ _ (by omega), wrapI_nat (by omega)]
    have hl := leftN_length a.ls a.os (a.n.toNat / 64) (a.n.toNat % 64) j
    have hlt : q + j < (leftN a.ls a.os (a.n.toNat / 64) (a.n.toNat % 64) j).length := by omega
    rw [hq] at hj h5
    have ei : iAdd a.i j = ((q + j : Nat) : Int) := by rw [iAdd_eq, h5]; omega
    have ek : wrapI .i64 (((q + j : Nat) : Int) - wrapI .i64 (a.n.tdiv 64)) = ((j : Nat) : Int) := by rw [ed, show ((q + j : Nat) : Int) - (q : Int) = ((j : Nat) : Int) by omega, wrapI_nat (by omega)]
    have ez : wrapI .i64 (((q + j : Nat) : Int) + 1) = iAdd a.i (j + 1) := by rw [add_lit, wrapI_nat (by omega), iAdd_eq, h5]; omega
    by_cases hc : 0 < r ∧ 0 < j
    · refine execN_sound (withAsm_sound (noOrc_sound _)) mixed (LoopsOk.innerAt (LoopsOk.none (P := Pr) (fn := Go.Proofs.Try.f104) (n0 := 0)) 0) (by kernel_rfl) (by intro v h; cases h) ((leftA a.ls (leftN a.ls a.os (a.n.toNat / 64) (a.n.toNat % 64) j) a.xs a.n (iAdd a.i j)).trans ?_)
      have es : wrapI .i64 (((j : Nat) : Int) - 1) = ((j - 1 : Nat) : Int) := by rw [show ((j : Nat) : Int) - 1 = ((j - 1 : Nat) : Int) by omega, wrapI_nat (by omega)]
      refine stX ?_ ?_ ?_
      · simp only [ei, ek, er, e64, es, getD_set_self _ _ _ hlt, List.set_set, List.length_set, Int.toNat_natCast, Nat.mul_one, Nat.zero_add]
        simp only [Bool.and_eq_true, Bool.and_true, Bool.true_and, decide_eq_true_eq, Bool.not_eq_true', decide_eq_false_iff_not]
        (repeat' apply And.intro) <;> first | omega | exact True.intro
      · rw [ei, ez]; rfl
      · simp only [ei, ek, er, e64, es, getD_set_self _ _ _ hlt, List.set_set, List.length_set, Int.toNat_natCast, Nat.mul_one, Nat.zero_add]
        show _ = [Blk.b64 a.xs, Blk.b64 a.ls, Blk.b64 (leftN a.ls a.os (a.n.toNat / 64) (a.n.toNat % 64) (j + 1))]
        rw [leftN]; simp only [hq, hr, lPart, hc, and_self, if_true]
    · by_cases hr0 : 0 < r
      · refine execN_sound (withAsm_sound (noOrc_sound _)) mixed (LoopsOk.innerAt (LoopsOk.none (P := Pr) (fn := Go.Proofs.Try.f104) (n0 := 0)) 0) (by kernel_rfl) (by intro v h; cases h) ((leftB a.ls (leftN a.ls a.os (a.n.toNat / 64) (a.n.toNat % 64) j) a.xs a.n (iAdd a.i j)).trans ?_)
        refine stX ?_ ?_ ?_
        · simp only [ei, ek, er, e64, getD_set_self _ _ _ hlt, List.set_set, List.length_set, Int.toNat_natCast, Nat.mul_one, Nat.zero_add]
          simp only [Bool.and_eq_true, Bool.and_true, Bool.true_and, decide_eq_true_eq, Bool.not_eq_true', decide_eq_false_iff_not]
          (repeat' apply And.intro) <;> first | omega | exact True.intro
        · rw [ei, ez]; rfl
        · simp only [ei, ek, er, e64, getD_set_self _ _ _ hlt, List.set_set, List.length_set, Int.toNat_natCast, Nat.mul_one, Nat.zero_add]
          show _ = [Blk.b64 a.xs, Blk.b64 a.ls, Blk.b64 (leftN a.ls a.os (a.n.toNat / 64) (a.n.toNat % 64) (j + 1))]
          rw [leftN]; simp only [hq, hr, lPart, hc, if_false]
      · refine execN_sound (withAsm_sound (noOrc_sound _)) mixed (LoopsOk.innerAt (LoopsOk.none (P := Pr) (fn := Go.Proofs.Try.f104) (n0 := 0)) 0) (by kernel_rfl) (by intro v h; cases h) ((leftC a.ls (leftN a.ls a.os (a.n.toNat / 64) (a.n.toNat % 64) j) a.xs a.n (iAdd a.i j)).trans ?_)
        refine stX ?_ ?_ ?_
        · simp only [ei, ek, er, e64, getD_set_self _ _ _ hlt, List.set_set, List.length_set, Int.toNat_natCast, Nat.mul_one, Nat.zero_add]
          simp only [Bool.and_eq_true, Bool.and_true, Bool.true_and, decide_eq_true_eq, Bool.not_eq_true', decide_eq_false_iff_not]
          (repeat' apply And.intro) <;> first | omega | exact True.intro
        · rw [ei, ez]; rfl
        · simp only [ei, ek, er, e64, getD_set_self _ _ _ hlt, List.set_set, List.length_set, Int.toNat_natCast, Nat.mul_one, Nat.zero_add]
          show _ = [Blk.b64 a.xs, Blk.b64 a.ls, Blk.b64 (leftN a.ls a.os (a.n.toNat / 64) (a.n.toNat % 64) (j + 1))]
          rw [leftN]; simp only [hq, hr, lPart, hc, if_false]
  · intro a hok
    simp only [left_ok, Bool.and_eq_true, decide_eq_true_eq] at hok
    obtain ⟨⟨⟨⟨h1, h2⟩, h3⟩, h4⟩, h5⟩ := hok
    refine execN_sound (withAsm_sound (noOrc_sound _)) mixed (LoopsOk.innerAt (LoopsOk.none (P := Pr) (fn := Go.Proofs.Try.f104) (n0 := 0)) 0) (by kernel_rfl) (by intro v h; cases h) ((leftZ a.ls (leftN a.ls a.os (a.n.toNat / 64) (a.n.toNat % 64) (4 - a.n.toNat / 64)) a.xs a.n (iAdd a.i (4 - a.n.toNat / 64))).trans ?_)
    refine stX ?_ rfl rfl
    rw [iAdd_eq, h5]
    simp only [Bool.and_true, Bool.not_eq_true', decide_eq_false_iff_not]
    omega
theorem left_x (x : W4) (n : Int) :
  execF Pr (auto Pr ext [] [(81 : FuncId), (107 : FuncId)] (3 : Nat)) (smL (0 : Nat) [left_s]) (100 : Nat)
  Go.Proofs.Try.f104 [x.v, V.int IntKind.i64 n] [] =
  some
  (left_ok
          (MV.mk [x.d, x.c, x.b, x.a]
            [BitVec.ofInt (64 : Nat) (0 : Int), BitVec.ofInt (64 : Nat) (0 : Int), BitVec.ofInt (64 : Nat) (0 : Int),
              BitVec.ofInt (64 : Nat) (0 : Int)]
            [BitVec.ofInt (64 : Nat) (0 : Int), BitVec.ofInt (64 : Nat) (0 : Int), BitVec.ofInt (64 : Nat) (0 : Int),
              BitVec.ofInt (64 : Nat) (0 : Int)]
            n (wrapI IntKind.i64 (n.tdiv (64 : Int)))) &&
        (decide
              ((4 : Nat) ≤
                (leftN [x.d, x.c, x.b, x.a]
                    [BitVec.ofInt (64 : Nat) (0 : Int), BitVec.ofInt (64 : Nat) (0 : Int),
                      BitVec.ofInt (64 : Nat) (0 : Int), BitVec.ofInt (64 : Nat) (0 : Int)]
                    (n.toNat / (64 : Nat)) (n.toNat % (64 : Nat)) ((4 : Nat) - n.toNat / (64 : Nat))).length) &&
            true &&
          true) &&
      true,
    Fin.ret
      (V.agg
        [V.u64
            ((leftN [x.d, x.c, x.b, x.a]
                  [BitVec.ofInt (64 : Nat) (0 : Int), BitVec.ofInt (64 : Nat) (0 : Int),
                    BitVec.ofInt (64 : Nat) (0 : Int), BitVec.ofInt (64 : Nat) (0 : Int)]
                  (n.toNat / (64 : Nat)) (n.toNat % (64 : Nat)) ((4 : Nat) - n.toNat / (64 : Nat))).getD
              (3 : Nat) (OfNat.ofNat (0 : Nat))),
          V.u64
            ((leftN [x.d, x.c, x.b, x.a]
                  [BitVec.ofInt (64 : Nat) (0 : Int), BitVec.ofInt (64 : Nat) (0 : Int),
                    BitVec.ofInt (64 : Nat) (0 : Int), BitVec.ofInt (64 : Nat) (0 : Int)]
                  (n.toNat / (64 : Nat)) (n.toNat % (64 : Nat)) ((4 : Nat) - n.toNat / (64 : Nat))).getD
              (2 : Nat) (OfNat.ofNat (0 : Nat))),
          V.u64
            ((leftN [x.d, x.c, x.b, x.a]
                  [BitVec.ofInt (64 : Nat) (0 : Int), BitVec.ofInt (64 : Nat) (0 : Int),
                    BitVec.ofInt (64 : Nat) (0 : Int), BitVec.ofInt (64 : Nat) (0 : Int)]
                  (n.toNat / (64 : Nat)) (n.toNat % (64 : Nat)) ((4 : Nat) - n.toNat / (64 : Nat))).getD
              (1 : Nat) (OfNat.ofNat (0 : Nat))),
          V.u64
            ((leftN [x.d, x.c, x.b, x.a]
                  [BitVec.ofInt (64 : Nat) (0 : Int), BitVec.ofInt (64 : Nat) (0 : Int),
                    BitVec.ofInt (64 : Nat) (0 : Int), BitVec.ofInt (64 : Nat) (0 : Int)]
                  (n.toNat / (64 : Nat)) (n.toNat % (64 : Nat)) ((4 : Nat) - n.toNat / (64 : Nat))).getD
              (0 : Nat) (OfNat.ofNat (0 : Nat)))]),
    []) := by kernel_rfl
theorem rightA (ls : List (BitVec 64)) (os : List (BitVec 64)) (xs : List (BitVec 64)) (n : Int) (i : Int) (k : Int) :
  execN Pr (withAsm noOrc [((14 : Nat), true), ((30 : Nat), true), ((34 : Nat), true)]) noLoops [] (100 : Nat) (0 : Nat)
  [(1 : Nat), (4 : Nat), (5 : Nat), (6 : Nat), (13 : Nat), (14 : Nat)] (loopBody Go.Proofs.Try.f105 (0 : Nat))
  [((1 : Nat), V.int IntKind.i64 n), ((4 : Nat), V.ptr (0 : Nat) (0 : Nat)), ((5 : Nat), V.ptr (1 : Nat) (0 : Nat)),
    ((6 : Nat), V.ptr (2 : Nat) (0 : Nat)), ((13 : Nat), V.int IntKind.i64 i), ((14 : Nat), V.int IntKind.i64 k)]
  [Blk.b64 xs, Blk.b64 ls, Blk.b64 os] =
  some
  (decide (k < i) && true &&
      (decide ((0 : Int) ≤ wrapI IntKind.i64 (k + wrapI IntKind.i64 (n.tdiv (64 : Int)))) &&
              decide (wrapI IntKind.i64 (k + wrapI IntKind.i64 (n.tdiv (64 : Int))) < (4 : Int)) &&
            (decide
                ((0 : Nat) + (wrapI IntKind.i64 (k + wrapI IntKind.i64 (n.tdiv (64 : Int)))).toNat * (1 : Nat) <
                  ls.length) &&
              (decide ((0 : Int) ≤ n.tmod (64 : Int)) &&
                (decide ((0 : Int) ≤ k) && decide (k < (4 : Int)) &&
                  (decide ((0 : Nat) + k.toNat * (1 : Nat) + (1 : Nat) ≤ os.length) && true)))) &&
          (decide (n.tmod (64 : Int) > (0 : Int)) &&
              (decide
                  (wrapI IntKind.i64 (wrapI IntKind.i64 (k + wrapI IntKind.i64 (n.tdiv (64 : Int))) + (1 : Int)) <
                    (4 : Int)) &&
                true) &&
            (decide ((0 : Int) ≤ k) && decide (k < (4 : Int)) &&
              (decide
                  ((0 : Nat) + k.toNat * (1 : Nat) <
                    (os.set ((0 : Nat) + k.toNat * (1 : Nat))
                        (ls.getD
                            ((0 : Nat) +
                              (wrapI IntKind.i64 (k + wrapI IntKind.i64 (n.tdiv (64 : Int)))).toNat * (1 : Nat))
                            (OfNat.ofNat (0 : Nat)) >>>
                          (n.tmod (64 : Int)).toNat)).length) &&
                (decide
                      ((0 : Int) ≤
                        wrapI IntKind.i64
                          (wrapI IntKind.i64 (k + wrapI IntKind.i64 (n.tdiv (64 : Int))) + (1 : Int))) &&
                    decide
                      (wrapI IntKind.i64 (wrapI IntKind.i64 (k + wrapI IntKind.i64 (n.tdiv (64 : Int))) + (1 : Int)) <
                        (4 : Int)) &&
                  (decide
                      ((0 : Nat) +
                          (wrapI IntKind.i64
                                (wrapI IntKind.i64 (k + wrapI IntKind.i64 (n.tdiv (64 : Int))) + (1 : Int))).toNat *
                            (1 : Nat) <
                        ls.length) &&
                    (decide ((0 : Int) ≤ wrapI IntKind.i64 ((64 : Int) - n.tmod (64 : Int))) &&
                      (decide ((0 : Int) ≤ k) && decide (k < (4 : Int)) &&
                        (decide
                            ((0 : Nat) + k.toNat * (1 : Nat) + (1 : Nat) ≤
                              (os.set ((0 : Nat) + k.toNat * (1 : Nat))
                                  (ls.getD
                                      ((0 : Nat) +
                                        (wrapI IntKind.i64 (k + wrapI IntKind.i64 (n.tdiv (64 : Int)))).toNat *
                                          (1 : Nat))
                                      (OfNat.ofNat (0 : Nat)) >>>
                                    (n.tmod (64 : Int)).toNat)).length) &&
                          true)))))))) &&
        true),
    X.normal,
    [((1 : Nat), V.int IntKind.i64 n), ((4 : Nat), V.ptr (0 : Nat) (0 : Nat)), ((5 : Nat), V.ptr (1 : Nat) (0 : Nat)),
      ((6 : Nat), V.ptr (2 : Nat) (0 : Nat)), ((13 : Nat), V.int IntKind.i64 i),
      ((14 : Nat), V.int IntKind.i64 (wrapI IntKind.i64 (k + (1 : Int))))],
    [Blk.b64 xs, Blk.b64 ls,
      Blk.b64
        ((os.set ((0 : Nat) + k.toNat * (1 : Nat))
              (ls.getD ((0 : Nat) + (wrapI IntKind.i64 (k + wrapI IntKind.i64 (n.tdiv (64 : Int)))).toNat * (1 : Nat))
                  (OfNat.ofNat (0 : Nat)) >>>
                (n.tmod (64 : Int)).toNat)).set
          ((0 : Nat) + k.toNat * (1 : Nat))
          ((os.set ((0 : Nat) + k.toNat * (1 : Nat))
                  (ls.getD
                      ((0 : Nat) + (wrapI IntKind.i64 (k + wrapI IntKind.i64 (n.tdiv (64 : Int)))).toNat * (1 : Nat))
                      (OfNat.ofNat (0 : Nat)) >>>
                    (n.tmod (64 : Int)).toNat)).getD
              ((0 : Nat) + k.toNat * (1 : Nat)) (OfNat.ofNat (0 : Nat)) |||
            ls.getD
                ((0 : Nat) +
                  (wrapI IntKind.i64
                        (wrapI IntKind.i64 (k + wrapI IntKind.i64 (n.tdiv (64 : Int))) + (1 : Int))).toNat *
                    (1 : Nat))
                (OfNat.ofNat (0 : Nat)) <<<
              (wrapI IntKind.i64 ((64 : Int) - n.tmod (64 : Int))).toNat))]) := by kernel_rfl
theorem rightB (ls : List (BitVec 64)) (os : List (BitVec 64)) (xs : List (BitVec 64)) (n : Int) (i : Int) (k : Int) :
  execN Pr (withAsm noOrc [((14 : Nat), true), ((30 : Nat), true), ((34 : Nat), false)]) noLoops [] (100 : Nat)
  (0 : Nat) [(1 : Nat), (4 : Nat), (5 : Nat), (6 : Nat), (13 : Nat), (14 : Nat)] (loopBody Go.Proofs.Try.f105 (0 : Nat))
  [((1 : Nat), V.int IntKind.i64 n), ((4 : Nat), V.ptr (0 : Nat) (0 : Nat)), ((5 : Nat), V.ptr (1 : Nat) (0 : Nat)),
    ((6 : Nat), V.ptr (2 : Nat) (0 : Nat)), ((13 : Nat), V.int IntKind.i64 i), ((14 : Nat), V.int IntKind.i64 k)]
  [Blk.b64 xs, Blk.b64 ls, Blk.b64 os] =
  some
  (decide (k < i) && true &&
      (decide ((0 : Int) ≤ wrapI IntKind.i64 (k + wrapI IntKind.i64 (n.tdiv (64 : Int)))) &&
              decide (wrapI IntKind.i64 (k + wrapI IntKind.i64 (n.tdiv (64 : Int))) < (4 : Int)) &&
            (decide
                ((0 : Nat) + (wrapI IntKind.i64 (k + wrapI IntKind.i64 (n.tdiv (64 : Int)))).toNat * (1 : Nat) <
                  ls.length) &&
              (decide ((0 : Int) ≤ n.tmod (64 : Int)) &&
                (decide ((0 : Int) ≤ k) && decide (k < (4 : Int)) &&
                  (decide ((0 : Nat) + k.toNat * (1 : Nat) + (1 : Nat) ≤ os.length) && true)))) &&
          (decide (n.tmod (64 : Int) > (0 : Int)) &&
              (!decide
                    (wrapI IntKind.i64 (wrapI IntKind.i64 (k + wrapI IntKind.i64 (n.tdiv (64 : Int))) + (1 : Int)) <
                      (4 : Int)) &&
                true) &&
            true) &&
        true),
    X.normal,
    [((1 : Nat), V.int IntKind.i64 n), ((4 : Nat), V.ptr (0 : Nat) (0 : Nat)), ((5 : Nat), V.ptr (1 : Nat) (0 : Nat)),
      ((6 : Nat), V.ptr (2 : Nat) (0 : Nat)), ((13 : Nat), V.int IntKind.i64 i),
      ((14 : Nat), V.int IntKind.i64 (wrapI IntKind.i64 (k + (1 : Int))))],
    [Blk.b64 xs, Blk.b64 ls,
      Blk.b64
        (os.set ((0 : Nat) + k.toNat * (1 : Nat))
          (ls.getD ((0 : Nat) + (wrapI IntKind.i64 (k + wrapI IntKind.i64 (n.tdiv (64 : Int)))).toNat * (1 : Nat))
              (OfNat.ofNat (0 : Nat)) >>>
            (n.tmod (64 : Int)).toNat))]) := by kernel_rfl
theorem rightC (ls : List (BitVec 64)) (os : List (BitVec 64)) (xs : List (BitVec 64)) (n : Int) (i : Int) (k : Int) :
  execN Pr (withAsm noOrc [((14 : Nat), true), ((30 : Nat), false)]) noLoops [] (100 : Nat) (0 : Nat)
  [(1 : Nat), (4 : Nat), (5 : Nat), (6 : Nat), (13 : Nat), (14 : Nat)] (loopBody Go.Proofs.Try.f105 (0 : Nat))
  [((1 : Nat), V.int IntKind.i64 n), ((4 : Nat), V.ptr (0 : Nat) (0 : Nat)), ((5 : Nat), V.ptr (1 : Nat) (0 : Nat)),
    ((6 : Nat), V.ptr (2 : Nat) (0 : Nat)), ((13 : Nat), V.int IntKind.i64 i), ((14 : Nat), V.int IntKind.i64 k)]
  [Blk.b64 xs, Blk.b64 ls, Blk.b64 os] =
  some
  (decide (k < i) && true &&
      (decide ((0 : Int) ≤ wrapI IntKind.i64 (k + wrapI IntKind.i64 (n.tdiv (64 : Int)))) &&
              decide (wrapI IntKind.i64 (k + wrapI IntKind.i64 (n.tdiv (64 : Int))) < (4 : Int)) &&
            (decide
                ((0 : Nat) + (wrapI IntKind.i64 (k + wrapI IntKind.i64 (n.tdiv (64 : Int)))).toNat * (1 : Nat) <
                  ls.length) &&
              (decide ((0 : Int) ≤ n.tmod (64 : Int)) &&
                (decide ((0 : Int) ≤ k) && decide (k < (4 : Int)) &&
                  (decide ((0 : Nat) + k.toNat * (1 : Nat) + (1 : Nat) ≤ os.length) && true)))) &&
          (!decide (n.tmod (64 : Int) > (0 : Int)) && true && true) &&
        true),
    X.normal,
    [((1 : Nat), V.int IntKind.i64 n), ((4 : Nat), V.ptr (0 : Nat) (0 : Nat)), ((5 : Nat), V.ptr (1 : Nat) (0 : Nat)),
      ((6 : Nat), V.ptr (2 : Nat) (0 : Nat)), ((13 : Nat), V.int IntKind.i64 i),
      ((14 : Nat), V.int IntKind.i64 (wrapI IntKind.i64 (k + (1 : Int))))],
    [Blk.b64 xs, Blk.b64 ls,
      Blk.b64
        (os.set ((0 : Nat) + k.toNat * (1 : Nat))
          (ls.getD ((0 : Nat) + (wrapI IntKind.i64 (k + wrapI IntKind.i64 (n.tdiv (64 : Int)))).toNat * (1 : Nat))
              (OfNat.ofNat (0 : Nat)) >>>
            (n.tmod (64 : Int)).toNat))]) := by kernel_rfl
theorem rightZ (ls : List (BitVec 64)) (os : List (BitVec 64)) (xs : List (BitVec 64)) (n : Int) (i : Int) (k : Int) :
  execN Pr (withAsm noOrc [((14 : Nat), false)]) noLoops [] (100 : Nat) (0 : Nat) [(4 : Nat), (6 : Nat)]
  (loopBody Go.Proofs.Try.f105 (0 : Nat))
  [((1 : Nat), V.int IntKind.i64 n), ((4 : Nat), V.ptr (0 : Nat) (0 : Nat)), ((5 : Nat), V.ptr (1 : Nat) (0 : Nat)),
    ((6 : Nat), V.ptr (2 : Nat) (0 : Nat)), ((13 : Nat), V.int IntKind.i64 i), ((14 : Nat), V.int IntKind.i64 k)]
  [Blk.b64 xs, Blk.b64 ls, Blk.b64 os] =
  some
  (!decide (k < i) && true && true, X.exit (0 : Nat),
    [((4 : Nat), V.ptr (0 : Nat) (0 : Nat)), ((6 : Nat), V.ptr (1 : Nat) (0 : Nat))],
    [Blk.b64 xs, Blk.b64 os]) := by kernel_rfl

def right_S : MV → Nat → Fr × Heap := fun a j => ([(1,.int .i64 a.n),(4,.ptr 0 0),(5,.ptr 1 0),(6,.ptr 2 0),(13,.int .i64 a.i),(14,.int .i64 ((j : Nat) : Int))], [.b64 a.xs, .b64 a.ls, .b64 (rightN a.ls a.os (a.n.toNat / 64) (a.n.toNat % 64) j)])
def right_read : Fr → Heap → Option MV := fun f h => match f, h with
  | [(1,.int .i64 n),(4,.ptr 0 0),(5,.ptr 1 0),(6,.ptr 2 0),(13,.int .i64 i),(14,.int .i64 0)], [.b64 xs, .b64 ls, .b64 os] => some ⟨ls, os, xs, n, i⟩
  | _, _ => none
def right_ok : MV → Bool := fun a => decide (a.ls.length = 4) && decide (a.os.length = 4) && decide (0 ≤ a.n) && decide (a.n < 256) && decide (a.i = ((4 - a.n.toNat / 64 : Nat) : Int))
def right_E : MV → X × Fr × Heap := fun a => (.exit 0, [(4,.ptr 0 0),(6,.ptr 1 0)], [.b64 a.xs, .b64 (rightN a.ls a.os (a.n.toNat / 64) (a.n.toNat % 64) (4 - a.n.toNat / 64))])
def right_k : Nat := 0
def right_s : Sm := whS 4 [1,4,5,6,13,14] right_read right_ok right_E
theorem right_at : SmAt Pr Go.Proofs.Try.f105 0 right_s right_k := by
  refine cnt_at right_S (fun a => 4 - a.n.toNat / 64) (by kernel_rfl) (by kernel_rfl) ?_ ?_ ?_ ?_
  · intro f g a h
    unfold right_read at h
    split at h <;> cases h
    rfl
  · intro a h; cases h
  · intro a hok j hj
    simp only [right_ok, Bool.and_eq_true, decide_eq_true_eq] at hok
    obtain ⟨⟨⟨⟨h1, h2⟩, h3⟩, h4⟩, h5⟩ := hok
    obtain ⟨q, hq⟩ : ∃ q, a.n.toNat / 64 = q := ⟨_, rfl⟩
    obtain ⟨r, hr⟩ : ∃ r, a.n.toNat % 64 = r := ⟨_, rfl⟩
    have hq4 : q < 4 := by omega
    have hr4 : r < 64 := by omega
    have en : a.n = ((a.n.toNat : Nat) : Int) := by omega
    have ed : wrapI .i64 (a.n.tdiv 64) = (q : Int) := by rw [en, tdiv_lit, wrapI_nat (by omega)]; exact congrArg _ hq
    have er : a.n.tmod 64 = (r : Int) := by rw [en, tmod_lit]; exact congrArg _ hr
    have e64 : wrapI .i64 ((64 : Int) - (r : Int)) = ((64 - r : Nat) : Int) := by rw [lit_sub _ _ (by omega), wrapI_nat (by omega)]
    have hl := rightN_length a.ls a.os (a.n.toNat / 64) (a.n.toNat % 64) j
    have hlt : j < (rightN a.ls a.os (a.n.toNat / 64) (a.n.toNat % 64) j).length := by omega
    rw [hq] at hj h5
    have ek : wrapI .i64 (((j : Nat) : Int) + wrapI .i64 (a.n.tdiv 64)) = ((j + q : Nat) : Int) := by rw [ed, add_nat, wrapI_nat (by omega)]
    have ez : wrapI .i64 (((j : Nat) : Int) + 1) = ((j + 1 : Nat) : Int) := by rw [add_lit, wrapI_nat (by omega)]
    have es : wrapI .i64 (((j + q : Nat) : Int) + 1) = ((j + q + 1 : Nat) : Int) := by rw [add_lit, wrapI_nat (by omega)]
    by_cases hc : 0 < r ∧ j + q + 1 < 4
    · refine execN_sound (withAsm_sound (noOrc_sound _)) mixed (LoopsOk.innerAt (LoopsOk.none (P := Pr) (fn := Go.Proofs.Try.f105) (n0 := 0)) 0) (by kernel_rfl) (by intro v h; cases h) ((rightA a.ls (rightN a.ls a.os (a.n.toNat / 64) (a.n.toNat % 64) j) a.xs a.n a.i j).trans ?_)
      refine stX ?_ ?_ ?_
      · simp only [ek, er, e64, es, getD_set_self _ _ _ hlt, List.set_set, List.length_set, Int.toNat_natCast, Nat.mul_one, Nat.zero_add]
        simp only [Bool.and_eq_true, Bool.and_true, Bool.true_and, decide_eq_true_eq, Bool.not_eq_true', decide_eq_false_iff_not]
        (repeat' apply And.intro) <;> first | omega | exact True.intro
      · rw [ez]; rfl
      · simp only [ek, er, e64, es, getD_set_self _ _ _ hlt, List.set_set, List.length_set, Int.toNat_natCast, Nat.mul_one, Nat.zero_add]
        show _ = [Blk.b64 a.xs, Blk.b64 a.ls, Blk.b64 (rightN a.ls a.os (a.n.toNat / 64) (a.n.toNat % 64) (j + 1))]
        rw [rightN]; simp only [hq, hr, rPart, hc, and_self, if_true]
    · by_cases hr0 : 0 < r
      · refine execN_sound (withAsm_sound (noOrc_sound _)) mixed (LoopsOk.innerAt (LoopsOk.none (P := Pr) (fn := Go.Proofs.Try.f105) (n0 := 0)) 0) (by kernel_rfl) (by intro v h; cases h) ((rightB a.ls (rightN a.ls a.os (a.n.toNat / 64) (a.n.toNat % 64) j) a.xs a.n a.i j).trans ?_)
        refine stX ?_ ?_ ?_
        · simp only [ek, er, e64, es, getD_set_self _ _ _ hlt, List.set_set, List.length_set, Int.toNat_natCast, Nat.mul_one, Nat.zero_add]
          simp only [Bool.and_eq_true, Bool.and_true, Bool.true_and, decide_eq_true_eq, Bool.not_eq_true', decide_eq_false_iff_not]
          (repeat' apply And.intro) <;> first | omega | exact True.intro
        · rw [ez]; rfl
        · simp only [ek, er, e64, getD_set_self _ _ _ hlt, List.set_set, List.length_set, Int.toNat_natCast, Nat.mul_one, Nat.zero_add]
          show _ = [Blk.b64 a.xs, Blk.b64 a.ls, Blk.b64 (rightN a.ls a.os (a.n.toNat / 64) (a.n.toNat % 64) (j + 1))]
          rw [rightN]; simp only [hq, hr, rPart, hc, if_false]
      · refine execN_sound (withAsm_sound (noOrc_sound _)) mixed (LoopsOk.innerAt (LoopsOk.none (P := Pr) (fn := Go.Proofs.Try.f105) (n0 := 0)) 0) (by kernel_rfl) (by intro v h; cases h) ((rightC a.ls (rightN a.ls a.os (a.n.toNat / 64) (a.n.toNat % 64) j) a.xs a.n a.i j).trans ?_)
        refine stX ?_ ?_ ?_
        · simp only [ek, er, e64, getD_set_self _ _ _ hlt, List.set_set, List.length_set, Int.toNat_natCast, Nat.mul_one, Nat.zero_add]
          simp only [Bool.and_eq_true, Bool.and_true, Bool.true_and, decide_eq_true_eq, Bool.not_eq_true', decide_eq_false_iff_not]
          (repeat' apply And.intro) <;> first | omega | exact True.intro
        · rw [ez]; rfl
        · simp only [ek, er, e64, getD_set_self _ _ _ hlt, List.set_set, List.length_set, Int.toNat_natCast, Nat.mul_one, Nat.zero_add]
          show _ = [Blk.b64 a.xs, Blk.b64 a.ls, Blk.b64 (rightN a.ls a.os (a.n.toNat / 64) (a.n.toNat % 64) (j + 1))]
          rw [rightN]; simp only [hq, hr, rPart, hc, if_false]
  · intro a hok
    simp only [right_ok, Bool.and_eq_true, decide_eq_true_eq] at hok
    obtain ⟨⟨⟨⟨h1, h2⟩, h3⟩, h4⟩, h5⟩ := hok
    refine execN_sound (withAsm_sound (noOrc_sound _)) mixed (LoopsOk.innerAt (LoopsOk.none (P := Pr) (fn := Go.Proofs.Try.f105) (n0 := 0)) 0) (by kernel_rfl) (by intro v h; cases h) ((rightZ a.ls (rightN a.ls a.os (a.n.toNat / 64) (a.n.toNat % 64) (4 - a.n.toNat / 64)) a.xs a.n a.i ((4 - a.n.toNat / 64 : Nat) : Int)).trans ?_)
    refine stX ?_ rfl rfl
    rw [h5]
    simp only [Bool.and_true, Bool.not_eq_true', decide_eq_false_iff_not]
    omega
theorem right_x (x : W4) (n : Int) :
  execF Pr (auto Pr ext [] [(81 : FuncId), (107 : FuncId)] (3 : Nat)) (smL (0 : Nat) [right_s]) (100 : Nat)
  Go.Proofs.Try.f105 [x.v, V.int IntKind.i64 n] [] =
  some
  (right_ok
          (MV.mk [x.d, x.c, x.b, x.a]
            [BitVec.ofInt (64 : Nat) (0 : Int), BitVec.ofInt (64 : Nat) (0 : Int), BitVec.ofInt (64 : Nat) (0 : Int),
              BitVec.ofInt (64 : Nat) (0 : Int)]
            [BitVec.ofInt (64 : Nat) (0 : Int), BitVec.ofInt (64 : Nat) (0 : Int), BitVec.ofInt (64 : Nat) (0 : Int),
              BitVec.ofInt (64 : Nat) (0 : Int)]
            n (wrapI IntKind.i64 ((4 : Int) - wrapI IntKind.i64 (n.tdiv (64 : Int))))) &&
        (decide
              ((4 : Nat) ≤
                (rightN [x.d, x.c, x.b, x.a]
                    [BitVec.ofInt (64 : Nat) (0 : Int), BitVec.ofInt (64 : Nat) (0 : Int),
                      BitVec.ofInt (64 : Nat) (0 : Int), BitVec.ofInt (64 : Nat) (0 : Int)]
                    (n.toNat / (64 : Nat)) (n.toNat % (64 : Nat)) ((4 : Nat) - n.toNat / (64 : Nat))).length) &&
            true &&
          true) &&
      true,
    Fin.ret
      (V.agg
        [V.u64
            ((rightN [x.d, x.c, x.b, x.a]
                  [BitVec.ofInt (64 : Nat) (0 : Int), BitVec.ofInt (64 : Nat) (0 : Int),
                    BitVec.ofInt (64 : Nat) (0 : Int), BitVec.ofInt (64 : Nat) (0 : Int)]
                  (n.toNat / (64 : Nat)) (n.toNat % (64 : Nat)) ((4 : Nat) - n.toNat / (64 : Nat))).getD
              (3 : Nat) (OfNat.ofNat (0 : Nat))),
          V.u64
            ((rightN [x.d, x.c, x.b, x.a]
                  [BitVec.ofInt (64 : Nat) (0 : Int), BitVec.ofInt (64 : Nat) (0 : Int),
                    BitVec.ofInt (64 : Nat) (0 : Int), BitVec.ofInt (64 : Nat) (0 : Int)]
                  (n.toNat / (64 : Nat)) (n.toNat % (64 : Nat)) ((4 : Nat) - n.toNat / (64 : Nat))).getD
              (2 : Nat) (OfNat.ofNat (0 : Nat))),
          V.u64
            ((rightN [x.d, x.c, x.b, x.a]
                  [BitVec.ofInt (64 : Nat) (0 : Int), BitVec.ofInt (64 : Nat) (0 : Int),
                    BitVec.ofInt (64 : Nat) (0 : Int), BitVec.ofInt (64 : Nat) (0 : Int)]
                  (n.toNat / (64 : Nat)) (n.toNat % (64 : Nat)) ((4 : Nat) - n.toNat / (64 : Nat))).getD
              (1 : Nat) (OfNat.ofNat (0 : Nat))),
          V.u64
            ((rightN [x.d, x.c, x.b, x.a]
                  [BitVec.ofInt (64 : Nat) (0 : Int), BitVec.ofInt (64 : Nat) (0 : Int),
                    BitVec.ofInt (64 : Nat) (0 : Int), BitVec.ofInt (64 : Nat) (0 : Int)]
                  (n.toNat / (64 : Nat)) (n.toNat % (64 : Nat)) ((4 : Nat) - n.toNat / (64 : Nat))).getD
              (0 : Nat) (OfNat.ofNat (0 : Nat)))]),
    []) := by kernel_rfl
end
end Go.Proofs.Ytajbaocfdlopbaa.K
end
section
open Go Go.Lh
namespace Go.Proofs.Ytajbaocfdlopbaa.K
noncomputable section
set_option maxRecDepth 100000
def z4 : List (BitVec 64) := [BitVec.ofInt 64 0, BitVec.ofInt 64 0, BitVec.ofInt 64 0, BitVec.ofInt 64 0]
theorem left_list (x : W4) (q r : Nat) (hq : q < 4) : leftN [x.d, x.c, x.b, x.a] z4 q r (4 - q) = [W4.lP x q r 0, W4.lP x q r 1, W4.lP x q r 2, W4.lP x q r 3] := by
  have h4 : q = 0 ∨ q = 1 ∨ q = 2 ∨ q = 3 := by omega
  rcases h4 with rfl | rfl | rfl | rfl <;> simp [leftN, lPart, W4.lP, W4.lo, z4]
theorem right_list (x : W4) (q r : Nat) (hq : q < 4) : rightN [x.d, x.c, x.b, x.a] z4 q r (4 - q) = [W4.rP x q r 0, W4.rP x q r 1, W4.rP x q r 2, W4.rP x q r 3] := by
  have h4 : q = 0 ∨ q = 1 ∨ q = 2 ∨ q = 3 := by omega
  rcases h4 with rfl | rfl | rfl | rfl <;> simp [rightN, rPart, W4.rP, W4.lo, z4]
def OW3 : Orc := auto Pr ext [] [81, 107] 3
theorem OW3_sound : OrcSound Pr OW3 := auto_sound mixed ext_ok KOk.nil (by kernel_rfl) 3
theorem leftL : LoopsOk Pr Go.Proofs.Try.f104 0 (smL 0 [left_s]) := LoopsOk.of [(left_s, left_k)] (by kernel_rfl) (by
  intro p hp
  simp only [List.mem_cons, List.not_mem_nil, or_false] at hp
  subst hp
  exact left_at)
theorem rightL : LoopsOk Pr Go.Proofs.Try.f105 0 (smL 0 [right_s]) := LoopsOk.of [(right_s, right_k)] (by kernel_rfl) (by
  intro p hp
  simp only [List.mem_cons, List.not_mem_nil, or_false] at hp
  subst hp
  exact right_at)
theorem div_i {n : Int} (h : 0 ≤ n) (h2 : n < 256) : wrapI .i64 (n.tdiv 64) = ((n.toNat / 64 : Nat) : Int) := by
  have en : n = ((n.toNat : Nat) : Int) := by omega
  rw [en, tdiv_lit, wrapI_nat (by omega)]; rfl
theorem left_fn (x : W4) (n : Int) (h : 0 ≤ n) (h2 : n < 256) : LFn Pr 104 [x.v, .int .i64 n] [] (.ret (W4.shl x n.toNat).v) [] := by
  have hq : n.toNat / 64 < 4 := by omega
  have hr : n.toNat % 64 < 64 := Nat.mod_lt _ (by omega)
  have hl := left_list x (n.toNat / 64) (n.toNat % 64) hq
  unfold z4 at hl
  refine execF_sound (fn := Go.Proofs.Try.f104) OW3_sound mixed (by kernel_rfl) leftL ((left_x x n).trans (stF ?_ ?_ rfl))
  · rw [hl, div_i h h2]
    simp [left_ok, h, h2]
  · rw [hl, show n.toNat = 64 * (n.toNat / 64) + n.toNat % 64 by omega, ← W4.shlP_eq x _ _ (by omega) (by omega)]
    have e1 : (64 * (n.toNat / 64) + n.toNat % 64) / 64 = n.toNat / 64 := by omega
    have e2 : (64 * (n.toNat / 64) + n.toNat % 64) % 64 = n.toNat % 64 := by omega
    simp only [e1, e2]
    rfl
theorem right_fn (x : W4) (n : Int) (h : 0 ≤ n) (h2 : n < 256) : LFn Pr 105 [x.v, .int .i64 n] [] (.ret (W4.shr x n.toNat).v) [] := by
  have hq : n.toNat / 64 < 4 := by omega
  have hr : n.toNat % 64 < 64 := Nat.mod_lt _ (by omega)
  have hl := right_list x (n.toNat / 64) (n.toNat % 64) hq
  unfold z4 at hl
  have e4 : wrapI .i64 ((4 : Int) - ((n.toNat / 64 : Nat) : Int)) = ((4 - n.toNat / 64 : Nat) : Int) := by rw [lit_sub _ _ (by omega), wrapI_nat (by omega)]
  refine execF_sound (fn := Go.Proofs.Try.f105) OW3_sound mixed (by kernel_rfl) rightL ((right_x x n).trans (stF ?_ ?_ rfl))
  · rw [hl, div_i h h2, e4]
    simp [right_ok, h, h2]
  · rw [hl, show n.toNat = 64 * (n.toNat / 64) + n.toNat % 64 by omega, ← W4.shrP_eq x _ _ (by omega) (by omega)]
    have e1 : (64 * (n.toNat / 64) + n.toNat % 64) / 64 = n.toNat / 64 := by omega
    have e2 : (64 * (n.toNat / 64) + n.toNat % 64) % 64 = n.toNat % 64 := by omega
    simp only [e1, e2]
    rfl
end
end Go.Proofs.Ytajbaocfdlopbaa.K
end
section
open Go Go.Lh
namespace Go.Proofs.Ytajbaocfdlopbaa.K
noncomputable section
set_option maxRecDepth 100000
def OW4 : Orc := auto Pr ext [] [81, 107, 124, 125] 4
theorem OW4_sound : OrcSound Pr OW4 := auto_sound mixed ext_ok KOk.nil (by kernel_rfl) 4
theorem or_fn (x y : W4) : LFn Pr 120 [x.v, y.v] [] (.ret (W4.orW x y).v) [] :=
  execFD_sound (fn := Go.Proofs.Try.f120) OW4_sound mixed (by kernel_rfl) (fun _ _ _ _ => LoopOk.none) (show execFD Pr OW4 noLoops [] 100 Go.Proofs.Try.f120 [x.v, y.v] [] = some (true, .ret (W4.orW x y).v, []) by kernel_rfl)
theorem from_fn (x : BitVec 64) : LFn Pr 36 [.u64 x] [] (.ret (W4.small x).v) [] :=
  execFD_sound (fn := Go.Proofs.Try.f36) OW4_sound mixed (by kernel_rfl) (fun _ _ _ _ => LoopOk.none) (show execFD Pr OW4 noLoops [] 100 Go.Proofs.Try.f36 [.u64 x] [] = some (true, .ret (W4.small x).v, []) by kernel_rfl)
def lenTab : List (BitVec 8) := (bytesOf (ByteArray.mk (([0, 1, 2, 2, 3, 3, 3, 3, 4, 4, 4, 4, 4, 4, 4, 4, 5, 5, 5, 5, 5, 5, 5, 5, 5, 5, 5, 5, 5, 5, 5, 5, 6, 6, 6, 6, 6, 6, 6, 6, 6, 6, 6, 6, 6, 6, 6, 6, 6, 6, 6, 6, 6, 6, 6, 6, 6, 6, 6, 6, 6, 6, 6, 6].append [7, 7, 7, 7, 7, 7, 7, 7, 7, 7, 7, 7, 7, 7, 7, 7, 7, 7, 7, 7, 7, 7, 7, 7, 7, 7, 7, 7, 7, 7, 7, 7, 7, 7, 7, 7, 7, 7, 7, 7, 7, 7, 7, 7, 7, 7, 7, 7, 7, 7, 7, 7, 7, 7, 7, 7, 7, 7, 7, 7, 7, 7, 7, 7]).append ([8, 8, 8, 8, 8, 8, 8, 8, 8, 8, 8, 8, 8, 8, 8, 8, 8, 8, 8, 8, 8, 8, 8, 8, 8, 8, 8, 8, 8, 8, 8, 8, 8, 8, 8, 8, 8, 8, 8, 8, 8, 8, 8, 8, 8, 8, 8, 8, 8, 8, 8, 8, 8, 8, 8, 8, 8, 8, 8, 8, 8, 8, 8, 8].append [8, 8, 8, 8, 8, 8, 8, 8, 8, 8, 8, 8, 8, 8, 8, 8, 8, 8, 8, 8, 8, 8, 8, 8, 8, 8, 8, 8, 8, 8, 8, 8, 8, 8, 8, 8, 8, 8, 8, 8, 8, 8, 8, 8, 8, 8, 8, 8, 8, 8, 8, 8, 8, 8, 8, 8, 8, 8, 8, 8, 8, 8, 8, 8])).toArray))
theorem len_yyy (x : BitVec 64) :
  execFD Pr (withAsm OW4 [((3 : Nat), true), ((7 : Nat), true), ((13 : Nat), true)]) noLoops [] (100 : Nat)
  Go.Proofs.Try.f123 [V.u64 x] [] =
  some
  (decide (BitVec.ofInt (64 : Nat) (4294967296 : Int) ≤ x) && true && true &&
        (decide (BitVec.ofInt (64 : Nat) (65536 : Int) ≤ x >>> (32 : Nat)) && true && true &&
          (decide (BitVec.ofInt (64 : Nat) (256 : Int) ≤ x >>> (32 : Nat) >>> (16 : Nat)) && true && true &&
            (decide
                  ((↑(BitVec.setWidth (8 : Nat) (x >>> (32 : Nat) >>> (16 : Nat) >>> (8 : Nat))).toNat : Int) <
                    (256 : Int)) &&
                true &&
              true))) &&
      true,
    Fin.ret
      (V.int IntKind.i64
        (wrapI IntKind.i64
          ((56 : Int) +
            (↑(lenTab.getD
                    (BitVec.setWidth (8 : Nat) (x >>> (32 : Nat) >>> (16 : Nat) >>> (8 : Nat))).toNat
                    (OfNat.ofNat (0 : Nat))).toNat :
              Int)))),
    []) := by kernel_rfl
theorem len_yyn (x : BitVec 64) :
  execFD Pr (withAsm OW4 [((3 : Nat), true), ((7 : Nat), true), ((13 : Nat), false)]) noLoops [] (100 : Nat)
  Go.Proofs.Try.f123 [V.u64 x] [] =
  some
  (decide (BitVec.ofInt (64 : Nat) (4294967296 : Int) ≤ x) && true && true &&
        (decide (BitVec.ofInt (64 : Nat) (65536 : Int) ≤ x >>> (32 : Nat)) && true && true &&
          (!decide (BitVec.ofInt (64 : Nat) (256 : Int) ≤ x >>> (32 : Nat) >>> (16 : Nat)) && true && true &&
            (decide ((↑(BitVec.setWidth (8 : Nat) (x >>> (32 : Nat) >>> (16 : Nat))).toNat : Int) < (256 : Int)) &&
                true &&
              true))) &&
      true,
    Fin.ret
      (V.int IntKind.i64
        (wrapI IntKind.i64
          ((48 : Int) +
            (↑(lenTab.getD
                    (BitVec.setWidth (8 : Nat) (x >>> (32 : Nat) >>> (16 : Nat))).toNat (OfNat.ofNat (0 : Nat))).toNat :
              Int)))),
    []) := by kernel_rfl
theorem len_yny (x : BitVec 64) :
  execFD Pr (withAsm OW4 [((3 : Nat), true), ((7 : Nat), false), ((13 : Nat), true)]) noLoops [] (100 : Nat)
  Go.Proofs.Try.f123 [V.u64 x] [] =
  some
  (decide (BitVec.ofInt (64 : Nat) (4294967296 : Int) ≤ x) && true && true &&
        (!decide (BitVec.ofInt (64 : Nat) (65536 : Int) ≤ x >>> (32 : Nat)) && true && true &&
          (decide (BitVec.ofInt (64 : Nat) (256 : Int) ≤ x >>> (32 : Nat)) && true && true &&
            (decide ((↑(BitVec.setWidth (8 : Nat) (x >>> (32 : Nat) >>> (8 : Nat))).toNat : Int) < (256 : Int)) &&
                true &&
              true))) &&
      true,
    Fin.ret
      (V.int IntKind.i64
        (wrapI IntKind.i64
          ((40 : Int) +
            (↑(lenTab.getD
                    (BitVec.setWidth (8 : Nat) (x >>> (32 : Nat) >>> (8 : Nat))).toNat (OfNat.ofNat (0 : Nat))).toNat :
              Int)))),
    []) := by kernel_rfl
theorem len_ynn (x : BitVec 64) :
  execFD Pr (withAsm OW4 [((3 : Nat), true), ((7 : Nat), false), ((13 : Nat), false)]) noLoops [] (100 : Nat)
  Go.Proofs.Try.f123 [V.u64 x] [] =
  some
  (decide (BitVec.ofInt (64 : Nat) (4294967296 : Int) ≤ x) && true && true &&
        (!decide (BitVec.ofInt (64 : Nat) (65536 : Int) ≤ x >>> (32 : Nat)) && true && true &&
          (!decide (BitVec.ofInt (64 : Nat) (256 : Int) ≤ x >>> (32 : Nat)) && true && true &&
            (decide ((↑(BitVec.setWidth (8 : Nat) (x >>> (32 : Nat))).toNat : Int) < (256 : Int)) && true && true))) &&
      true,
    Fin.ret
      (V.int IntKind.i64
        (wrapI IntKind.i64
          ((32 : Int) +
            (↑(lenTab.getD
                    (BitVec.setWidth (8 : Nat) (x >>> (32 : Nat))).toNat (OfNat.ofNat (0 : Nat))).toNat :
              Int)))),
    []) := by kernel_rfl
theorem len_nyy (x : BitVec 64) :
  execFD Pr (withAsm OW4 [((3 : Nat), false), ((7 : Nat), true), ((13 : Nat), true)]) noLoops [] (100 : Nat)
  Go.Proofs.Try.f123 [V.u64 x] [] =
  some
  (!decide (BitVec.ofInt (64 : Nat) (4294967296 : Int) ≤ x) && true && true &&
        (decide (BitVec.ofInt (64 : Nat) (65536 : Int) ≤ x) && true && true &&
          (decide (BitVec.ofInt (64 : Nat) (256 : Int) ≤ x >>> (16 : Nat)) && true && true &&
            (decide ((↑(BitVec.setWidth (8 : Nat) (x >>> (16 : Nat) >>> (8 : Nat))).toNat : Int) < (256 : Int)) &&
                true &&
              true))) &&
      true,
    Fin.ret
      (V.int IntKind.i64
        (wrapI IntKind.i64
          ((24 : Int) +
            (↑(lenTab.getD
                    (BitVec.setWidth (8 : Nat) (x >>> (16 : Nat) >>> (8 : Nat))).toNat (OfNat.ofNat (0 : Nat))).toNat :
              Int)))),
    []) := by kernel_rfl
theorem len_nyn (x : BitVec 64) :
  execFD Pr (withAsm OW4 [((3 : Nat), false), ((7 : Nat), true), ((13 : Nat), false)]) noLoops [] (100 : Nat)
  Go.Proofs.Try.f123 [V.u64 x] [] =
  some
  (!decide (BitVec.ofInt (64 : Nat) (4294967296 : Int) ≤ x) && true && true &&
        (decide (BitVec.ofInt (64 : Nat) (65536 : Int) ≤ x) && true && true &&
          (!decide (BitVec.ofInt (64 : Nat) (256 : Int) ≤ x >>> (16 : Nat)) && true && true &&
            (decide ((↑(BitVec.setWidth (8 : Nat) (x >>> (16 : Nat))).toNat : Int) < (256 : Int)) && true && true))) &&
      true,
    Fin.ret
      (V.int IntKind.i64
        (wrapI IntKind.i64
          ((16 : Int) +
            (↑(lenTab.getD
                    (BitVec.setWidth (8 : Nat) (x >>> (16 : Nat))).toNat (OfNat.ofNat (0 : Nat))).toNat :
              Int)))),
    []) := by kernel_rfl
theorem len_nny (x : BitVec 64) :
  execFD Pr (withAsm OW4 [((3 : Nat), false), ((7 : Nat), false), ((13 : Nat), true)]) noLoops [] (100 : Nat)
  Go.Proofs.Try.f123 [V.u64 x] [] =
  some
  (!decide (BitVec.ofInt (64 : Nat) (4294967296 : Int) ≤ x) && true && true &&
        (!decide (BitVec.ofInt (64 : Nat) (65536 : Int) ≤ x) && true && true &&
          (decide (BitVec.ofInt (64 : Nat) (256 : Int) ≤ x) && true && true &&
            (decide ((↑(BitVec.setWidth (8 : Nat) (x >>> (8 : Nat))).toNat : Int) < (256 : Int)) && true && true))) &&
      true,
    Fin.ret
      (V.int IntKind.i64
        (wrapI IntKind.i64
          ((8 : Int) +
            (↑(lenTab.getD
                    (BitVec.setWidth (8 : Nat) (x >>> (8 : Nat))).toNat (OfNat.ofNat (0 : Nat))).toNat :
              Int)))),
    []) := by kernel_rfl
theorem len_nnn (x : BitVec 64) :
  execFD Pr (withAsm OW4 [((3 : Nat), false), ((7 : Nat), false), ((13 : Nat), false)]) noLoops [] (100 : Nat)
  Go.Proofs.Try.f123 [V.u64 x] [] =
  some
  (!decide (BitVec.ofInt (64 : Nat) (4294967296 : Int) ≤ x) && true && true &&
        (!decide (BitVec.ofInt (64 : Nat) (65536 : Int) ≤ x) && true && true &&
          (!decide (BitVec.ofInt (64 : Nat) (256 : Int) ≤ x) && true && true &&
            (decide ((↑(BitVec.setWidth (8 : Nat) x).toNat : Int) < (256 : Int)) && true && true))) &&
      true,
    Fin.ret
      (V.int IntKind.i64
        (wrapI IntKind.i64
          ((0 : Int) +
            (↑(lenTab.getD
                    (BitVec.setWidth (8 : Nat) x).toNat (OfNat.ofNat (0 : Nat))).toNat :
              Int)))),
    []) := by kernel_rfl
end
end Go.Proofs.Ytajbaocfdlopbaa.K
end
section
open Go Go.Lh
namespace Go.Proofs.Ytajbaocfdlopbaa.K
noncomputable section
set_option maxRecDepth 100000
def lenN (n : Nat) : Nat := if n = 0 then 0 else Nat.log2 n + 1
theorem lenN_half {n : Nat} (h : 1 ≤ n) : lenN n = lenN (n / 2) + 1 := by
  unfold lenN
  rw [if_neg (by omega)]
  by_cases h2 : n / 2 = 0
  · have : n = 1 := by omega
    subst this
    rfl
  · rw [if_neg h2, Nat.log2_def, if_pos (by omega)]
theorem lenN_shift {s : Nat} : ∀ {n : Nat}, 2 ^ s ≤ n → lenN n = lenN (n / 2 ^ s) + s := by
  induction s with
  | zero => intro n h; simp
  | succ s ih =>
    intro n h
    have e : 2 ^ (s + 1) = 2 * 2 ^ s := by rw [Nat.pow_succ, Nat.mul_comm]
    have p : 0 < 2 ^ s := Nat.two_pow_pos s
    rw [e] at h ⊢
    rw [lenN_half (by omega), ih (by omega), Nat.div_div_eq_div_mul]
    omega
theorem tab_all : (List.range 256).all (fun i => (lenTab.getD i (OfNat.ofNat 0)).toNat == lenN i && Nat.ble (lenN i) 8) = true := by kernel_rfl
theorem lenIx {y : BitVec 64} (h : y.toNat < 256) : (lenTab.getD (BitVec.setWidth 8 y).toNat (OfNat.ofNat 0)).toNat = lenN y.toNat ∧ lenN y.toNat ≤ 8 := by
  have e : (BitVec.setWidth 8 y).toNat = y.toNat := by rw [BitVec.toNat_setWidth, Nat.mod_eq_of_lt h]
  have := List.all_eq_true.1 tab_all y.toNat (List.mem_range.2 h)
  simp only [Bool.and_eq_true, beq_iff_eq] at this
  rw [e]
  exact ⟨this.1, Nat.le_of_ble_eq_true this.2⟩
theorem sh_n (x : BitVec 64) (s : Nat) : (x >>> s).toNat = x.toNat / 2 ^ s := by rw [BitVec.toNat_ushiftRight, Nat.shiftRight_eq_div_pow]
theorem b32 (x : BitVec 64) : (BitVec.ofInt 64 4294967296 ≤ x) = (4294967296 ≤ x.toNat) := rfl
theorem b16 (x : BitVec 64) : (BitVec.ofInt 64 65536 ≤ x) = (65536 ≤ x.toNat) := rfl
theorem b8 (x : BitVec 64) : (BitVec.ofInt 64 256 ≤ x) = (256 ≤ x.toNat) := rfl
theorem len_end (c k m : Nat) (h : k ≤ 8) (hc : c ≤ 100) (e : m = k + c) : wrapI .i64 ((c : Int) + (k : Int)) = (m : Int) := by
  rw [wrapI_in (by omega) (by omega), e]; omega
theorem len64_fn (x : BitVec 64) : LFn Pr 123 [.u64 x] [] (.ret (.int .i64 (lenN x.toNat : Nat))) [] := by
  have hx := x.isLt
  by_cases h0 : 4294967296 ≤ x.toNat
  · skip
    by_cases h1 : 65536 ≤ (x >>> 32).toNat
    · skip
      by_cases h2 : 256 ≤ ((x >>> 32) >>> 16).toNat
      · skip
        have h4 : (((x >>> 32) >>> 16) >>> 8).toNat < 256 := by (try simp only [sh_n] at *); omega
        obtain ⟨t1, t2⟩ := lenIx h4
        have e0 : lenN x.toNat = lenN (x >>> 32).toNat + 32 := by rw [sh_n x 32]; exact lenN_shift (s := 32) (by omega)
        have e1 : lenN (x >>> 32).toNat = lenN ((x >>> 32) >>> 16).toNat + 16 := by rw [sh_n (x >>> 32) 16]; exact lenN_shift (s := 16) (by omega)
        have e2 : lenN ((x >>> 32) >>> 16).toNat = lenN (((x >>> 32) >>> 16) >>> 8).toNat + 8 := by rw [sh_n ((x >>> 32) >>> 16) 8]; exact lenN_shift (s := 8) (by omega)
        refine execFD_sound (fn := Go.Proofs.Try.f123) (withAsm_sound OW4_sound) mixed (by kernel_rfl) (fun _ _ _ _ => LoopOk.none) ((len_yyy x).trans (stF ?_ ?_ rfl))
        · simp only [b32, b16, b8, Bool.and_eq_true, Bool.and_true, decide_eq_true_eq, Bool.not_eq_true', decide_eq_false_iff_not, BitVec.toNat_setWidth]
          refine ⟨by omega, by omega, by omega, by omega⟩
        · rw [t1]
          exact congrArg (fun z => Fin.ret (V.int IntKind.i64 z)) (len_end 56 _ _ t2 (by omega) (by omega))
      · skip
        have h4 : ((x >>> 32) >>> 16).toNat < 256 := by (try simp only [sh_n] at *); omega
        obtain ⟨t1, t2⟩ := lenIx h4
        have e0 : lenN x.toNat = lenN (x >>> 32).toNat + 32 := by rw [sh_n x 32]; exact lenN_shift (s := 32) (by omega)
        have e1 : lenN (x >>> 32).toNat = lenN ((x >>> 32) >>> 16).toNat + 16 := by rw [sh_n (x >>> 32) 16]; exact lenN_shift (s := 16) (by omega)
        refine execFD_sound (fn := Go.Proofs.Try.f123) (withAsm_sound OW4_sound) mixed (by kernel_rfl) (fun _ _ _ _ => LoopOk.none) ((len_yyn x).trans (stF ?_ ?_ rfl))
        · simp only [b32, b16, b8, Bool.and_eq_true, Bool.and_true, decide_eq_true_eq, Bool.not_eq_true', decide_eq_false_iff_not, BitVec.toNat_setWidth]
          refine ⟨by omega, by omega, by omega, by omega⟩
        · rw [t1]
          exact congrArg (fun z => Fin.ret (V.int IntKind.i64 z)) (len_end 48 _ _ t2 (by omega) (by omega))
    · skip
      by_cases h2 : 256 ≤ (x >>> 32).toNat
      · skip
        have h4 : ((x >>> 32) >>> 8).toNat < 256 := by (try simp only [sh_n] at *); omega
        obtain ⟨t1, t2⟩ := lenIx h4
        have e0 : lenN x.toNat = lenN (x >>> 32).toNat + 32 := by rw [sh_n x 32]; exact lenN_shift (s := 32) (by omega)
        have e2 : lenN (x >>> 32).toNat = lenN ((x >>> 32) >>> 8).toNat + 8 := by rw [sh_n (x >>> 32) 8]; exact lenN_shift (s := 8) (by omega)
        refine execFD_sound (fn := Go.Proofs.Try.f123) (withAsm_sound OW4_sound) mixed (by kernel_rfl) (fun _ _ _ _ => LoopOk.none) ((len_yny x).trans (stF ?_ ?_ rfl))
        · simp only [b32, b16, b8, Bool.and_eq_true, Bool.and_true, decide_eq_true_eq, Bool.not_eq_true', decide_eq_false_iff_not, BitVec.toNat_setWidth]
          refine ⟨by omega, by omega, by omega, by omega⟩
        · rw [t1]
          exact congrArg (fun z => Fin.ret (V.int IntKind.i64 z)) (len_end 40 _ _ t2 (by omega) (by omega))
      · skip
        have h4 : (x >>> 32).toNat < 256 := by (try simp only [sh_n] at *); omega
        obtain ⟨t1, t2⟩ := lenIx h4
        have e0 : lenN x.toNat = lenN (x >>> 32).toNat + 32 := by rw [sh_n x 32]; exact lenN_shift (s := 32) (by omega)
        refine execFD_sound (fn := Go.Proofs.Try.f123) (withAsm_sound OW4_sound) mixed (by kernel_rfl) (fun _ _ _ _ => LoopOk.none) ((len_ynn x).trans (stF ?_ ?_ rfl))
        · simp only [b32, b16, b8, Bool.and_eq_true, Bool.and_true, decide_eq_true_eq, Bool.not_eq_true', decide_eq_false_iff_not, BitVec.toNat_setWidth]
          refine ⟨by omega, by omega, by omega, by omega⟩
        · rw [t1]
          exact congrArg (fun z => Fin.ret (V.int IntKind.i64 z)) (len_end 32 _ _ t2 (by omega) (by omega))
  · skip
    by_cases h1 : 65536 ≤ x.toNat
    · skip
      by_cases h2 : 256 ≤ (x >>> 16).toNat
      · skip
        have h4 : ((x >>> 16) >>> 8).toNat < 256 := by (try simp only [sh_n] at *); omega
        obtain ⟨t1, t2⟩ := lenIx h4
        have e1 : lenN x.toNat = lenN (x >>> 16).toNat + 16 := by rw [sh_n x 16]; exact lenN_shift (s := 16) (by omega)
        have e2 : lenN (x >>> 16).toNat = lenN ((x >>> 16) >>> 8).toNat + 8 := by rw [sh_n (x >>> 16) 8]; exact lenN_shift (s := 8) (by omega)
        refine execFD_sound (fn := Go.Proofs.Try.f123) (withAsm_sound OW4_sound) mixed (by kernel_rfl) (fun _ _ _ _ => LoopOk.none) ((len_nyy x).trans (stF ?_ ?_ rfl))
        · simp only [b32, b16, b8, Bool.and_eq_true, Bool.and_true, decide_eq_true_eq, Bool.not_eq_true', decide_eq_false_iff_not, BitVec.toNat_setWidth]
          refine ⟨by omega, by omega, by omega, by omega⟩
        · rw [t1]
          exact congrArg (fun z => Fin.ret (V.int IntKind.i64 z)) (len_end 24 _ _ t2 (by omega) (by omega))
      · skip
        have h4 : (x >>> 16).toNat < 256 := by (try simp only [sh_n] at *); omega
        obtain ⟨t1, t2⟩ := lenIx h4
        have e1 : lenN x.toNat = lenN (x >>> 16).toNat + 16 := by rw [sh_n x 16]; exact lenN_shift (s := 16) (by omega)
        refine execFD_sound (fn := Go.Proofs.Try.f123) (withAsm_sound OW4_sound) mixed (by kernel_rfl) (fun _ _ _ _ => LoopOk.none) ((len_nyn x).trans (stF ?_ ?_ rfl))
        · simp only [b32, b16, b8, Bool.and_eq_true, Bool.and_true, decide_eq_true_eq, Bool.not_eq_true', decide_eq_false_iff_not, BitVec.toNat_setWidth]
          refine ⟨by omega, by omega, by omega, by omega⟩
        · rw [t1]
          exact congrArg (fun z => Fin.ret (V.int IntKind.i64 z)) (len_end 16 _ _ t2 (by omega) (by omega))
    · skip
      by_cases h2 : 256 ≤ x.toNat
      · skip
        have h4 : (x >>> 8).toNat < 256 := by (try simp only [sh_n] at *); omega
        obtain ⟨t1, t2⟩ := lenIx h4
        have e2 : lenN x.toNat = lenN (x >>> 8).toNat + 8 := by rw [sh_n x 8]; exact lenN_shift (s := 8) (by omega)
        refine execFD_sound (fn := Go.Proofs.Try.f123) (withAsm_sound OW4_sound) mixed (by kernel_rfl) (fun _ _ _ _ => LoopOk.none) ((len_nny x).trans (stF ?_ ?_ rfl))
        · simp only [b32, b16, b8, Bool.and_eq_true, Bool.and_true, decide_eq_true_eq, Bool.not_eq_true', decide_eq_false_iff_not, BitVec.toNat_setWidth]
          refine ⟨by omega, by omega, by omega, by omega⟩
        · rw [t1]
          exact congrArg (fun z => Fin.ret (V.int IntKind.i64 z)) (len_end 8 _ _ t2 (by omega) (by omega))
      · skip
        have h4 : x.toNat < 256 := by (try simp only [sh_n] at *); omega
        obtain ⟨t1, t2⟩ := lenIx h4
        refine execFD_sound (fn := Go.Proofs.Try.f123) (withAsm_sound OW4_sound) mixed (by kernel_rfl) (fun _ _ _ _ => LoopOk.none) ((len_nnn x).trans (stF ?_ ?_ rfl))
        · simp only [b32, b16, b8, Bool.and_eq_true, Bool.and_true, decide_eq_true_eq, Bool.not_eq_true', decide_eq_false_iff_not, BitVec.toNat_setWidth]
          refine ⟨by omega, by omega, by omega, by omega⟩
        · rw [t1]
          exact congrArg (fun z => Fin.ret (V.int IntKind.i64 z)) (len_end 0 _ _ t2 (by omega) (by omega))
end
end Go.Proofs.Ytajbaocfdlopbaa.K
end
section
open Go Go.Lh
namespace Go.Proofs.Ytajbaocfdlopbaa.K
noncomputable section
set_option maxRecDepth 100000
def len64_g := ctU (fun x => .int .i64 (lenN x.toNat : Nat))
theorem len64_en : Enters Pr 123 := Enters.of (fn := Go.Proofs.Try.f123) (by kernel_rfl) (by kernel_rfl)
def OW6 : Orc := auto Pr ext [(123, len64_g)] [81] 3
theorem OW6_sound : OrcSound Pr OW6 := auto_sound mixed ext_ok (KOk.cons len64_en (ctU_ok len64_fn) KOk.nil) (by kernel_rfl) 3
theorem lngN (ls : List (BitVec 64)) (i : Int) :
  execN Pr (withAsm OW6 [((7 : Nat), true), ((13 : Nat), false)]) noLoops [] (100 : Nat) (0 : Nat)
  [(2 : Nat), (3 : Nat), (4 : Nat)] (loopBody Go.Proofs.Try.f119 (0 : Nat))
  [((2 : Nat), V.int IntKind.i64 (0 : Int)), ((3 : Nat), V.ptr (0 : Nat) (0 : Nat)), ((4 : Nat), V.int IntKind.i64 i)]
  [Blk.b64 ls] =
  some
  (decide (i ≥ (0 : Int)) && true && true &&
      (decide ((0 : Int) ≤ i) && decide (i < (4 : Int)) &&
            (decide ((0 : Nat) + i.toNat * (1 : Nat) < ls.length) &&
              (!ls.getD ((0 : Nat) + i.toNat * (1 : Nat)) (OfNat.ofNat (0 : Nat)) !=
                    BitVec.ofInt (64 : Nat) (0 : Int) &&
                true)) &&
          true &&
        true),
    X.normal,
    [((2 : Nat), V.int IntKind.i64 (0 : Int)), ((3 : Nat), V.ptr (0 : Nat) (0 : Nat)),
      ((4 : Nat), V.int IntKind.i64 (wrapI IntKind.i64 (i - (1 : Int))))],
    [Blk.b64 ls]) := by kernel_rfl
theorem lngR (ls : List (BitVec 64)) (i : Int) :
  execN Pr (withAsm OW6 [((7 : Nat), true), ((13 : Nat), true)]) noLoops [] (100 : Nat) (0 : Nat) [(2 : Nat)]
  (loopBody Go.Proofs.Try.f119 (0 : Nat))
  [((2 : Nat), V.int IntKind.i64 (0 : Int)), ((3 : Nat), V.ptr (0 : Nat) (0 : Nat)), ((4 : Nat), V.int IntKind.i64 i)]
  [Blk.b64 ls] =
  some
  (decide (i ≥ (0 : Int)) && true && true &&
      (decide ((0 : Int) ≤ i) && decide (i < (4 : Int)) &&
          (decide ((0 : Nat) + i.toNat * (1 : Nat) < ls.length) &&
            (ls.getD ((0 : Nat) + i.toNat * (1 : Nat)) (OfNat.ofNat (0 : Nat)) != BitVec.ofInt (64 : Nat) (0 : Int) &&
              true)) &&
        (decide ((0 : Int) ≤ i) && decide (i < (4 : Int)) &&
            (decide ((0 : Nat) + i.toNat * (1 : Nat) < ls.length) && true) &&
          true)),
    X.ret,
    [((2 : Nat),
        V.int IntKind.i64
          (wrapI IntKind.i64
            (wrapI IntKind.i64 ((64 : Int) * i) +
              (↑(lenN (ls.getD ((0 : Nat) + i.toNat * (1 : Nat)) (OfNat.ofNat (0 : Nat))).toNat) : Int))))],
    []) := by kernel_rfl
theorem lngX (ls : List (BitVec 64)) (i : Int) :
  execN Pr (withAsm OW6 [((7 : Nat), false)]) noLoops [] (100 : Nat) (0 : Nat) [(2 : Nat)]
  (loopBody Go.Proofs.Try.f119 (0 : Nat))
  [((2 : Nat), V.int IntKind.i64 (0 : Int)), ((3 : Nat), V.ptr (0 : Nat) (0 : Nat)), ((4 : Nat), V.int IntKind.i64 i)]
  [Blk.b64 ls] =
  some
  (!decide (i ≥ (0 : Int)) && true && true, X.exit (0 : Nat), [((2 : Nat), V.int IntKind.i64 (0 : Int))],
    []) := by kernel_rfl
structure LV where
  ls : List (BitVec 64)
  t : Int
  i : Int
def lenL (ls : List (BitVec 64)) : Nat → Nat
  | 0 => 0
  | j + 1 => if ls.getD j 0 = 0 then lenL ls j else 64 * j + lenN (ls.getD j 0).toNat
def lng_S : LV → Fr × Heap := fun a => ([(2,.int .i64 a.t),(3,.ptr 0 0),(4,.int .i64 a.i)], [.b64 a.ls])
def lng_read : Fr → Heap → Option LV := fun f h => match f, h with
  | [(2,.int .i64 t),(3,.ptr 0 0),(4,.int .i64 i)], [.b64 ls] => some ⟨ls, t, i⟩
  | _, _ => none
def lng_k : Nat := 0
def lng1_ok : LV → Bool := fun a => decide (a.ls.length = 4) && decide (a.t = 0) && decide (-1 ≤ a.i) && decide (a.i ≤ 3) && decide (lenL a.ls (a.i + 1).toNat ≠ 0)
def lng1_E : LV → X × Fr × Heap := fun a => (.ret, [(2,.int .i64 ((lenL a.ls (a.i + 1).toNat : Nat) : Int))], [])
def lng1_s : Sm := whS 3 [2,3,4] lng_read lng1_ok lng1_E
def lng0_ok : LV → Bool := fun a => decide (a.ls.length = 4) && decide (a.t = 0) && decide (-1 ≤ a.i) && decide (a.i ≤ 3) && decide (lenL a.ls (a.i + 1).toNat = 0)
def lng0_E : LV → X × Fr × Heap := fun a => (.exit 0, [(2,.int .i64 0)], [])
def lng0_s : Sm := whS 3 [2,3,4] lng_read lng0_ok lng0_E
theorem lenN_pos {x : BitVec 64} (h : ¬ x = 0) : 1 ≤ lenN x.toNat := by
  unfold lenN
  rw [if_neg]
  · omega
  · intro e; exact h (BitVec.eq_of_toNat_eq e)
theorem lenN_lt (n : Nat) : n < 2 ^ lenN n := by
  unfold lenN
  split
  · omega
  · exact Nat.lt_log2_self
theorem lenN_le {n : Nat} (h : n ≠ 0) : 2 ^ (lenN n - 1) ≤ n := by
  unfold lenN
  rw [if_neg h]
  exact Nat.log2_self_le h
theorem lenN_max {n k : Nat} (h : n < 2 ^ k) : lenN n ≤ k := by
  by_cases e : n = 0
  · subst e; simp [lenN]
  · have := Nat.lt_of_le_of_lt (lenN_le e) h
    have := (Nat.pow_lt_pow_iff_right (a := 2) (by omega)).1 this
    omega
theorem lng_round (a : LV) (h1 : a.ls.length = 4) (h2 : a.t = 0) (h3 : -1 ≤ a.i) (h4 : a.i ≤ 3) :
    (a.i = -1 ∧ Runs Pr (Func.ntmps Go.Proofs.Try.f119) 0 (loopBody Go.Proofs.Try.f119 0) (lng_S a).1 (lng_S a).2 (EndW (Func.ntmps Go.Proofs.Try.f119) 0 (.exit 0) [(2,.int .i64 0)] [])) ∨
    (∃ j : Nat, a.i = (j : Int) ∧ a.ls.getD j 0 = 0 ∧ Runs Pr (Func.ntmps Go.Proofs.Try.f119) 0 (loopBody Go.Proofs.Try.f119 0) (lng_S a).1 (lng_S a).2 (EndW (Func.ntmps Go.Proofs.Try.f119) 0 .normal (lng_S ⟨a.ls, 0, (j : Int) - 1⟩).1 (lng_S ⟨a.ls, 0, (j : Int) - 1⟩).2)) ∨
    (∃ j : Nat, a.i = (j : Int) ∧ ¬ a.ls.getD j 0 = 0 ∧ Runs Pr (Func.ntmps Go.Proofs.Try.f119) 0 (loopBody Go.Proofs.Try.f119 0) (lng_S a).1 (lng_S a).2 (EndW (Func.ntmps Go.Proofs.Try.f119) 0 .ret [(2,.int .i64 ((64 * j + lenN (a.ls.getD j 0).toNat : Nat) : Int))] [])) := by
  obtain ⟨ls, t, i⟩ := a
  simp only at h1 h2 h3 h4
  subst h2
  by_cases hi : 0 ≤ i
  · obtain ⟨j, rfl⟩ : ∃ j : Nat, i = (j : Int) := ⟨i.toNat, by omega⟩
    have ew : wrapI .i64 ((j : Int) - 1) = (j : Int) - 1 := wrapI_in (by omega) (by omega)
    have e1 : (j : Int).toNat = j := rfl
    by_cases hz : ls.getD j 0 = 0
    · refine .inr (.inl ⟨j, rfl, hz, execN_sound (withAsm_sound OW6_sound) mixed (LoopsOk.innerAt (LoopsOk.none (P := Pr) (fn := Go.Proofs.Try.f119) (n0 := 0)) 0) (by kernel_rfl) (by intro v h; cases h) ((lngN ls j).trans (stX ?_ ?_ rfl))⟩)
      · have hz2 : ls.getD j (OfNat.ofNat 0) = BitVec.ofInt 64 0 := hz
        simp only [e1, Nat.mul_one, Nat.zero_add, hz2, h1]
        simp
        omega
      · rw [ew]; rfl
    · have hx := (ls.getD j 0).isLt
      have hm := lenN_max hx
      refine .inr (.inr ⟨j, rfl, hz, execN_sound (withAsm_sound OW6_sound) mixed (LoopsOk.innerAt (LoopsOk.none (P := Pr) (fn := Go.Proofs.Try.f119) (n0 := 0)) 0) (by kernel_rfl) (by intro v h; cases h) ((lngR ls j).trans (stX ?_ ?_ rfl))⟩)
      · have hz2 : (ls.getD j (OfNat.ofNat 0) != BitVec.ofInt 64 0) = true := by rw [bne_iff_ne]; exact hz
        simp only [e1, Nat.mul_one, Nat.zero_add, hz2, h1, always]
        simp
        omega
      · simp only [e1, Nat.mul_one, Nat.zero_add]
        have eq : wrapI .i64 (wrapI .i64 ((64 : Int) * (j : Int)) + ((lenN (ls.getD j 0).toNat : Nat) : Int)) = ((64 * j + lenN (ls.getD j 0).toNat : Nat) : Int) := by
          rw [wrapI_in (x := 64 * (j : Int)) (by omega) (by omega), wrapI_in (by omega) (by omega)]; omega
        exact congrArg (fun z => [(2, V.int IntKind.i64 z)]) eq
  · obtain rfl : i = -1 := by omega
    exact .inl ⟨rfl, execN_sound (withAsm_sound OW6_sound) mixed (LoopsOk.innerAt (LoopsOk.none (P := Pr) (fn := Go.Proofs.Try.f119) (n0 := 0)) 0) (by kernel_rfl) (by intro v h; cases h) ((lngX ls (-1)).trans (stX rfl rfl rfl))⟩
theorem lng_hr : ∀ f g a, lng_read f g = some a → (f, g) = lng_S a := by
  intro f g a h
  unfold lng_read at h
  split at h <;> cases h
  rfl
theorem lng_e (j : Nat) : ((j : Int) + 1).toNat = j + 1 ∧ ((j : Int) - 1 + 1).toNat = j := by omega
theorem lng1_at : SmAt Pr Go.Proofs.Try.f119 0 lng1_s lng_k := by
  refine whS_at lng_S (fun a => (a.i + 1).toNat) (by kernel_rfl) (by kernel_rfl) lng_hr ?_
  intro a hok
  obtain ⟨ls, t, i⟩ := a
  simp only [lng1_ok, Bool.and_eq_true, decide_eq_true_eq] at hok
  obtain ⟨⟨⟨⟨h1, h2⟩, h3⟩, h4⟩, h5⟩ := hok
  rcases lng_round ⟨ls, t, i⟩ h1 h2 h3 h4 with ⟨e, _⟩ | ⟨j, e, hz, run⟩ | ⟨j, e, hz, run⟩ <;> simp only at e <;> subst e
  · exact (h5 rfl).elim
  · obtain ⟨q1, q2⟩ := lng_e j
    have hl : lenL ls (j + 1) = lenL ls j := by rw [lenL, if_pos hz]
    rw [q1, hl] at h5
    refine .inl ⟨_, ?_, ?_, ?_, run⟩
    · simp only [lng1_ok, Bool.and_eq_true, decide_eq_true_eq]
      refine ⟨⟨⟨⟨h1, by first | exact True.intro | rfl⟩, by omega⟩, by omega⟩, ?_⟩
      rw [q2]; exact h5
    · simp only; omega
    · simp only [lng1_E, q1, q2, hl]
  · obtain ⟨q1, q2⟩ := lng_e j
    refine .inr ⟨by simp [lng1_E], ?_⟩
    have hl : lenL ls (j + 1) = 64 * j + lenN (ls.getD j 0).toNat := by rw [lenL, if_neg hz]
    simp only [lng1_E, q1, hl]
    exact run
theorem lng0_at : SmAt Pr Go.Proofs.Try.f119 0 lng0_s lng_k := by
  refine whS_at lng_S (fun a => (a.i + 1).toNat) (by kernel_rfl) (by kernel_rfl) lng_hr ?_
  intro a hok
  obtain ⟨ls, t, i⟩ := a
  simp only [lng0_ok, Bool.and_eq_true, decide_eq_true_eq] at hok
  obtain ⟨⟨⟨⟨h1, h2⟩, h3⟩, h4⟩, h5⟩ := hok
  rcases lng_round ⟨ls, t, i⟩ h1 h2 h3 h4 with ⟨e, run⟩ | ⟨j, e, hz, run⟩ | ⟨j, e, hz, run⟩ <;> simp only at e <;> subst e
  · exact .inr ⟨by simp [lng0_E], run⟩
  · obtain ⟨q1, q2⟩ := lng_e j
    have hl : lenL ls (j + 1) = lenL ls j := by rw [lenL, if_pos hz]
    rw [q1, hl] at h5
    refine .inl ⟨⟨ls, 0, (j : Int) - 1⟩, ?_, ?_, rfl, run⟩
    · simp only [lng0_ok, Bool.and_eq_true, decide_eq_true_eq]
      refine ⟨⟨⟨⟨h1, by first | exact True.intro | rfl⟩, by omega⟩, by omega⟩, ?_⟩
      rw [q2]; exact h5
    · simp only; omega
  · obtain ⟨q1, q2⟩ := lng_e j
    have hl : lenL ls (j + 1) = 64 * j + lenN (ls.getD j 0).toNat := by rw [lenL, if_neg hz]
    have : 1 ≤ lenN (ls.getD j 0).toNat := lenN_pos hz
    rw [q1, hl] at h5
    omega
def OW6a : Orc := auto Pr ext [] [81] 3
theorem OW6a_sound : OrcSound Pr OW6a := auto_sound mixed ext_ok KOk.nil (by kernel_rfl) 3
theorem lng1L : LoopsOk Pr Go.Proofs.Try.f119 0 (smL 0 [lng1_s]) := LoopsOk.of [(lng1_s, lng_k)] (by kernel_rfl) (by
  intro p hp
  simp only [List.mem_cons, List.not_mem_nil, or_false] at hp
  subst hp
  exact lng1_at)
theorem lng0L : LoopsOk Pr Go.Proofs.Try.f119 0 (smL 0 [lng0_s]) := LoopsOk.of [(lng0_s, lng_k)] (by kernel_rfl) (by
  intro p hp
  simp only [List.mem_cons, List.not_mem_nil, or_false] at hp
  subst hp
  exact lng0_at)
theorem lng1_x (x : W4) :
  execF Pr OW6a (smL (0 : Nat) [lng1_s]) (100 : Nat) Go.Proofs.Try.f119 [x.v] [] =
  some
  (lng1_ok (LV.mk [x.d, x.c, x.b, x.a] (0 : Int) (3 : Int)) && true,
    Fin.ret (V.int IntKind.i64 (↑(lenL [x.d, x.c, x.b, x.a] ((3 : Int) + (1 : Int)).toNat) : Int)), []) := by kernel_rfl
theorem lng0_x (x : W4) :
  execF Pr OW6a (smL (0 : Nat) [lng0_s]) (100 : Nat) Go.Proofs.Try.f119 [x.v] [] =
  some
  (lng0_ok (LV.mk [x.d, x.c, x.b, x.a] (0 : Int) (3 : Int)) && true && true, Fin.ret (V.int IntKind.i64 (0 : Int)),
    []) := by kernel_rfl
theorem len_split {a m s : Nat} (ha : a ≠ 0) (hm : m < 2 ^ s) : lenN (2 ^ s * a + m) = lenN a + s := by
  have p := Nat.two_pow_pos s
  rw [lenN_shift (s := s), Nat.mul_add_div p, Nat.div_eq_of_lt hm, Nat.add_zero]
  have : 2 ^ s * 1 ≤ 2 ^ s * a := Nat.mul_le_mul_left _ (by omega)
  omega
theorem zero_iff (x : BitVec 64) : (x = 0) ↔ x.toNat = 0 := ⟨fun h => by rw [h]; rfl, fun h => BitVec.eq_of_toNat_eq h⟩
theorem lenL_eq (x : W4) : lenL [x.d, x.c, x.b, x.a] 4 = lenN x.n := by
  have hb := x.b.isLt
  have hc := x.c.isLt
  have hd := x.d.isLt
  simp only [lenL, List.getD_cons_succ, List.getD_cons_zero, zero_iff]
  unfold W4.n
  by_cases h3 : x.a.toNat = 0
  · rw [if_pos h3, h3, Nat.mul_zero]; simp only [Nat.zero_add]
    by_cases h2 : x.b.toNat = 0
    · rw [if_pos h2, h2, Nat.mul_zero]; simp only [Nat.zero_add]
      by_cases h1 : x.c.toNat = 0
      · rw [if_pos h1, h1, Nat.mul_zero]; simp only [Nat.zero_add]
        by_cases h0 : x.d.toNat = 0
        · rw [if_pos h0, h0]; rfl
        · rw [if_neg h0]
      · rw [if_neg h1, len_split h1 (by omega)]; omega
    · rw [if_neg h2, len_split h2 (by omega)]; omega
  · rw [if_neg h3, len_split h3 (by omega)]; omega
theorem length_fn (x : W4) : LFn Pr 119 [x.v] [] (.ret (.int .i64 (lenN x.n : Nat))) [] := by
  have e := lenL_eq x
  by_cases h : lenL [x.d, x.c, x.b, x.a] 4 = 0
  · refine execF_sound (fn := Go.Proofs.Try.f119) OW6a_sound mixed (by kernel_rfl) lng0L ((lng0_x x).trans (stF ?_ ?_ rfl))
    · simp [lng0_ok]; exact h
    · rw [← e, h]; rfl
  · refine execF_sound (fn := Go.Proofs.Try.f119) OW6a_sound mixed (by kernel_rfl) lng1L ((lng1_x x).trans (stF ?_ ?_ rfl))
    · simp [lng1_ok]; exact h
    · rw [← e]; rfl
end
end Go.Proofs.Ytajbaocfdlopbaa.K
end
section
open Go Go.Lh
namespace Go.Proofs.Ytajbaocfdlopbaa.K
noncomputable section
set_option maxRecDepth 100000
def wl (x : W4) : List (BitVec 64) := [x.a, x.b, x.c, x.d]
def inRange (n : Int) : Bool := decide (0 ≤ n) && decide (n < 256)
def left_g := ctWI (fun _ n => inRange n) (fun x n => (W4.shl x n.toNat).v)
def less_g := ctWW (fun x y => .bool (W4.lt x y))
def sub_g := ctWW (fun x y => (W4.sub x y).v)
def or_g := ctWW (fun x y => (W4.orW x y).v)
def from_g := ctU (fun x => (W4.small x).v)
theorem left_en : Enters Pr 104 := Enters.of (fn := Go.Proofs.Try.f104) (by kernel_rfl) (by kernel_rfl)
theorem less_en : Enters Pr 38 := Enters.of (fn := Go.Proofs.Try.f38) (by kernel_rfl) (by kernel_rfl)
theorem sub_en : Enters Pr 39 := Enters.of (fn := Go.Proofs.Try.f39) (by kernel_rfl) (by kernel_rfl)
theorem or_en : Enters Pr 120 := Enters.of (fn := Go.Proofs.Try.f120) (by kernel_rfl) (by kernel_rfl)
theorem from_en : Enters Pr 36 := Enters.of (fn := Go.Proofs.Try.f36) (by kernel_rfl) (by kernel_rfl)
def OW7 : Orc := auto Pr ext [(104, left_g), (38, less_g), (39, sub_g), (120, or_g), (36, from_g)] [] 3
theorem OW7_sound : OrcSound Pr OW7 := auto_sound mixed ext_ok (KOk.cons left_en (ctWI_ok fun x n h => left_fn x n (by simp [inRange] at h; omega) (by simp [inRange] at h; omega)) (KOk.cons less_en (ctWW_ok less_fn) (KOk.cons sub_en (ctWW_ok sub_fn) (KOk.cons or_en (ctWW_ok or_fn) (KOk.cons from_en (ctU_ok from_fn) KOk.nil))))) (by kernel_rfl) 3
theorem dvY (b : W4) (q : W4) (r : W4) (n : Int) :
  execN Pr (withAsm OW7 [((19 : Nat), true)]) noLoops [((29 : Nat), true)] (100 : Nat) (0 : Nat)
  [(3 : Nat), (4 : Nat), (5 : Nat), (6 : Nat)] (loopBody Go.Proofs.Try.f111 (0 : Nat))
  [((3 : Nat), V.ptr (0 : Nat) (0 : Nat)), ((4 : Nat), V.ptr (1 : Nat) (0 : Nat)),
    ((5 : Nat), V.ptr (2 : Nat) (0 : Nat)), ((6 : Nat), V.int IntKind.i64 n)]
  [Blk.b64 [b.a, b.b, b.c, b.d], Blk.b64 [q.a, q.b, q.c, q.d], Blk.b64 [r.a, r.b, r.c, r.d]] =
  some
  (decide (n ≥ (0 : Int)) && true && true &&
      (inRange n && true && (!r.lt (b.shl n.toNat) && (inRange n && true)) && true),
    X.normal,
    [((3 : Nat), V.ptr (0 : Nat) (0 : Nat)), ((4 : Nat), V.ptr (1 : Nat) (0 : Nat)),
      ((5 : Nat), V.ptr (2 : Nat) (0 : Nat)), ((6 : Nat), V.int IntKind.i64 (wrapI IntKind.i64 (n - (1 : Int))))],
    [Blk.b64 [b.a, b.b, b.c, b.d],
      Blk.b64
        [(q.orW ((W4.small (BitVec.ofInt (64 : Nat) (1 : Int))).shl n.toNat)).a,
          (q.orW ((W4.small (BitVec.ofInt (64 : Nat) (1 : Int))).shl n.toNat)).b,
          (q.orW ((W4.small (BitVec.ofInt (64 : Nat) (1 : Int))).shl n.toNat)).c,
          (q.orW ((W4.small (BitVec.ofInt (64 : Nat) (1 : Int))).shl n.toNat)).d],
      Blk.b64
        [(r.sub (b.shl n.toNat)).a, (r.sub (b.shl n.toNat)).b, (r.sub (b.shl n.toNat)).c,
          (r.sub (b.shl n.toNat)).d]]) := by kernel_rfl
theorem dvN (b : W4) (q : W4) (r : W4) (n : Int) :
  execN Pr (withAsm OW7 [((19 : Nat), true)]) noLoops [((29 : Nat), false)] (100 : Nat) (0 : Nat)
  [(3 : Nat), (4 : Nat), (5 : Nat), (6 : Nat)] (loopBody Go.Proofs.Try.f111 (0 : Nat))
  [((3 : Nat), V.ptr (0 : Nat) (0 : Nat)), ((4 : Nat), V.ptr (1 : Nat) (0 : Nat)),
    ((5 : Nat), V.ptr (2 : Nat) (0 : Nat)), ((6 : Nat), V.int IntKind.i64 n)]
  [Blk.b64 [b.a, b.b, b.c, b.d], Blk.b64 [q.a, q.b, q.c, q.d], Blk.b64 [r.a, r.b, r.c, r.d]] =
  some
  (decide (n ≥ (0 : Int)) && true && true && (inRange n && true && (!!r.lt (b.shl n.toNat) && true) && true), X.normal,
    [((3 : Nat), V.ptr (0 : Nat) (0 : Nat)), ((4 : Nat), V.ptr (1 : Nat) (0 : Nat)),
      ((5 : Nat), V.ptr (2 : Nat) (0 : Nat)), ((6 : Nat), V.int IntKind.i64 (wrapI IntKind.i64 (n - (1 : Int))))],
    [Blk.b64 [b.a, b.b, b.c, b.d], Blk.b64 [q.a, q.b, q.c, q.d], Blk.b64 [r.a, r.b, r.c, r.d]]) := by kernel_rfl
theorem dvX (b : W4) (q : W4) (r : W4) (n : Int) :
  execN Pr (withAsm OW7 [((19 : Nat), false)]) noLoops [] (100 : Nat) (0 : Nat) [(4 : Nat), (5 : Nat)]
  (loopBody Go.Proofs.Try.f111 (0 : Nat))
  [((3 : Nat), V.ptr (0 : Nat) (0 : Nat)), ((4 : Nat), V.ptr (1 : Nat) (0 : Nat)),
    ((5 : Nat), V.ptr (2 : Nat) (0 : Nat)), ((6 : Nat), V.int IntKind.i64 n)]
  [Blk.b64 [b.a, b.b, b.c, b.d], Blk.b64 [q.a, q.b, q.c, q.d], Blk.b64 [r.a, r.b, r.c, r.d]] =
  some
  (!decide (n ≥ (0 : Int)) && true && true, X.exit (0 : Nat),
    [((4 : Nat), V.ptr (0 : Nat) (0 : Nat)), ((5 : Nat), V.ptr (1 : Nat) (0 : Nat))],
    [Blk.b64 [q.a, q.b, q.c, q.d], Blk.b64 [r.a, r.b, r.c, r.d]]) := by kernel_rfl
structure DV where
  b : W4
  q : W4
  r : W4
  n : Int
def dv_S : DV → Fr × Heap := fun a => ([(3,.ptr 0 0),(4,.ptr 1 0),(5,.ptr 2 0),(6,.int .i64 a.n)], [.b64 (wl a.b), .b64 (wl a.q), .b64 (wl a.r)])
def dv_read : Fr → Heap → Option DV := fun f h => match f, h with
  | [(3,.ptr 0 0),(4,.ptr 1 0),(5,.ptr 2 0),(6,.int .i64 n)], [.b64 [a1, a2, a3, a4], .b64 [b1, b2, b3, b4], .b64 [c1, c2, c3, c4]] => some ⟨⟨a1, a2, a3, a4⟩, ⟨b1, b2, b3, b4⟩, ⟨c1, c2, c3, c4⟩, n⟩
  | _, _ => none
def dv_ok : DV → Bool := fun a => decide (0 < a.b.n) && decide (-256 ≤ a.n) && decide (a.n < 256) && decide (a.r.n < a.b.n * 2 ^ (a.n + 1).toNat) && decide (a.q.n % 2 ^ (a.n + 1).toNat = 0) && decide (0 ≤ a.n → a.b.n * 2 ^ a.n.toNat < 2 ^ 256)
def qW (q r b : W4) : W4 := W4.of (BitVec.ofNat 256 (q.n + r.n / b.n))
def rW (r b : W4) : W4 := W4.of (BitVec.ofNat 256 (r.n % b.n))
def dv_E : DV → X × Fr × Heap := fun a => (.exit 0, [(4,.ptr 0 0),(5,.ptr 1 0)], [.b64 (wl (qW a.q a.r a.b)), .b64 (wl (rW a.r a.b))])
def dv_k : Nat := 0
def dv_s : Sm := whS 5 [3,4,5,6] dv_read dv_ok dv_E
theorem orW_n (x y : W4) : (W4.orW x y).n = x.n ||| y.n := by rw [← W4.bv_toNat, W4.orW_bv, BitVec.toNat_or, W4.bv_toNat, W4.bv_toNat]
theorem sub_n {x y : W4} (h : y.n ≤ x.n) : (W4.sub x y).n = x.n - y.n := by
  have hx := x.n_lt
  have hy := y.n_lt
  unfold W4.sub
  rw [W4.of_toNat, BitVec.toNat_sub, W4.bv_toNat, W4.bv_toNat]
  omega
theorem or_pow {x k : Nat} (h : x % 2 ^ (k + 1) = 0) : x ||| 2 ^ k = x + 2 ^ k := by
  have e : x = 2 ^ (k + 1) * (x / 2 ^ (k + 1)) := by have := Nat.div_add_mod x (2 ^ (k + 1)); omega
  rw [e]
  exact (Nat.two_pow_add_eq_or_of_lt (by rw [Nat.pow_succ]; have := Nat.two_pow_pos k; omega) _).symm
theorem or_left {x : W4} {k : Nat} (hk : k < 256) (h : x.n % 2 ^ (k + 1) = 0) : (W4.orW x (W4.shl (W4.small (BitVec.ofInt 64 1)) k)).n = x.n + 2 ^ k := by
  rw [orW_n, W4.shl_n, W4.small_n, show (BitVec.ofInt 64 1).toNat = 1 from rfl, Nat.one_mul, Nat.mod_eq_of_lt (Nat.pow_lt_pow_right (by omega) hk), or_pow h]
theorem of_self (x : W4) : W4.of (BitVec.ofNat 256 x.n) = x := by
  refine W4.ext_n ?_
  rw [W4.of_toNat, BitVec.toNat_ofNat, Nat.mod_eq_of_lt x.n_lt]
theorem step_div {q r b k : Nat} (hb : 0 < b) (h : b * 2 ^ k ≤ r) : (q + 2 ^ k) + (r - b * 2 ^ k) / b = q + r / b ∧ (r - b * 2 ^ k) % b = r % b := by
  obtain ⟨s, rfl⟩ : ∃ s, r = b * 2 ^ k + s := ⟨r - b * 2 ^ k, by omega⟩
  rw [show b * 2 ^ k + s - b * 2 ^ k = s by omega, Nat.mul_add_div hb, Nat.mul_add_mod]
  exact ⟨by omega, rfl⟩
theorem dv_at : SmAt Pr Go.Proofs.Try.f111 0 dv_s dv_k := by
  refine whS_at dv_S (fun a => (a.n + 1).toNat) (by kernel_rfl) (by kernel_rfl) ?_ ?_
  · intro f g a h
    unfold dv_read at h
    split at h <;> cases h
    rfl
  · intro a hok
    obtain ⟨b, q, r, n⟩ := a
    simp only [dv_ok, Bool.and_eq_true, decide_eq_true_eq] at hok
    obtain ⟨⟨⟨⟨⟨h1, h2⟩, h3⟩, h4⟩, h5⟩, h6⟩ := hok
    by_cases hn : 0 ≤ n
    · left
      obtain ⟨k, rfl⟩ : ∃ k : Nat, n = (k : Int) := ⟨n.toNat, by omega⟩
      have ek : ((k : Int) + 1).toNat = k + 1 := by omega
      have ek1 : ((k : Int) - 1 + 1).toNat = k := by omega
      have ew : wrapI .i64 ((k : Int) - 1) = (k : Int) - 1 := wrapI_in (by omega) (by omega)
      have e1 : (k : Int).toNat = k := rfl
      rw [ek] at h4 h5
      have h6 := h6 hn
      rw [e1] at h6
      have p2 : 2 ^ (k + 1) = 2 * 2 ^ k := by rw [Nat.pow_succ, Nat.mul_comm]
      have hm : b.n * 2 ^ (k + 1) = 2 * (b.n * 2 ^ k) := by rw [p2, Nat.mul_left_comm]
      have hs : (W4.shl b k).n = b.n * 2 ^ k := by rw [W4.shl_n, Nat.mod_eq_of_lt h6]
      have h7 : 0 ≤ (k : Int) - 1 → b.n * 2 ^ ((k : Int) - 1).toNat < 2 ^ 256 := by
        intro h0
        refine Nat.lt_of_le_of_lt (Nat.mul_le_mul_left _ (Nat.pow_le_pow_right (by omega) ?_)) h6
        omega
      have hq : q.n % 2 ^ k = 0 := by
        refine Nat.mod_eq_zero_of_dvd (Nat.dvd_trans ?_ (Nat.dvd_of_mod_eq_zero h5))
        exact Nat.pow_dvd_pow 2 (Nat.le_succ k)
      by_cases hl : b.n * 2 ^ k ≤ r.n
      · have hr := sub_n (x := r) (y := W4.shl b k) (by omega)
        rw [hs] at hr
        have ho := or_left (x := q) (by omega) h5
        obtain ⟨d1, d2⟩ := step_div (q := q.n) h1 hl
        refine ⟨⟨b, W4.orW q (W4.shl (W4.small (BitVec.ofInt 64 1)) k), W4.sub r (W4.shl b k), (k : Int) - 1⟩, ?_, ?_, ?_, ?_⟩
        · simp only [dv_ok, Bool.and_eq_true, decide_eq_true_eq]
          refine ⟨⟨⟨⟨⟨h1, by omega⟩, by omega⟩, ?_⟩, ?_⟩, h7⟩
          · rw [ek1, hr]; omega
          · rw [ek1, ho, Nat.add_mod_right, hq]
        · simp only; omega
        · simp only [dv_E, qW, rW, hr, ho, d1, d2]
        · refine execN_sound (withAsm_sound OW7_sound) mixed (LoopsOk.innerAt (LoopsOk.none (P := Pr) (fn := Go.Proofs.Try.f111) (n0 := 0)) 0) (by kernel_rfl) (by intro v h; cases h) ((dvY b q r k).trans (stX ?_ ?_ rfl))
          · simp [always, inRange, W4.lt, hs, hl]; omega
          · rw [ew]; rfl
      · refine ⟨⟨b, q, r, (k : Int) - 1⟩, ?_, ?_, rfl, ?_⟩
        · simp only [dv_ok, Bool.and_eq_true, decide_eq_true_eq]
          refine ⟨⟨⟨⟨⟨h1, by omega⟩, by omega⟩, ?_⟩, ?_⟩, h7⟩
          · rw [ek1]; omega
          · rw [ek1, hq]
        · simp only; omega
        · refine execN_sound (withAsm_sound OW7_sound) mixed (LoopsOk.innerAt (LoopsOk.none (P := Pr) (fn := Go.Proofs.Try.f111) (n0 := 0)) 0) (by kernel_rfl) (by intro v h; cases h) ((dvN b q r k).trans (stX ?_ ?_ rfl))
          · simp [always, inRange, W4.lt, hs]; omega
          · rw [ew]; rfl
    · right
      refine ⟨by simp [dv_E], ?_⟩
      have e0 : (n + 1).toNat = 0 := by omega
      rw [e0, Nat.pow_zero, Nat.mul_one] at h4
      have eq1 : qW q r b = q := by unfold qW; rw [Nat.div_eq_of_lt h4, Nat.add_zero, of_self]
      have er1 : rW r b = r := by unfold rW; rw [Nat.mod_eq_of_lt h4, of_self]
      simp only [dv_E, eq1, er1]
      exact execN_sound (withAsm_sound OW7_sound) mixed (LoopsOk.innerAt (LoopsOk.none (P := Pr) (fn := Go.Proofs.Try.f111) (n0 := 0)) 0) (by kernel_rfl) (by intro v h; cases h) ((dvX b q r n).trans (stX (by simp; omega) rfl rfl))
end
end Go.Proofs.Ytajbaocfdlopbaa.K
end
section
open Go Go.Lh
namespace Go.Proofs.Ytajbaocfdlopbaa.K
noncomputable section
set_option maxRecDepth 100000
def length_g := ctW (fun x => .int .i64 (lenN x.n : Nat))
theorem length_en : Enters Pr 119 := Enters.of (fn := Go.Proofs.Try.f119) (by kernel_rfl) (by kernel_rfl)
def OW8 : Orc := auto Pr ext [(119, length_g)] [] 3
theorem OW8_sound : OrcSound Pr OW8 := auto_sound mixed ext_ok (KOk.cons length_en (ctW_ok length_fn) KOk.nil) (by kernel_rfl) 3
theorem dvL : LoopsOk Pr Go.Proofs.Try.f111 0 (smL 0 [dv_s]) := LoopsOk.of [(dv_s, dv_k)] (by kernel_rfl) (by
  intro p hp
  simp only [List.mem_cons, List.not_mem_nil, or_false] at hp
  subst hp
  exact dv_at)
theorem div_z (x : W4) (y : W4) :
  execFD Pr (withAsm OW8 [((8 : Nat), true)]) (smL (0 : Nat) [dv_s]) [] (100 : Nat) Go.Proofs.Try.f111 [x.v, y.v] [] =
  some
  (y.a == BitVec.ofInt (64 : Nat) (0 : Int) &&
            (y.b == BitVec.ofInt (64 : Nat) (0 : Int) &&
              (y.c == BitVec.ofInt (64 : Nat) (0 : Int) && (y.d == BitVec.ofInt (64 : Nat) (0 : Int) && true))) &&
          true &&
        true &&
      true,
    Fin.ret
      (V.tup
        [V.agg
            [V.u64 (BitVec.ofInt (64 : Nat) (0 : Int)), V.u64 (BitVec.ofInt (64 : Nat) (0 : Int)),
              V.u64 (BitVec.ofInt (64 : Nat) (0 : Int)), V.u64 (BitVec.ofInt (64 : Nat) (0 : Int))],
          V.agg
            [V.u64 (BitVec.ofInt (64 : Nat) (0 : Int)), V.u64 (BitVec.ofInt (64 : Nat) (0 : Int)),
              V.u64 (BitVec.ofInt (64 : Nat) (0 : Int)), V.u64 (BitVec.ofInt (64 : Nat) (0 : Int))]]),
    []) := by kernel_rfl
theorem div_y (x y : W4) : execFD Pr (withAsm OW8 [(8,false)]) (smL 0 [dv_s]) [] 100 Go.Proofs.Try.f111 [x.v, y.v] [] =
    some (!(y.a == BitVec.ofInt 64 0 && (y.b == BitVec.ofInt 64 0 && (y.c == BitVec.ofInt 64 0 && (y.d == BitVec.ofInt 64 0 && true)))) && true && true &&
      (always x && (always y && true) && dv_ok ⟨y, W4.zero, x, wrapI .i64 ((lenN x.n : Int) - (lenN y.n : Int))⟩ && true) && true,
      .ret (.tup [(qW W4.zero x y).v, (rW x y).v]), []) := by kernel_rfl
theorem W4.eq_zero (y : W4) : (y.a == BitVec.ofInt 64 0 && (y.b == BitVec.ofInt 64 0 && (y.c == BitVec.ofInt 64 0 && (y.d == BitVec.ofInt 64 0 && true)))) = decide (y.n = 0) := by
  by_cases h : y.n = 0
  · rw [decide_eq_true h]
    have : y = W4.zero := W4.ext_n h
    subst this
    rfl
  · rw [decide_eq_false h]
    by_cases e : (y.a == BitVec.ofInt 64 0 && (y.b == BitVec.ofInt 64 0 && (y.c == BitVec.ofInt 64 0 && (y.d == BitVec.ofInt 64 0 && true)))) = true
    · simp only [Bool.and_eq_true, beq_iff_eq] at e
      obtain ⟨e1, e2, e3, e4, _⟩ := e
      exact (h (by unfold W4.n; rw [e1, e2, e3, e4]; rfl)).elim
    · exact Bool.eq_false_iff.2 e
def divQ (x y : W4) : W4 := W4.of (BitVec.ofNat 256 (x.n / y.n))
def divR (x y : W4) : W4 := if y.n = 0 then W4.zero else W4.of (BitVec.ofNat 256 (x.n % y.n))
theorem divide_fn (x y : W4) : LFn Pr 111 [x.v, y.v] [] (.ret (.tup [(divQ x y).v, (divR x y).v])) [] := by
  by_cases h : y.n = 0
  · refine execFD_sound (fn := Go.Proofs.Try.f111) (withAsm_sound OW8_sound) mixed (by kernel_rfl) dvL ((div_z x y).trans (stF ?_ ?_ rfl))
    · rw [W4.eq_zero, decide_eq_true h]; rfl
    · unfold divQ divR
      rw [h, if_pos rfl, Nat.div_zero]
      rfl
  · refine execFD_sound (fn := Go.Proofs.Try.f111) (withAsm_sound OW8_sound) mixed (by kernel_rfl) dvL ((div_y x y).trans (stF ?_ ?_ rfl))
    · rw [W4.eq_zero, decide_eq_false h]
      have l1 := lenN_max x.n_lt
      have l2 := lenN_max y.n_lt
      have l3 := lenN_lt x.n
      have l4 := lenN_lt y.n
      have l5 := lenN_le h
      have ew : wrapI .i64 ((lenN x.n : Int) - (lenN y.n : Int)) = (lenN x.n : Int) - (lenN y.n : Int) := wrapI_in (by omega) (by omega)
      have lp : 1 ≤ lenN y.n := by unfold lenN; rw [if_neg h]; omega
      generalize lenN x.n = la at *
      generalize lenN y.n = lb at *
      have g1 : x.n < y.n * 2 ^ ((la : Int) - (lb : Int) + 1).toNat := by
        refine Nat.lt_of_lt_of_le l3 (Nat.le_trans ?_ (Nat.mul_le_mul_right _ l5))
        rw [← Nat.pow_add]
        exact Nat.pow_le_pow_right (by omega) (by omega)
      have g2 : 0 ≤ (la : Int) - (lb : Int) → y.n * 2 ^ ((la : Int) - (lb : Int)).toNat < 2 ^ 256 := by
        intro h0
        refine Nat.lt_of_lt_of_le ((Nat.mul_lt_mul_right (Nat.two_pow_pos _)).2 l4) ?_
        rw [← Nat.pow_add]
        exact Nat.pow_le_pow_right (by omega) (by omega)
      have : dv_ok ⟨y, W4.zero, x, wrapI .i64 ((la : Int) - (lb : Int))⟩ = true := by
        rw [ew]
        simp only [dv_ok, Bool.and_eq_true, decide_eq_true_eq]
        refine ⟨⟨⟨⟨⟨Nat.pos_of_ne_zero h, by omega⟩, by omega⟩, g1⟩, Nat.zero_mod _⟩, g2⟩
      rw [this]
      rfl
    · unfold divQ divR qW rW
      rw [if_neg h, show W4.zero.n = 0 from rfl, Nat.zero_add]
theorem divide_en : Enters Pr 111 := Enters.of (fn := Go.Proofs.Try.f111) (by kernel_rfl) (by kernel_rfl)
def divide_g := ctWW (fun x y => .tup [(divQ x y).v, (divR x y).v])
def OW9 : Orc := auto Pr ext [(111, divide_g)] [] 3
theorem OW9_sound : OrcSound Pr OW9 := auto_sound mixed ext_ok (KOk.cons divide_en (ctWW_ok divide_fn) KOk.nil) (by kernel_rfl) 3
theorem div_fn (x y : W4) : LFn Pr 80 [x.v, y.v] [] (.ret (divQ x y).v) [] :=
  execFD_sound (fn := Go.Proofs.Try.f80) OW9_sound mixed (by kernel_rfl) (fun _ _ _ _ => LoopOk.none) (show execFD Pr OW9 noLoops [] 100 Go.Proofs.Try.f80 [x.v, y.v] [] = some (true, .ret (divQ x y).v, []) by kernel_rfl)
end
end Go.Proofs.Ytajbaocfdlopbaa.K
end
section
open Go Go.Lh
namespace Go.Proofs.Ytajbaocfdlopbaa.K
noncomputable section
set_option maxRecDepth 100000
def add_g := ctWW (fun x y => (W4.add x y).v)
def mul_g := ctWW (fun x y => (W4.mul x y).v)
def div_g := ctWW (fun x y => (divQ x y).v)
def right_g := ctWI (fun _ n => inRange n) (fun x n => (W4.shr x n.toNat).v)
theorem add_en : Enters Pr 40 := Enters.of (fn := Go.Proofs.Try.f40) (by kernel_rfl) (by kernel_rfl)
theorem mul_en : Enters Pr 64 := Enters.of (fn := Go.Proofs.Try.f64) (by kernel_rfl) (by kernel_rfl)
theorem div_en : Enters Pr 80 := Enters.of (fn := Go.Proofs.Try.f80) (by kernel_rfl) (by kernel_rfl)
theorem right_en : Enters Pr 105 := Enters.of (fn := Go.Proofs.Try.f105) (by kernel_rfl) (by kernel_rfl)
def KW0 : KnownT := [(36, old from_g), (64, old mul_g), (80, old div_g), (39, old sub_g), (40, old add_g), (38, old less_g), (120, old or_g), (104, old left_g), (105, old right_g)]
theorem inR {n : Int} (h : inRange n = true) : 0 ≤ n ∧ n < 256 := by simp [inRange] at h; omega
theorem KW0_ok : KOkT Pr KW0 := KOkT.cons from_en (old_ok (ctU_ok from_fn)) (KOkT.cons mul_en (old_ok (ctWW_ok mul_fn)) (KOkT.cons div_en (old_ok (ctWW_ok div_fn)) (KOkT.cons sub_en (old_ok (ctWW_ok sub_fn)) (KOkT.cons add_en (old_ok (ctWW_ok add_fn)) (KOkT.cons less_en (old_ok (ctWW_ok less_fn)) (KOkT.cons or_en (old_ok (ctWW_ok or_fn)) (KOkT.cons left_en (old_ok (ctWI_ok fun x n h => left_fn x n (inR h).1 (inR h).2)) (KOkT.cons right_en (old_ok (ctWI_ok fun x n h => right_fn x n (inR h).1 (inR h).2)) (KOkT.nil)))))))))
def OTW : OrcT := autoT Pr ext KW0 [81, 107, 124, 103, 111, 119] 4
theorem OTW_sound : OrcSound Pr OTW.o := autoT_sound mixed ext_ok KW0_ok (by kernel_rfl) 4
theorem small_x (x : W4) : Tr.prune (Tr.Sh.any)
  (execBF Pr OTW noLoopsT (100 : Nat) Go.Proofs.Try.f65 [x.v] []) =
  Tr.chk true
  (Tr.leaf
    (Fin.ret (V.tup [V.u64 x.d, V.bool (x.a ||| x.b ||| x.c == BitVec.ofInt (64 : Nat) (0 : Int))]),
      [])) := by kernel_rfl
theorem shl_x (n : W4) (x : W4) : Tr.prune (Tr.Sh.any.both Tr.Sh.any)
  (execBF Pr OTW noLoopsT (100 : Nat) Go.Proofs.Try.f62 [n.v, x.v] []) =
  Tr.chk true
  (Tr.br (n.lt (W4.small (BitVec.ofInt (64 : Nat) (256 : Int))))
    (Tr.chk (inRange (wrapI IntKind.i64 (↑(n.d &&& BitVec.ofInt (64 : Nat) (255 : Int)).toNat : Int)) && true && true)
      (Tr.leaf
        (Fin.ret
            (V.agg
              [V.u64 (x.shl (wrapI IntKind.i64 (↑(n.d &&& BitVec.ofInt (64 : Nat) (255 : Int)).toNat : Int)).toNat).a,
                V.u64 (x.shl (wrapI IntKind.i64 (↑(n.d &&& BitVec.ofInt (64 : Nat) (255 : Int)).toNat : Int)).toNat).b,
                V.u64 (x.shl (wrapI IntKind.i64 (↑(n.d &&& BitVec.ofInt (64 : Nat) (255 : Int)).toNat : Int)).toNat).c,
                V.u64
                  (x.shl (wrapI IntKind.i64 (↑(n.d &&& BitVec.ofInt (64 : Nat) (255 : Int)).toNat : Int)).toNat).d]),
          [])))
    (Tr.chk true
      (Tr.leaf
        (Fin.ret
            (V.agg
              [V.u64 (BitVec.ofInt (64 : Nat) (0 : Int)), V.u64 (BitVec.ofInt (64 : Nat) (0 : Int)),
                V.u64 (BitVec.ofInt (64 : Nat) (0 : Int)), V.u64 (BitVec.ofInt (64 : Nat) (0 : Int))]),
          [])))) := by kernel_rfl
theorem shr_x (n : W4) (x : W4) : Tr.prune (Tr.Sh.any.both Tr.Sh.any)
  (execBF Pr OTW noLoopsT (100 : Nat) Go.Proofs.Try.f63 [n.v, x.v] []) =
  Tr.chk true
  (Tr.br (n.lt (W4.small (BitVec.ofInt (64 : Nat) (256 : Int))))
    (Tr.chk (inRange (wrapI IntKind.i64 (↑(n.d &&& BitVec.ofInt (64 : Nat) (255 : Int)).toNat : Int)) && true && true)
      (Tr.leaf
        (Fin.ret
            (V.agg
              [V.u64 (x.shr (wrapI IntKind.i64 (↑(n.d &&& BitVec.ofInt (64 : Nat) (255 : Int)).toNat : Int)).toNat).a,
                V.u64 (x.shr (wrapI IntKind.i64 (↑(n.d &&& BitVec.ofInt (64 : Nat) (255 : Int)).toNat : Int)).toNat).b,
                V.u64 (x.shr (wrapI IntKind.i64 (↑(n.d &&& BitVec.ofInt (64 : Nat) (255 : Int)).toNat : Int)).toNat).c,
                V.u64
                  (x.shr (wrapI IntKind.i64 (↑(n.d &&& BitVec.ofInt (64 : Nat) (255 : Int)).toNat : Int)).toNat).d]),
          [])))
    (Tr.chk true
      (Tr.leaf
        (Fin.ret
            (V.agg
              [V.u64 (BitVec.ofInt (64 : Nat) (0 : Int)), V.u64 (BitVec.ofInt (64 : Nat) (0 : Int)),
                V.u64 (BitVec.ofInt (64 : Nat) (0 : Int)), V.u64 (BitVec.ofInt (64 : Nat) (0 : Int))]),
          [])))) := by kernel_rfl
theorem bytes_x (x : W4) : Tr.prune (Tr.Sh.any.r.l.l.l.l.l.l.l.l.l.l.l.l.l.l.l.l.l.l.l.l.l.l.l.l.l.l.l.l.l.l.l.l)
  (execBF Pr OTW noLoopsT (100 : Nat) Go.Proofs.Try.f76 [x.v] []) =
  Tr.chk true
  (Tr.leaf
    (Fin.ret
        (V.str
          [BitVec.setWidth (8 : Nat) (x.a >>> (56 : Nat)), BitVec.setWidth (8 : Nat) (x.a >>> (48 : Nat)),
            BitVec.setWidth (8 : Nat) (x.a >>> (40 : Nat)), BitVec.setWidth (8 : Nat) (x.a >>> (32 : Nat)),
            BitVec.setWidth (8 : Nat) (x.a >>> (24 : Nat)), BitVec.setWidth (8 : Nat) (x.a >>> (16 : Nat)),
            BitVec.setWidth (8 : Nat) (x.a >>> (8 : Nat)), BitVec.setWidth (8 : Nat) (x.a >>> (0 : Nat)),
            BitVec.setWidth (8 : Nat) (x.b >>> (56 : Nat)), BitVec.setWidth (8 : Nat) (x.b >>> (48 : Nat)),
            BitVec.setWidth (8 : Nat) (x.b >>> (40 : Nat)), BitVec.setWidth (8 : Nat) (x.b >>> (32 : Nat)),
            BitVec.setWidth (8 : Nat) (x.b >>> (24 : Nat)), BitVec.setWidth (8 : Nat) (x.b >>> (16 : Nat)),
            BitVec.setWidth (8 : Nat) (x.b >>> (8 : Nat)), BitVec.setWidth (8 : Nat) (x.b >>> (0 : Nat)),
            BitVec.setWidth (8 : Nat) (x.c >>> (56 : Nat)), BitVec.setWidth (8 : Nat) (x.c >>> (48 : Nat)),
            BitVec.setWidth (8 : Nat) (x.c >>> (40 : Nat)), BitVec.setWidth (8 : Nat) (x.c >>> (32 : Nat)),
            BitVec.setWidth (8 : Nat) (x.c >>> (24 : Nat)), BitVec.setWidth (8 : Nat) (x.c >>> (16 : Nat)),
            BitVec.setWidth (8 : Nat) (x.c >>> (8 : Nat)), BitVec.setWidth (8 : Nat) (x.c >>> (0 : Nat)),
            BitVec.setWidth (8 : Nat) (x.d >>> (56 : Nat)), BitVec.setWidth (8 : Nat) (x.d >>> (48 : Nat)),
            BitVec.setWidth (8 : Nat) (x.d >>> (40 : Nat)), BitVec.setWidth (8 : Nat) (x.d >>> (32 : Nat)),
            BitVec.setWidth (8 : Nat) (x.d >>> (24 : Nat)), BitVec.setWidth (8 : Nat) (x.d >>> (16 : Nat)),
            BitVec.setWidth (8 : Nat) (x.d >>> (8 : Nat)), BitVec.setWidth (8 : Nat) (x.d >>> (0 : Nat))]),
      [])) := by kernel_rfl
def isSmall (x : W4) : Bool := x.a ||| x.b ||| x.c == BitVec.ofInt 64 0
theorem small_fn (x : W4) : LFn Pr 65 [x.v] [] (.ret (.tup [.u64 x.d, .bool (isSmall x)])) [] :=
  fnT OTW_sound mixed (by kernel_rfl) LoopsOk.noneT (small_x x) (wp_chk_true.2 rfl)
def flip (x : W4) : W4 := ⟨x.a ^^^ BitVec.ofInt 64 9223372036854775808, x.b, x.c, x.d⟩
def slt (x y : W4) : Bool := (flip x).lt (flip y)
theorem bytes_fn (x : W4) : LFn Pr 76 [x.v] [] (.ret (.str x.bytes)) [] :=
  fnT OTW_sound mixed (by kernel_rfl) LoopsOk.noneT (bytes_x x) (tr1 rfl (by kernel_rfl))
/-- moved by a number -/
def shlW (n x : W4) : W4 := if n.n < 256 then W4.shl x n.n else W4.zero
def shrW (n x : W4) : W4 := if n.n < 256 then W4.shr x n.n else W4.zero
theorem far_n {n : W4} (h : n.lt (W4.small (BitVec.ofInt 64 256)) = true) : n.n < 256 ∧ inRange (wrapI .i64 ((n.d &&& BitVec.ofInt 64 255).toNat : Int)) = true ∧ (wrapI .i64 ((n.d &&& BitVec.ofInt 64 255).toNat : Int)).toNat = n.n := by
  have h : n.n < 256 := W4.lt_iff.1 h
  have ha := n.a.isLt
  have e : n.n = n.d.toNat := by unfold W4.n at h ⊢; omega
  have e2 : (n.d &&& BitVec.ofInt 64 255).toNat = n.n := by
    have : (BitVec.ofInt 64 255).toNat = 2 ^ 8 - 1 := rfl
    rw [BitVec.toNat_and, this, Nat.and_two_pow_sub_one_eq_mod, e]; omega
  rw [e2, wrapI_nat (by omega)]
  exact ⟨h, by simp [inRange]; omega, rfl⟩
theorem shl_fn (n x : W4) : LFn Pr 62 [n.v, x.v] [] (.ret (shlW n x).v) [] := by
  refine fnT OTW_sound mixed (by kernel_rfl) LoopsOk.noneT (shl_x n x) ?_
  rw [wp_chk_true, wp_br]
  refine ⟨fun h => ?_, fun h => ?_⟩
  · obtain ⟨h1, h2, h3⟩ := far_n h
    rw [h2, h3]
    rw [Bool.and_self, Bool.and_self, wp_chk_true, wp_leaf, shlW, if_pos h1]
    rfl
  · have h : 256 ≤ n.n := W4.lt_false.1 h
    rw [wp_chk_true, wp_leaf, shlW, if_neg (by omega)]
    rfl
theorem shr_fn (n x : W4) : LFn Pr 63 [n.v, x.v] [] (.ret (shrW n x).v) [] := by
  refine fnT OTW_sound mixed (by kernel_rfl) LoopsOk.noneT (shr_x n x) ?_
  rw [wp_chk_true, wp_br]
  refine ⟨fun h => ?_, fun h => ?_⟩
  · obtain ⟨h1, h2, h3⟩ := far_n h
    rw [h2, h3]
    rw [Bool.and_self, Bool.and_self, wp_chk_true, wp_leaf, shrW, if_pos h1]
    rfl
  · have h : 256 ≤ n.n := W4.lt_false.1 h
    rw [wp_chk_true, wp_leaf, shrW, if_neg (by omega)]
    rfl
end
end Go.Proofs.Ytajbaocfdlopbaa.K
end
section
open Go Go.Lh
namespace Go.Proofs.Ytajbaocfdlopbaa.K
noncomputable section
set_option maxRecDepth 100000
theorem shr_en : Enters Pr 63 := Enters.of (fn := Go.Proofs.Try.f63) (by kernel_rfl) (by kernel_rfl)
theorem shl_en : Enters Pr 62 := Enters.of (fn := Go.Proofs.Try.f62) (by kernel_rfl) (by kernel_rfl)
theorem small_en : Enters Pr 65 := Enters.of (fn := Go.Proofs.Try.f65) (by kernel_rfl) (by kernel_rfl)
theorem bytes_en : Enters Pr 76 := Enters.of (fn := Go.Proofs.Try.f76) (by kernel_rfl) (by kernel_rfl)
def shr_g := ctWW (fun x y => (shrW x y).v)
def shl_g := ctWW (fun x y => (shlW x y).v)
def not_g := ctW (fun x => (W4.notW x).v)
def and_g := ctWW (fun x y => (W4.andW x y).v)
def xor_g := ctWW (fun x y => (W4.xorW x y).v)
def small_g := ctW (fun x => .tup [.u64 x.d, .bool (isSmall x)])
def below_g := ctWW (fun x y => .bool (slt x y))
def bytes_g := ctW (fun x => .str x.bytes)
def KW1 : KnownT := (111, old divide_g) :: (63, old shr_g) :: (62, old shl_g) :: (65, old small_g) :: (76, old bytes_g) :: KW0
theorem KW1_ok : KOkT Pr KW1 := KOkT.cons divide_en (old_ok (ctWW_ok divide_fn)) (KOkT.cons shr_en (old_ok (ctWW_ok shr_fn)) (KOkT.cons shl_en (old_ok (ctWW_ok shl_fn)) (KOkT.cons small_en (old_ok (ctW_ok small_fn)) (KOkT.cons bytes_en (old_ok (ctW_ok bytes_fn)) (KW0_ok)))))
def OT1 : OrcT := autoT Pr ext KW1 [107] 3
theorem OT1_sound : OrcSound Pr OT1.o := autoT_sound mixed ext_ok KW1_ok (by kernel_rfl) 3
def sarW (n x : W4) : W4 := if x.a >>> 63 = BitVec.ofInt 64 0 then shrW n x else W4.notW (shrW n (W4.notW x))
def byteW (n x : W4) : W4 := if n.n < 32 then W4.small (BitVec.setWidth 64 (x.bytes.getD n.n 0)) else W4.zero
structure OfS where
  s : List (BitVec 8)
  w : List (BitVec 64)
  ls : List (BitVec 64)
  m : Int
theorem ofl_x (s : List (BitVec 8)) (w : List (BitVec 64)) (ls : List (BitVec 64)) (m : Int) (i : Nat) : Tr.prune (Tr.Sh.any.both
  Tr.Sh.any)
  (execBN Pr OT1 noLoopsT (100 : Nat) (0 : Nat) [(0 : Nat), (2 : Nat), (4 : Nat), (11 : Nat), (12 : Nat)]
  [(2 : Nat), (4 : Nat)] (loopBody Go.Proofs.Try.f77 (0 : Nat))
  [((0 : Nat), V.str s), ((2 : Nat), V.ptr (0 : Nat) (0 : Nat)), ((4 : Nat), V.ptr (1 : Nat) (0 : Nat)),
    ((11 : Nat), V.int IntKind.i64 m), ((12 : Nat), V.int IntKind.i64 (↑i : Int))]
  [Blk.b64 w, Blk.b64 ls]) =
  Tr.chk true
  (Tr.br (decide ((↑i : Int) < m))
    (Tr.chk
      (decide ((0 : Int) ≤ wrapI IntKind.i64 ((↑i : Int).tdiv (8 : Int))) &&
            decide (wrapI IntKind.i64 ((↑i : Int).tdiv (8 : Int)) < (4 : Int)) &&
          (decide ((0 : Nat) + (wrapI IntKind.i64 ((↑i : Int).tdiv (8 : Int))).toNat * (1 : Nat) < ls.length) &&
            (decide ((0 : Int) ≤ wrapI IntKind.i64 (wrapI IntKind.i64 ((↑s.length : Int) - (1 : Int)) - (↑i : Int))) &&
                decide
                  (wrapI IntKind.i64 (wrapI IntKind.i64 ((↑s.length : Int) - (1 : Int)) - (↑i : Int)) <
                    (↑s.length : Int)) &&
              (decide ((0 : Int) ≤ wrapI IntKind.i64 ((↑i : Int).tmod (8 : Int) * (8 : Int))) &&
                (decide ((0 : Int) ≤ wrapI IntKind.i64 ((↑i : Int).tdiv (8 : Int))) &&
                    decide (wrapI IntKind.i64 ((↑i : Int).tdiv (8 : Int)) < (4 : Int)) &&
                  decide
                    ((0 : Nat) + (wrapI IntKind.i64 ((↑i : Int).tdiv (8 : Int))).toNat * (1 : Nat) + (1 : Nat) ≤
                      ls.length))))) &&
        true)
      (Tr.leaf
        (X.normal,
          [((0 : Nat), V.str s), ((2 : Nat), V.ptr (0 : Nat) (0 : Nat)), ((4 : Nat), V.ptr (1 : Nat) (0 : Nat)),
            ((11 : Nat), V.int IntKind.i64 m),
            ((12 : Nat), V.int IntKind.i64 (wrapI IntKind.i64 ((↑i : Int) + (1 : Int))))],
          [Blk.b64 w,
            Blk.b64
              (ls.set ((0 : Nat) + (wrapI IntKind.i64 ((↑i : Int).tdiv (8 : Int))).toNat * (1 : Nat))
                (ls.getD ((0 : Nat) + (wrapI IntKind.i64 ((↑i : Int).tdiv (8 : Int))).toNat * (1 : Nat))
                    (OfNat.ofNat (0 : Nat)) |||
                  BitVec.setWidth (64 : Nat)
                      (s.getD (wrapI IntKind.i64 (wrapI IntKind.i64 ((↑s.length : Int) - (1 : Int)) - (↑i : Int))).toNat
                        (OfNat.ofNat (0 : Nat))) <<<
                    (wrapI IntKind.i64 ((↑i : Int).tmod (8 : Int) * (8 : Int))).toNat))])))
    (Tr.leaf
      (X.exit (0 : Nat), [((2 : Nat), V.ptr (0 : Nat) (0 : Nat)), ((4 : Nat), V.ptr (1 : Nat) (0 : Nat))],
        [Blk.b64 w, Blk.b64 ls]))) := by kernel_rfl
def of_L (a : OfS) (i : Nat) : List (BitVec 64) := if i = 0 then a.ls else W4.ofL a.s i
def of_S (a : OfS) (i : Nat) : Fr × Heap := ([(0,.str a.s),(2,.ptr 0 0),(4,.ptr 1 0),(11,.int .i64 a.m),(12,.int .i64 (i : Nat))], [.b64 a.w, .b64 (of_L a i)])
def of_read : Fr → Heap → Option OfS := fun f h => match f, h with
  | [(0,.str s),(2,.ptr 0 0),(4,.ptr 1 0),(11,.int .i64 m),(12,.int .i64 0)], [.b64 w, .b64 ls] => some ⟨s, w, ls, m⟩
  | _, _ => none
def of_ok (a : OfS) : Bool := decide (a.s.length ≤ 32) && decide (a.m = (a.s.length : Nat)) && decide (a.ls = [0,0,0,0])
def of_E (a : OfS) : Tr (X × Fr × Heap) := .leaf (.exit 0, [(2,.ptr 0 0),(4,.ptr 1 0)], [.b64 a.w, .b64 (W4.ofL a.s a.s.length)])
def of_s : SmT := whT 5 [0,2,4,11,12] of_read of_ok of_E
theorem of_at : SmAtT Pr Go.Proofs.Try.f77 0 of_s 0 := by
  refine cntT_x OT1_sound mixed of_S (fun a => a.s.length) (fun a i => ofl_x a.s a.w (of_L a i) a.m i) (by kernel_rfl) (by kernel_rfl) (by kernel_rfl) LoopsOk.noneT ?_ ?_
  · intro f g a h
    unfold of_read at h
    split at h <;> cases h
    rfl
  · rintro ⟨s, w, ls, m⟩ q hok hq i hi
    simp only [of_ok, Bool.and_eq_true, decide_eq_true_eq] at hok
    obtain ⟨⟨h1, rfl⟩, rfl⟩ := hok
    simp only at hi
    rw [of_E, Tr.is_leaf] at hq
    have hL : ∀ j, of_L ⟨s, w, [0,0,0,0], (s.length : Nat)⟩ j = W4.ofL s j := by
      intro j; unfold of_L; split
      · rename_i h; subst h; rfl
      · rfl
    have hl := W4.ofL_length s i
    simp only [wp_chk, wp_leaf, wp_br, hL, decide_eq_true_eq, decide_eq_false_iff_not, true_and]
    refine ⟨fun hlt => ⟨?_, ?_⟩, fun hge => ?_⟩
    · simp (disch := omega) only [tmod_lit, tdiv_lit, mul_lit, add_lit, lit_mul, lit_add, add_nat, mul_nat, sub_lit, lit_sub, sub_nat, wrapI_nat, wrapI_in, Int.toNat_natCast, Nat.mul_one, Nat.zero_add, toNat_lit]
      simp only [Bool.and_eq_true, decide_eq_true_eq]
      (repeat' apply And.intro) <;> first | omega | trivial
    · refine .inl ⟨by omega, ?_⟩
      rw [of_S]
      simp (disch := omega) only [tmod_lit, tdiv_lit, mul_lit, add_lit, lit_mul, lit_add, add_nat, mul_nat, sub_lit, lit_sub, sub_nat, wrapI_nat, wrapI_in, Int.toNat_natCast, Nat.mul_one, Nat.zero_add, toNat_lit, hL, W4.ofL]
    · refine .inr ⟨fun h => (by cases h), ?_⟩
      rw [← hq]
      have : i = s.length := by omega
      rw [this]
theorem of_Ls : LoopsOk Pr Go.Proofs.Try.f77 0 (smLT 0 [of_s]).o := LoopsOk.one (by kernel_rfl) of_at
theorem of_x (s : List (BitVec 8)) : Tr.prune (Tr.Sh.any.both Tr.Sh.any)
  (execBF Pr OT1 (smLT (0 : Nat) [of_s]) (100 : Nat) Go.Proofs.Try.f77 [V.str s] []) =
  Tr.chk true
  (Tr.br (decide ((↑s.length : Int) > (32 : Int)))
    (Tr.chk true
      (Tr.leaf
        (Fin.ret
            (V.tup
              [V.agg
                  [V.u64 (BitVec.ofInt (64 : Nat) (0 : Int)), V.u64 (BitVec.ofInt (64 : Nat) (0 : Int)),
                    V.u64 (BitVec.ofInt (64 : Nat) (0 : Int)), V.u64 (BitVec.ofInt (64 : Nat) (0 : Int))],
                V.bool false]),
          [])))
    (Tr.chk
      (of_ok
            (OfS.mk s
              [BitVec.ofInt (64 : Nat) (0 : Int), BitVec.ofInt (64 : Nat) (0 : Int), BitVec.ofInt (64 : Nat) (0 : Int),
                BitVec.ofInt (64 : Nat) (0 : Int)]
              [BitVec.ofInt (64 : Nat) (0 : Int), BitVec.ofInt (64 : Nat) (0 : Int), BitVec.ofInt (64 : Nat) (0 : Int),
                BitVec.ofInt (64 : Nat) (0 : Int)]
              (↑s.length : Int)) &&
          (decide ((4 : Nat) ≤ (W4.ofL s s.length).length) && true) &&
        true)
      (Tr.leaf
        (Fin.ret
            (V.tup
              [V.agg
                  [V.u64 ((W4.ofL s s.length).getD (3 : Nat) (OfNat.ofNat (0 : Nat))),
                    V.u64 ((W4.ofL s s.length).getD (2 : Nat) (OfNat.ofNat (0 : Nat))),
                    V.u64 ((W4.ofL s s.length).getD (1 : Nat) (OfNat.ofNat (0 : Nat))),
                    V.u64 ((W4.ofL s s.length).getD (0 : Nat) (OfNat.ofNat (0 : Nat)))],
                V.bool true]),
          [])))) := by kernel_rfl
/-- the number of bytes, if there are not too many -/
def ofV (s : List (BitVec 8)) : V := .tup [(if s.length ≤ 32 then W4.ofBytes s else W4.zero).v, .bool (decide (s.length ≤ 32))]
theorem of_fn (s : List (BitVec 8)) : LFn Pr 77 [.str s] [] (.ret (ofV s)) [] := by
  refine fnT OT1_sound mixed (by kernel_rfl) of_Ls (of_x s) ?_
  rw [wp_chk_true, wp_br, ofV]
  refine ⟨fun h => ?_, fun h => ?_⟩
  · have h : ¬ s.length ≤ 32 := by have := of_decide_eq_true h; omega
    rw [if_neg h, decide_eq_false h]
    exact tr1 rfl rfl
  · have h : s.length ≤ 32 := by have := of_decide_eq_false h; omega
    rw [if_pos h, decide_eq_true h]
    refine tr1 ?_ rfl
    simp only [of_ok, W4.ofL_length, Bool.and_true, Bool.and_eq_true, decide_eq_true_eq]
    refine ⟨⟨⟨h, ?_⟩, ?_⟩, ?_⟩ <;> first | trivial | rfl | omega
theorem of_en : Enters Pr 77 := Enters.of (fn := Go.Proofs.Try.f77) (by kernel_rfl) (by kernel_rfl)
def readS : List V → Heap → Option (List (BitVec 8)) := fun args h => match args, h with
  | [.str s], [] => some s
  | _, _ => none
def ctS (f : List (BitVec 8) → V) : List V → Heap → Tr (Fin × Heap) := ctT readS (fun s => .leaf (.ret (f s), []))
theorem ctS_ok {i : FuncId} {f : List (BitVec 8) → V} (hf : ∀ s, LFn Pr i [.str s] [] (.ret (f s)) []) : ∀ args h r, (ctS f args h).is r → LFn Pr i args h r.1 r.2 := by
  refine ctT_ok (fun s => [.str s]) (fun _ => []) ?_ (fun a r h => ?_)
  · intro args h a e
    unfold readS at e
    split at e <;> cases e
    exact ⟨rfl, rfl⟩
  · rw [Tr.is_leaf] at h; subst h; exact hf a
def KW2 : KnownT := (77, ctS ofV) :: KW1
theorem KW2_ok : KOkT Pr KW2 := KOkT.cons of_en (ctS_ok of_fn) (KW1_ok)
end
end Go.Proofs.Ytajbaocfdlopbaa.K
end
section
open Go Go.Lh
namespace Go.Proofs.Ytajbaocfdlopbaa.K
noncomputable section
set_option maxRecDepth 100000
def OT2 : OrcT := autoT Pr ext KW2 [] 5
theorem OT2_sound : OrcSound Pr OT2.o := autoT_sound mixed ext_ok KW2_ok (by kernel_rfl) 5
def wex_g : List V → Heap → Tr (Fin × Heap) := fun args h => match args, h with
  | [], [] => .leaf (.ret (.bool true), [])
  | _, _ => .no
def KW3 : KnownT := KW2
theorem KW3_ok : KOkT Pr KW3 := KW2_ok
def OT3 : OrcT := autoT Pr ext KW3 [] 3
theorem OT3_sound : OrcSound Pr OT3.o := autoT_sound mixed ext_ok KW3_ok (by kernel_rfl) 3
end
end Go.Proofs.Ytajbaocfdlopbaa.K
end
section
open Go Go.Lh
namespace Go.Proofs.Ytajbaocfdlopbaa.K
noncomputable section
set_option maxRecDepth 100000
end
end Go.Proofs.Ytajbaocfdlopbaa.K
end
section
open Go Go.Lh
namespace Go.Proofs.Ytajbaocfdlopbaa.K
noncomputable section
set_option maxRecDepth 100000
theorem divQ_n (x y : W4) : (divQ x y).n = x.n / y.n := by
  have := x.n_lt
  rw [divQ, W4.of_toNat, BitVec.toNat_ofNat, Nat.mod_eq_of_lt (Nat.lt_of_le_of_lt (Nat.div_le_self _ _) this)]
theorem divR_n {x y : W4} (h : y.n ≠ 0) : (divR x y).n = x.n % y.n := by
  have := x.n_lt
  rw [divR, if_neg h, W4.of_toNat, BitVec.toNat_ofNat, Nat.mod_eq_of_lt (Nat.lt_of_le_of_lt (Nat.mod_le _ _) this)]
theorem z64 : BitVec.ofInt 64 0 = 0#64 := rfl
end
end Go.Proofs.Ytajbaocfdlopbaa.K
end
section
open Go Go.Lh
namespace Go.Proofs.Ytajbaocfdlopbaa.K
noncomputable section
set_option maxRecDepth 100000
def OR0 : OrcT := autoT Pr ext KW3 [] 3
theorem OR0_sound : OrcSound Pr OR0.o := autoT_sound mixed ext_ok KW3_ok (by kernel_rfl) 3
theorem dig_x (a : W4) : Tr.prune (Tr.Sh.any.r.l.l.l.l.l.l.l.l.l.l.l.l.l.l.l.l.l.l.l.l.l.l.l.l.l.l.l.l.l.l.l.l.r.r.l.l.l.l.l.l.l.l.l.r.l.l.l.l.l.l.l.l.l.r.l.l.l.l.l.l.l.l.l.r.l.l.l.l.l.l.l.l.l)
  (execBF Pr OR0 noLoopsT (100 : Nat) Go.Proofs.Try.f98 [a.v] []) =
  Tr.chk true
  (Tr.leaf
    (Fin.ret (V.sl (0 : Nat) (0 : Nat) (1 : Nat) (32 : Nat) none),
      [Blk.ints
          [(wrapI IntKind.i64
                  ((wrapI IntKind.i64 (↑(a.d >>> (0 : Nat)).toNat : Int)).tmod (256 : Int) + (256 : Int))).tmod
              (256 : Int),
            (wrapI IntKind.i64
                  ((wrapI IntKind.i64 (↑(a.d >>> (8 : Nat)).toNat : Int)).tmod (256 : Int) + (256 : Int))).tmod
              (256 : Int),
            (wrapI IntKind.i64
                  ((wrapI IntKind.i64 (↑(a.d >>> (16 : Nat)).toNat : Int)).tmod (256 : Int) + (256 : Int))).tmod
              (256 : Int),
            (wrapI IntKind.i64
                  ((wrapI IntKind.i64 (↑(a.d >>> (24 : Nat)).toNat : Int)).tmod (256 : Int) + (256 : Int))).tmod
              (256 : Int),
            (wrapI IntKind.i64
                  ((wrapI IntKind.i64 (↑(a.d >>> (32 : Nat)).toNat : Int)).tmod (256 : Int) + (256 : Int))).tmod
              (256 : Int),
            (wrapI IntKind.i64
                  ((wrapI IntKind.i64 (↑(a.d >>> (40 : Nat)).toNat : Int)).tmod (256 : Int) + (256 : Int))).tmod
              (256 : Int),
            (wrapI IntKind.i64
                  ((wrapI IntKind.i64 (↑(a.d >>> (48 : Nat)).toNat : Int)).tmod (256 : Int) + (256 : Int))).tmod
              (256 : Int),
            (wrapI IntKind.i64
                  ((wrapI IntKind.i64 (↑(a.d >>> (56 : Nat)).toNat : Int)).tmod (256 : Int) + (256 : Int))).tmod
              (256 : Int),
            (wrapI IntKind.i64
                  ((wrapI IntKind.i64 (↑(a.c >>> (0 : Nat)).toNat : Int)).tmod (256 : Int) + (256 : Int))).tmod
              (256 : Int),
            (wrapI IntKind.i64
                  ((wrapI IntKind.i64 (↑(a.c >>> (8 : Nat)).toNat : Int)).tmod (256 : Int) + (256 : Int))).tmod
              (256 : Int),
            (wrapI IntKind.i64
                  ((wrapI IntKind.i64 (↑(a.c >>> (16 : Nat)).toNat : Int)).tmod (256 : Int) + (256 : Int))).tmod
              (256 : Int),
            (wrapI IntKind.i64
                  ((wrapI IntKind.i64 (↑(a.c >>> (24 : Nat)).toNat : Int)).tmod (256 : Int) + (256 : Int))).tmod
              (256 : Int),
            (wrapI IntKind.i64
                  ((wrapI IntKind.i64 (↑(a.c >>> (32 : Nat)).toNat : Int)).tmod (256 : Int) + (256 : Int))).tmod
              (256 : Int),
            (wrapI IntKind.i64
                  ((wrapI IntKind.i64 (↑(a.c >>> (40 : Nat)).toNat : Int)).tmod (256 : Int) + (256 : Int))).tmod
              (256 : Int),
            (wrapI IntKind.i64
                  ((wrapI IntKind.i64 (↑(a.c >>> (48 : Nat)).toNat : Int)).tmod (256 : Int) + (256 : Int))).tmod
              (256 : Int),
            (wrapI IntKind.i64
                  ((wrapI IntKind.i64 (↑(a.c >>> (56 : Nat)).toNat : Int)).tmod (256 : Int) + (256 : Int))).tmod
              (256 : Int),
            (wrapI IntKind.i64
                  ((wrapI IntKind.i64 (↑(a.b >>> (0 : Nat)).toNat : Int)).tmod (256 : Int) + (256 : Int))).tmod
              (256 : Int),
            (wrapI IntKind.i64
                  ((wrapI IntKind.i64 (↑(a.b >>> (8 : Nat)).toNat : Int)).tmod (256 : Int) + (256 : Int))).tmod
              (256 : Int),
            (wrapI IntKind.i64
                  ((wrapI IntKind.i64 (↑(a.b >>> (16 : Nat)).toNat : Int)).tmod (256 : Int) + (256 : Int))).tmod
              (256 : Int),
            (wrapI IntKind.i64
                  ((wrapI IntKind.i64 (↑(a.b >>> (24 : Nat)).toNat : Int)).tmod (256 : Int) + (256 : Int))).tmod
              (256 : Int),
            (wrapI IntKind.i64
                  ((wrapI IntKind.i64 (↑(a.b >>> (32 : Nat)).toNat : Int)).tmod (256 : Int) + (256 : Int))).tmod
              (256 : Int),
            (wrapI IntKind.i64
                  ((wrapI IntKind.i64 (↑(a.b >>> (40 : Nat)).toNat : Int)).tmod (256 : Int) + (256 : Int))).tmod
              (256 : Int),
            (wrapI IntKind.i64
                  ((wrapI IntKind.i64 (↑(a.b >>> (48 : Nat)).toNat : Int)).tmod (256 : Int) + (256 : Int))).tmod
              (256 : Int),
            (wrapI IntKind.i64
                  ((wrapI IntKind.i64 (↑(a.b >>> (56 : Nat)).toNat : Int)).tmod (256 : Int) + (256 : Int))).tmod
              (256 : Int),
            (wrapI IntKind.i64
                  ((wrapI IntKind.i64 (↑(a.a >>> (0 : Nat)).toNat : Int)).tmod (256 : Int) + (256 : Int))).tmod
              (256 : Int),
            (wrapI IntKind.i64
                  ((wrapI IntKind.i64 (↑(a.a >>> (8 : Nat)).toNat : Int)).tmod (256 : Int) + (256 : Int))).tmod
              (256 : Int),
            (wrapI IntKind.i64
                  ((wrapI IntKind.i64 (↑(a.a >>> (16 : Nat)).toNat : Int)).tmod (256 : Int) + (256 : Int))).tmod
              (256 : Int),
            (wrapI IntKind.i64
                  ((wrapI IntKind.i64 (↑(a.a >>> (24 : Nat)).toNat : Int)).tmod (256 : Int) + (256 : Int))).tmod
              (256 : Int),
            (wrapI IntKind.i64
                  ((wrapI IntKind.i64 (↑(a.a >>> (32 : Nat)).toNat : Int)).tmod (256 : Int) + (256 : Int))).tmod
              (256 : Int),
            (wrapI IntKind.i64
                  ((wrapI IntKind.i64 (↑(a.a >>> (40 : Nat)).toNat : Int)).tmod (256 : Int) + (256 : Int))).tmod
              (256 : Int),
            (wrapI IntKind.i64
                  ((wrapI IntKind.i64 (↑(a.a >>> (48 : Nat)).toNat : Int)).tmod (256 : Int) + (256 : Int))).tmod
              (256 : Int),
            (wrapI IntKind.i64
                  ((wrapI IntKind.i64 (↑(a.a >>> (56 : Nat)).toNat : Int)).tmod (256 : Int) + (256 : Int))).tmod
              (256 : Int)]])) := by kernel_rfl
theorem join_x (f : Nat → Int) (c : Option Nat) : Tr.prune (Tr.Sh.any.r.r.r.r.r.l.l.l.l.l.l.l.l.l.l.l.l.l.l.l.l.l.l.l.l.l.l.l.l.l.l.l.l.l.l.l.l.l.l.l.l.l.l.l.l.l.l.l.l.l.l.l.l.l.l.l.l.l.l.l.l.l.l.l.l.l.l.l.l.l.l.l.l.l.l.l.l.l.l.l.l.l.l.l.l.l.l.l.l.l.l.l.l.l.l.l.l.l.l.l.l.l.l.l.l.l.l.l.l.l.l.l.l.l.l.l.l.l.l.l.l.l.l.l.l.l.l.l.l.l.l.l.l.l.l.l.l.l.l.l.l.l.l.l.l.l.l.l.l.l.l.l.l.l.l.l.l.l.l.l.l.l.l.l.l)
  (execBF Pr OR0 noLoopsT (100 : Nat) Go.Proofs.Try.f100 [V.sl (0 : Nat) (0 : Nat) (1 : Nat) (32 : Nat) c]
  [Blk.ints (List.map f (List.range (32 : Nat)))]) =
  Tr.chk true
  (Tr.leaf
    (Fin.ret
        (V.agg
          [V.u64
              (BitVec.ofInt (64 : Nat) (0 : Int) ||| BitVec.ofInt (64 : Nat) (f (24 : Nat)) <<< (0 : Nat) |||
                            BitVec.ofInt (64 : Nat) (f (25 : Nat)) <<< (8 : Nat) |||
                          BitVec.ofInt (64 : Nat) (f (26 : Nat)) <<< (16 : Nat) |||
                        BitVec.ofInt (64 : Nat) (f (27 : Nat)) <<< (24 : Nat) |||
                      BitVec.ofInt (64 : Nat) (f (28 : Nat)) <<< (32 : Nat) |||
                    BitVec.ofInt (64 : Nat) (f (29 : Nat)) <<< (40 : Nat) |||
                  BitVec.ofInt (64 : Nat) (f (30 : Nat)) <<< (48 : Nat) |||
                BitVec.ofInt (64 : Nat) (f (31 : Nat)) <<< (56 : Nat)),
            V.u64
              (BitVec.ofInt (64 : Nat) (0 : Int) ||| BitVec.ofInt (64 : Nat) (f (16 : Nat)) <<< (0 : Nat) |||
                            BitVec.ofInt (64 : Nat) (f (17 : Nat)) <<< (8 : Nat) |||
                          BitVec.ofInt (64 : Nat) (f (18 : Nat)) <<< (16 : Nat) |||
                        BitVec.ofInt (64 : Nat) (f (19 : Nat)) <<< (24 : Nat) |||
                      BitVec.ofInt (64 : Nat) (f (20 : Nat)) <<< (32 : Nat) |||
                    BitVec.ofInt (64 : Nat) (f (21 : Nat)) <<< (40 : Nat) |||
                  BitVec.ofInt (64 : Nat) (f (22 : Nat)) <<< (48 : Nat) |||
                BitVec.ofInt (64 : Nat) (f (23 : Nat)) <<< (56 : Nat)),
            V.u64
              (BitVec.ofInt (64 : Nat) (0 : Int) ||| BitVec.ofInt (64 : Nat) (f (8 : Nat)) <<< (0 : Nat) |||
                            BitVec.ofInt (64 : Nat) (f (9 : Nat)) <<< (8 : Nat) |||
                          BitVec.ofInt (64 : Nat) (f (10 : Nat)) <<< (16 : Nat) |||
                        BitVec.ofInt (64 : Nat) (f (11 : Nat)) <<< (24 : Nat) |||
                      BitVec.ofInt (64 : Nat) (f (12 : Nat)) <<< (32 : Nat) |||
                    BitVec.ofInt (64 : Nat) (f (13 : Nat)) <<< (40 : Nat) |||
                  BitVec.ofInt (64 : Nat) (f (14 : Nat)) <<< (48 : Nat) |||
                BitVec.ofInt (64 : Nat) (f (15 : Nat)) <<< (56 : Nat)),
            V.u64
              (BitVec.ofInt (64 : Nat) (0 : Int) ||| BitVec.ofInt (64 : Nat) (f (0 : Nat)) <<< (0 : Nat) |||
                            BitVec.ofInt (64 : Nat) (f (1 : Nat)) <<< (8 : Nat) |||
                          BitVec.ofInt (64 : Nat) (f (2 : Nat)) <<< (16 : Nat) |||
                        BitVec.ofInt (64 : Nat) (f (3 : Nat)) <<< (24 : Nat) |||
                      BitVec.ofInt (64 : Nat) (f (4 : Nat)) <<< (32 : Nat) |||
                    BitVec.ofInt (64 : Nat) (f (5 : Nat)) <<< (40 : Nat) |||
                  BitVec.ofInt (64 : Nat) (f (6 : Nat)) <<< (48 : Nat) |||
                BitVec.ofInt (64 : Nat) (f (7 : Nat)) <<< (56 : Nat))]),
      [Blk.ints (List.map f (List.range (32 : Nat)))])) := by kernel_rfl
theorem joind_x (f : Nat → Int) (c : Option Nat) : Tr.prune (Tr.Sh.any.r.r.r.r.r.l.l.l.l.l.l.l.l.l.l.l.l.l.l.l.l.l.l.l.l.l.l.l.l.l.l.l.l.l.l.l.l.l.l.l.l.l.l.l.l.l.l.l.l.l.l.l.l.l.l.l.l.l.l.l.l.l.l.l.l.l.l.l.l.l.l.l.l.l.l.l.l.l.l.l.l.l.l.l.l.l.l.l.l.l.l.l.l.l.l.l.l.l.l.l.l.l.l.l.l.l.l.l.l.l.l.l.l.l.l.l.l.l.l.l.l.l.l.l.l.l.l.l.l.l.l.l.l.l.l.l.l.l.l.l.l.l.l.l.l.l.l.l.l.l.l.l.l.l.l.l.l.l.l.l.l.l.l.l.l)
  (execBF Pr OR0 noLoopsT (100 : Nat) Go.Proofs.Try.f100 [V.sl (0 : Nat) (0 : Nat) (1 : Nat) (64 : Nat) c]
  [Blk.ints (List.map f (List.range (64 : Nat)))]) =
  Tr.chk true
  (Tr.leaf
    (Fin.ret
        (V.agg
          [V.u64
              (BitVec.ofInt (64 : Nat) (0 : Int) ||| BitVec.ofInt (64 : Nat) (f (24 : Nat)) <<< (0 : Nat) |||
                            BitVec.ofInt (64 : Nat) (f (25 : Nat)) <<< (8 : Nat) |||
                          BitVec.ofInt (64 : Nat) (f (26 : Nat)) <<< (16 : Nat) |||
                        BitVec.ofInt (64 : Nat) (f (27 : Nat)) <<< (24 : Nat) |||
                      BitVec.ofInt (64 : Nat) (f (28 : Nat)) <<< (32 : Nat) |||
                    BitVec.ofInt (64 : Nat) (f (29 : Nat)) <<< (40 : Nat) |||
                  BitVec.ofInt (64 : Nat) (f (30 : Nat)) <<< (48 : Nat) |||
                BitVec.ofInt (64 : Nat) (f (31 : Nat)) <<< (56 : Nat)),
            V.u64
              (BitVec.ofInt (64 : Nat) (0 : Int) ||| BitVec.ofInt (64 : Nat) (f (16 : Nat)) <<< (0 : Nat) |||
                            BitVec.ofInt (64 : Nat) (f (17 : Nat)) <<< (8 : Nat) |||
                          BitVec.ofInt (64 : Nat) (f (18 : Nat)) <<< (16 : Nat) |||
                        BitVec.ofInt (64 : Nat) (f (19 : Nat)) <<< (24 : Nat) |||
                      BitVec.ofInt (64 : Nat) (f (20 : Nat)) <<< (32 : Nat) |||
                    BitVec.ofInt (64 : Nat) (f (21 : Nat)) <<< (40 : Nat) |||
                  BitVec.ofInt (64 : Nat) (f (22 : Nat)) <<< (48 : Nat) |||
                BitVec.ofInt (64 : Nat) (f (23 : Nat)) <<< (56 : Nat)),
            V.u64
              (BitVec.ofInt (64 : Nat) (0 : Int) ||| BitVec.ofInt (64 : Nat) (f (8 : Nat)) <<< (0 : Nat) |||
                            BitVec.ofInt (64 : Nat) (f (9 : Nat)) <<< (8 : Nat) |||
                          BitVec.ofInt (64 : Nat) (f (10 : Nat)) <<< (16 : Nat) |||
                        BitVec.ofInt (64 : Nat) (f (11 : Nat)) <<< (24 : Nat) |||
                      BitVec.ofInt (64 : Nat) (f (12 : Nat)) <<< (32 : Nat) |||
                    BitVec.ofInt (64 : Nat) (f (13 : Nat)) <<< (40 : Nat) |||
                  BitVec.ofInt (64 : Nat) (f (14 : Nat)) <<< (48 : Nat) |||
                BitVec.ofInt (64 : Nat) (f (15 : Nat)) <<< (56 : Nat)),
            V.u64
              (BitVec.ofInt (64 : Nat) (0 : Int) ||| BitVec.ofInt (64 : Nat) (f (0 : Nat)) <<< (0 : Nat) |||
                            BitVec.ofInt (64 : Nat) (f (1 : Nat)) <<< (8 : Nat) |||
                          BitVec.ofInt (64 : Nat) (f (2 : Nat)) <<< (16 : Nat) |||
                        BitVec.ofInt (64 : Nat) (f (3 : Nat)) <<< (24 : Nat) |||
                      BitVec.ofInt (64 : Nat) (f (4 : Nat)) <<< (32 : Nat) |||
                    BitVec.ofInt (64 : Nat) (f (5 : Nat)) <<< (40 : Nat) |||
                  BitVec.ofInt (64 : Nat) (f (6 : Nat)) <<< (48 : Nat) |||
                BitVec.ofInt (64 : Nat) (f (7 : Nat)) <<< (56 : Nat))]),
      [Blk.ints (List.map f (List.range (64 : Nat)))])) := by kernel_rfl
theorem digits_fn (a : W4) : LFn Pr 98 [a.v] [] (.ret (.sl 0 0 1 32 none)) [.ints (W4.dg 32 a.n)] := by
  refine fnT OR0_sound mixed (by kernel_rfl) LoopsOk.noneT (dig_x a) (tr1 rfl ?_)
  have ha := a.a.isLt
  have hb := a.b.isLt
  have hc := a.c.isLt
  have hd := a.d.isLt
  simp only [W4.dig_el]
  simp only [BitVec.toNat_ushiftRight, Nat.shiftRight_eq_div_pow]
  have e : W4.dg 32 a.n = (List.range 32).map fun i => ((a.n / 256 ^ i % 256 : Nat) : Int) := rfl
  rw [e, show List.range 32 = [0,1,2,3,4,5,6,7,8,9,10,11,12,13,14,15,16,17,18,19,20,21,22,23,24,25,26,27,28,29,30,31] from rfl]
  simp only [List.map_cons, List.map_nil]
  have hn : a.n = 2 ^ 192 * a.a.toNat + (2 ^ 128 * a.b.toNat + (2 ^ 64 * a.c.toNat + a.d.toNat)) := rfl
  refine congrArg (fun l => (Fin.ret (V.sl 0 0 1 32 none), [Blk.ints l])) ?_
  (repeat' apply List.cons_eq_cons.2 ⟨?_, ?_⟩) <;> first | rfl | omega
theorem join_fn (m : Nat) (c : Option Nat) : LFn Pr 100 [.sl 0 0 1 32 c] [.ints (W4.dg 32 m)] (.ret (W4.ofN m).v) [.ints (W4.dg 32 m)] := by
  refine fnT OR0_sound mixed (by kernel_rfl) LoopsOk.noneT (join_x (fun i => ((m / 256 ^ i % 256 : Nat) : Int)) c) (tr1 rfl ?_)
  have h0 := W4.limb_dg m 0
  have h1 := W4.limb_dg m 1
  have h2 := W4.limb_dg m 2
  have h3 := W4.limb_dg m 3
  refine congrArg (fun v => (Fin.ret v, [Blk.ints (W4.dg 32 m)])) ?_
  rw [W4.v, W4.ofN, ← h0, ← h1, ← h2, ← h3]
theorem joind_fn (m : Nat) (c : Option Nat) : LFn Pr 100 [.sl 0 0 1 64 c] [.ints (W4.dg 64 m)] (.ret (W4.ofN m).v) [.ints (W4.dg 64 m)] := by
  refine fnT OR0_sound mixed (by kernel_rfl) LoopsOk.noneT (joind_x (fun i => ((m / 256 ^ i % 256 : Nat) : Int)) c) (tr1 rfl ?_)
  have h0 := W4.limb_dg m 0
  have h1 := W4.limb_dg m 1
  have h2 := W4.limb_dg m 2
  have h3 := W4.limb_dg m 3
  refine congrArg (fun v => (Fin.ret v, [Blk.ints (W4.dg 64 m)])) ?_
  rw [W4.v, W4.ofN, ← h0, ← h1, ← h2, ← h3]
theorem digits_en : Enters Pr 98 := Enters.of (fn := Go.Proofs.Try.f98) (by kernel_rfl) (by kernel_rfl)
theorem join_en : Enters Pr 100 := Enters.of (fn := Go.Proofs.Try.f100) (by kernel_rfl) (by kernel_rfl)
def readWd : List V → Heap → Option W4 := fun args h => match args, h with
  | [.agg [.u64 a, .u64 b, .u64 c, .u64 d]], [] => some ⟨a, b, c, d⟩
  | _, _ => none
def digits_g : List V → Heap → Tr (Fin × Heap) := ctT readWd (fun a => .leaf (.ret (.sl 0 0 1 32 none), [.ints (W4.dg 32 a.n)]))
theorem digits_ok : ∀ args h r, (digits_g args h).is r → LFn Pr 98 args h r.1 r.2 := by
  refine ctT_ok (fun a => [a.v]) (fun _ => []) ?_ (fun a r h => ?_)
  · intro args h a e
    unfold readWd at e
    split at e <;> cases e
    exact ⟨rfl, rfl⟩
  · rw [Tr.is_leaf] at h; subst h; exact digits_fn a
def readSl : List V → Heap → Option (Nat × Option Nat × List Int) := fun args h => match args, h with
  | [.sl 0 0 1 n c], [.ints xs] => some (n, c, xs)
  | _, _ => none
def join_g : List V → Heap → Tr (Fin × Heap) := ctT readSl (fun a => .chk ((decide (a.1 = 32) || decide (a.1 = 64)) && W4.isD a.1 a.2.2) (.leaf (.ret (W4.ofN (W4.valI a.2.2)).v, [.ints a.2.2])))
theorem join_ok : ∀ args h r, (join_g args h).is r → LFn Pr 100 args h r.1 r.2 := by
  refine ctT_ok (fun a => [.sl 0 0 1 a.1 a.2.1]) (fun a => [.ints a.2.2]) ?_ (fun a r h => ?_)
  · intro args h a e
    unfold readSl at e
    split at e <;> cases e
    exact ⟨rfl, rfl⟩
  · obtain ⟨n, c, xs⟩ := a
    rw [Tr.is_chk, Tr.is_leaf] at h
    obtain ⟨h, rfl⟩ := h
    simp only [Bool.and_eq_true, Bool.or_eq_true, decide_eq_true_eq, W4.isD_iff] at h
    obtain ⟨h1, h2⟩ := h
    have hj := join_fn (W4.valI xs) c
    have hd := joind_fn (W4.valI xs) c
    rcases h1 with rfl | rfl
    · rw [← h2] at hj; exact hj
    · rw [← h2] at hd; exact hd
def KR1 : KnownT := (98, digits_g) :: (100, join_g) :: KW3
theorem KR1_ok : KOkT Pr KR1 := KOkT.cons digits_en digits_ok (KOkT.cons join_en join_ok (KW3_ok))
def OR1 : OrcT := autoT Pr ext KR1 [] 3
theorem OR1_sound : OrcSound Pr OR1.o := autoT_sound mixed ext_ok KR1_ok (by kernel_rfl) 3
structure MvS where
  w : List (BitVec 64)
  d : List Int
  o : List Int
  n : Int
  fill : Int
def mv_O (a : MvS) (i : Nat) : List Int := if i = 0 then a.o else W4.dg 32 (W4.bitsN (W4.mvB (W4.valI a.d) a.n a.fill) i)
def mv_S (a : MvS) (i : Nat) : Fr × Heap := ([(1,.int .i64 a.n),(2,.int .i64 a.fill),(6,.ptr 0 0),(7,.sl 1 0 1 32 none),(8,.sl 2 0 1 32 (some 32)),(9,.int .i64 (i : Nat))], [.b64 a.w, .ints a.d, .ints (mv_O a i)])
def mv_read : Fr → Heap → Option MvS := fun f h => match f, h with
  | [(1,.int .i64 n),(2,.int .i64 fill),(6,.ptr 0 0),(7,.sl 1 0 1 32 none),(8,.sl 2 0 1 32 (some 32)),(9,.int .i64 0)], [.b64 w, .ints d, .ints o] => some ⟨w, d, o, n, fill⟩
  | _, _ => none
def mv_ok (a : MvS) : Bool := W4.isD 32 a.d && (W4.is0 32 a.o && (decide (-256 ≤ a.n) && (decide (a.n ≤ 256) && (decide (a.fill = 0) || decide (a.fill = 1)))))
def mv_E (a : MvS) : Tr (X × Fr × Heap) := .leaf (.exit 0, [(6,.ptr 0 0),(7,.sl 1 0 1 32 none),(8,.sl 2 0 1 32 (some 32))], [.b64 a.w, .ints a.d, .ints (W4.dg 32 (W4.mvN (W4.valI a.d) a.n a.fill))])
def mv_s : SmT := whT 4 [1,2,6,7,8,9] mv_read mv_ok mv_E
end
end Go.Proofs.Ytajbaocfdlopbaa.K
end
section
open Go Go.Lh
namespace Go.Proofs.Ytajbaocfdlopbaa.K
noncomputable section
set_option maxRecDepth 100000
def OA0 : OrcT := autoT Pr ext KR1 [67, 75] 4
theorem OA0_sound : OrcSound Pr OA0.o := autoT_sound mixed ext_ok KR1_ok (by kernel_rfl) 4
theorem words_x (a : BitVec 64) (s : BitVec 64) : Tr.prune (Tr.Sh.any.l.l.l.both Tr.Sh.any.r.r.r)
  (execBF Pr OA0 noLoopsT (100 : Nat) Go.Proofs.Try.f68 [V.u64 a, V.u64 s] []) =
  Tr.chk true
  (Tr.br (decide (a ≤ BitVec.ofInt (64 : Nat) (16777216 : Int)))
    (Tr.chk true
      (Tr.leaf
        (Fin.ret
            (V.tup
              [V.u64
                  ((a + s + BitVec.ofInt (64 : Nat) (32 : Int) - BitVec.ofInt (64 : Nat) (1 : Int)) /
                    BitVec.ofInt (64 : Nat) (32 : Int)),
                V.bool (decide (s ≤ BitVec.ofInt (64 : Nat) (16777216 : Int) - a))]),
          [])))
    (Tr.chk true
      (Tr.leaf
        (Fin.ret
            (V.tup
              [V.u64
                  ((a + s + BitVec.ofInt (64 : Nat) (32 : Int) - BitVec.ofInt (64 : Nat) (1 : Int)) /
                    BitVec.ofInt (64 : Nat) (32 : Int)),
                V.bool false]),
          [])))) := by kernel_rfl
theorem end_x (a : BitVec 64) (s : BitVec 64) : Tr.prune (Tr.Sh.any.l.l.l.l.l.l.both
  (Tr.Sh.any.l.l.l.l.both (Tr.Sh.any.both Tr.Sh.any).r.r.r).r)
  (execBF Pr OA0 noLoopsT (100 : Nat) Go.Proofs.Try.f108 [V.u64 a, V.u64 s] []) =
  Tr.chk true
  (Tr.br (decide (BitVec.ofInt (64 : Nat) (16777216 : Int) < a))
    (Tr.chk true (Tr.leaf (Fin.ret (V.tup [V.u64 (BitVec.ofInt (64 : Nat) (0 : Int)), V.bool false]), [])))
    (Tr.chk true
      (Tr.br (decide (BitVec.ofInt (64 : Nat) (16777216 : Int) < s))
        (Tr.chk true (Tr.leaf (Fin.ret (V.tup [V.u64 (BitVec.ofInt (64 : Nat) (0 : Int)), V.bool false]), [])))
        (Tr.chk true
          (Tr.br (decide (BitVec.ofInt (64 : Nat) (16777216 : Int) < a + s))
            (Tr.chk true (Tr.leaf (Fin.ret (V.tup [V.u64 (BitVec.ofInt (64 : Nat) (0 : Int)), V.bool false]), [])))
            (Tr.chk true (Tr.leaf (Fin.ret (V.tup [V.u64 (a + s), V.bool true]), [])))))))) := by kernel_rfl
theorem cost_x (a : BitVec 64) : Tr.prune (Tr.Sh.any.both Tr.Sh.any)
  (execBF Pr OA0 noLoopsT (100 : Nat) Go.Proofs.Try.f20 [V.u64 a] []) =
  Tr.chk true
  (Tr.br (decide (BitVec.ofInt (64 : Nat) (4294967296 : Int) ≤ a))
    (Tr.chk true (Tr.leaf (Fin.ret (V.u64 (BitVec.ofInt (64 : Nat) (9223372036854775808 : Int))), [])))
    (Tr.chk true
      (Tr.leaf
        (Fin.ret (V.u64 (BitVec.ofInt (64 : Nat) (3 : Int) * a + a * a / BitVec.ofInt (64 : Nat) (512 : Int))),
          [])))) := by kernel_rfl
theorem rcost_x (a : BitVec 64) : Tr.prune (Tr.Sh.any.both Tr.Sh.any)
  (execBF Pr OA0 noLoopsT (100 : Nat) Go.Proofs.Try.f21 [V.u64 a] []) =
  Tr.chk true
  (Tr.br (decide (BitVec.ofInt (64 : Nat) (4294967296 : Int) ≤ a))
    (Tr.chk true (Tr.leaf (Fin.ret (V.u64 (BitVec.ofInt (64 : Nat) (9223372036854775808 : Int))), [])))
    (Tr.chk true
      (Tr.leaf
        (Fin.ret (V.u64 (BitVec.ofInt (64 : Nat) (3 : Int) * a + a * a / BitVec.ofInt (64 : Nat) (512 : Int))),
          [])))) := by kernel_rfl
theorem part0_x (a : BitVec 64) (s : BitVec 64) : Tr.prune (Tr.Sh.any.both Tr.Sh.any.r)
  (execBF Pr OA0 noLoopsT (100 : Nat) Go.Proofs.Try.f66 [V.nilSl, V.u64 a, V.u64 s] []) =
  Tr.chk true
  (Tr.br (decide (BitVec.ofInt (64 : Nat) (16777216 : Int) < s))
    (Tr.chk true (Tr.leaf (Fin.ret (V.str (bytesOf (ByteArray.mk #[]))), [])))
    (Tr.chk
      (decide ((↑s.toNat : Int) ≤ (↑s.toNat : Int)) && decide ((↑s.toNat : Int) ≤ (281474976710656 : Int)) &&
                decide (s.toNat * (1 : Nat) ≤ (281474976710656 : Nat)) &&
              decide ((List.replicate s.toNat (BitVec.ofInt (8 : Nat) (0 : Int))).length = s.toNat * (1 : Nat)) &&
            true &&
          true &&
        (decide ((0 : Nat) + s.toNat ≤ (List.replicate s.toNat (BitVec.ofInt (8 : Nat) (0 : Int))).length) && true &&
          true))
      (Tr.leaf
        (Fin.ret (V.str (List.take s.toNat (List.replicate s.toNat (BitVec.ofInt (8 : Nat) (0 : Int))))),
          [])))) := by kernel_rfl
theorem part1_x (B : List (BitVec 8)) (a : BitVec 64) (s : BitVec 64) : Tr.prune (Tr.Sh.any.both
  (Tr.Sh.any.both Tr.Sh.any))
  (execBF Pr OA0 noLoopsT (100 : Nat) Go.Proofs.Try.f66
  [V.sl (0 : Nat) (0 : Nat) (1 : Nat) B.length none, V.u64 a, V.u64 s] [Blk.b8 B]) =
  Tr.chk true
  (Tr.br (decide (BitVec.ofInt (64 : Nat) (16777216 : Int) < s))
    (Tr.chk true (Tr.leaf (Fin.ret (V.str (bytesOf (ByteArray.mk #[]))), [Blk.b8 B])))
    (Tr.chk
      (decide ((↑s.toNat : Int) ≤ (↑s.toNat : Int)) && decide ((↑s.toNat : Int) ≤ (281474976710656 : Int)) &&
              decide (s.toNat * (1 : Nat) ≤ (281474976710656 : Nat)) &&
            decide ((List.replicate s.toNat (BitVec.ofInt (8 : Nat) (0 : Int))).length = s.toNat * (1 : Nat)) &&
          true &&
        true)
      (Tr.br (decide (a < BitVec.ofInt (64 : Nat) (↑B.length : Int)))
        (Tr.chk
          (decide ((some (↑a.toNat : Int)).getD (0 : Int) ≤ none.getD (↑B.length : Int)) &&
                  decide (none.getD (↑B.length : Int) ≤ (↑(none.getD B.length) : Int)) &&
                (decide
                      (slOff none ((some (↑a.toNat : Int)).getD (0 : Int)) (0 : Nat) (1 : Nat) +
                          (none.getD (↑B.length : Int) - (some (↑a.toNat : Int)).getD (0 : Int)).toNat * (1 : Nat) ≤
                        B.length) &&
                    decide
                      ((0 : Nat) +
                          min (none.getD (↑B.length : Int) - (some (↑a.toNat : Int)).getD (0 : Int)).toNat s.toNat *
                            (1 : Nat) ≤
                        (List.replicate s.toNat (BitVec.ofInt (8 : Nat) (0 : Int))).length) &&
                  true) &&
              (decide
                  ((0 : Nat) + s.toNat ≤
                    (List.take (0 : Nat) (List.replicate s.toNat (BitVec.ofInt (8 : Nat) (0 : Int))) ++
                          List.take
                            (min (none.getD (↑B.length : Int) - (some (↑a.toNat : Int)).getD (0 : Int)).toNat s.toNat *
                              (1 : Nat))
                            (List.take
                              ((none.getD (↑B.length : Int) - (some (↑a.toNat : Int)).getD (0 : Int)).toNat * (1 : Nat))
                              (List.drop (slOff none ((some (↑a.toNat : Int)).getD (0 : Int)) (0 : Nat) (1 : Nat))
                                B)) ++
                        List.drop
                          ((0 : Nat) +
                            (List.take
                                (min (none.getD (↑B.length : Int) - (some (↑a.toNat : Int)).getD (0 : Int)).toNat
                                    s.toNat *
                                  (1 : Nat))
                                (List.take
                                  ((none.getD (↑B.length : Int) - (some (↑a.toNat : Int)).getD (0 : Int)).toNat *
                                    (1 : Nat))
                                  (List.drop (slOff none ((some (↑a.toNat : Int)).getD (0 : Int)) (0 : Nat) (1 : Nat))
                                    B))).length)
                          (List.replicate s.toNat (BitVec.ofInt (8 : Nat) (0 : Int)))).length) &&
                true) &&
            true)
          (Tr.leaf
            (Fin.ret
                (V.str
                  (List.take s.toNat
                    (List.take (0 : Nat) (List.replicate s.toNat (BitVec.ofInt (8 : Nat) (0 : Int))) ++
                        List.take
                          (min (none.getD (↑B.length : Int) - (some (↑a.toNat : Int)).getD (0 : Int)).toNat s.toNat *
                            (1 : Nat))
                          (List.take
                            ((none.getD (↑B.length : Int) - (some (↑a.toNat : Int)).getD (0 : Int)).toNat * (1 : Nat))
                            (List.drop (slOff none ((some (↑a.toNat : Int)).getD (0 : Int)) (0 : Nat) (1 : Nat)) B)) ++
                      List.drop
                        ((0 : Nat) +
                          (List.take
                              (min (none.getD (↑B.length : Int) - (some (↑a.toNat : Int)).getD (0 : Int)).toNat
                                  s.toNat *
                                (1 : Nat))
                              (List.take
                                ((none.getD (↑B.length : Int) - (some (↑a.toNat : Int)).getD (0 : Int)).toNat *
                                  (1 : Nat))
                                (List.drop (slOff none ((some (↑a.toNat : Int)).getD (0 : Int)) (0 : Nat) (1 : Nat))
                                  B))).length)
                        (List.replicate s.toNat (BitVec.ofInt (8 : Nat) (0 : Int)))))),
              [Blk.b8 B])))
        (Tr.chk
          (decide ((0 : Nat) + s.toNat ≤ (List.replicate s.toNat (BitVec.ofInt (8 : Nat) (0 : Int))).length) && true &&
            true)
          (Tr.leaf
            (Fin.ret (V.str (List.take s.toNat (List.replicate s.toNat (BitVec.ofInt (8 : Nat) (0 : Int))))),
              [Blk.b8 B])))))) := by kernel_rfl
theorem part2_x (B : List (BitVec 8)) (a : BitVec 64) (s : BitVec 64) : Tr.prune (Tr.Sh.any.both
  (Tr.Sh.any.both Tr.Sh.any))
  (execBF Pr OA0 noLoopsT (100 : Nat) Go.Proofs.Try.f66
  [V.sl (0 : Nat) (0 : Nat) (1 : Nat) B.length none, V.u64 a, V.u64 s] [Blk.buf (5 : TypeId) B]) =
  Tr.chk true
  (Tr.br (decide (BitVec.ofInt (64 : Nat) (16777216 : Int) < s))
    (Tr.chk true (Tr.leaf (Fin.ret (V.str (bytesOf (ByteArray.mk #[]))), [Blk.buf (5 : Nat) B])))
    (Tr.chk
      (decide ((↑s.toNat : Int) ≤ (↑s.toNat : Int)) && decide ((↑s.toNat : Int) ≤ (281474976710656 : Int)) &&
              decide (s.toNat * (1 : Nat) ≤ (281474976710656 : Nat)) &&
            decide ((List.replicate s.toNat (BitVec.ofInt (8 : Nat) (0 : Int))).length = s.toNat * (1 : Nat)) &&
          true &&
        true)
      (Tr.br (decide (a < BitVec.ofInt (64 : Nat) (↑B.length : Int)))
        (Tr.chk
          (decide ((some (↑a.toNat : Int)).getD (0 : Int) ≤ none.getD (↑B.length : Int)) &&
                  decide (none.getD (↑B.length : Int) ≤ (↑(none.getD B.length) : Int)) &&
                (decide
                      (slOff none ((some (↑a.toNat : Int)).getD (0 : Int)) (0 : Nat) (1 : Nat) +
                          (none.getD (↑B.length : Int) - (some (↑a.toNat : Int)).getD (0 : Int)).toNat * (1 : Nat) ≤
                        B.length) &&
                    decide
                      ((0 : Nat) +
                          min (none.getD (↑B.length : Int) - (some (↑a.toNat : Int)).getD (0 : Int)).toNat s.toNat *
                            (1 : Nat) ≤
                        (List.replicate s.toNat (BitVec.ofInt (8 : Nat) (0 : Int))).length) &&
                  true) &&
              (decide
                  ((0 : Nat) + s.toNat ≤
                    (List.take (0 : Nat) (List.replicate s.toNat (BitVec.ofInt (8 : Nat) (0 : Int))) ++
                          List.take
                            (min (none.getD (↑B.length : Int) - (some (↑a.toNat : Int)).getD (0 : Int)).toNat s.toNat *
                              (1 : Nat))
                            (List.take
                              ((none.getD (↑B.length : Int) - (some (↑a.toNat : Int)).getD (0 : Int)).toNat * (1 : Nat))
                              (List.drop (slOff none ((some (↑a.toNat : Int)).getD (0 : Int)) (0 : Nat) (1 : Nat))
                                B)) ++
                        List.drop
                          ((0 : Nat) +
                            (List.take
                                (min (none.getD (↑B.length : Int) - (some (↑a.toNat : Int)).getD (0 : Int)).toNat
                                    s.toNat *
                                  (1 : Nat))
                                (List.take
                                  ((none.getD (↑B.length : Int) - (some (↑a.toNat : Int)).getD (0 : Int)).toNat *
                                    (1 : Nat))
                                  (List.drop (slOff none ((some (↑a.toNat : Int)).getD (0 : Int)) (0 : Nat) (1 : Nat))
                                    B))).length)
                          (List.replicate s.toNat (BitVec.ofInt (8 : Nat) (0 : Int)))).length) &&
                true) &&
            true)
          (Tr.leaf
            (Fin.ret
                (V.str
                  (List.take s.toNat
                    (List.take (0 : Nat) (List.replicate s.toNat (BitVec.ofInt (8 : Nat) (0 : Int))) ++
                        List.take
                          (min (none.getD (↑B.length : Int) - (some (↑a.toNat : Int)).getD (0 : Int)).toNat s.toNat *
                            (1 : Nat))
                          (List.take
                            ((none.getD (↑B.length : Int) - (some (↑a.toNat : Int)).getD (0 : Int)).toNat * (1 : Nat))
                            (List.drop (slOff none ((some (↑a.toNat : Int)).getD (0 : Int)) (0 : Nat) (1 : Nat)) B)) ++
                      List.drop
                        ((0 : Nat) +
                          (List.take
                              (min (none.getD (↑B.length : Int) - (some (↑a.toNat : Int)).getD (0 : Int)).toNat
                                  s.toNat *
                                (1 : Nat))
                              (List.take
                                ((none.getD (↑B.length : Int) - (some (↑a.toNat : Int)).getD (0 : Int)).toNat *
                                  (1 : Nat))
                                (List.drop (slOff none ((some (↑a.toNat : Int)).getD (0 : Int)) (0 : Nat) (1 : Nat))
                                  B))).length)
                        (List.replicate s.toNat (BitVec.ofInt (8 : Nat) (0 : Int)))))),
              [Blk.buf (5 : Nat) B])))
        (Tr.chk
          (decide ((0 : Nat) + s.toNat ≤ (List.replicate s.toNat (BitVec.ofInt (8 : Nat) (0 : Int))).length) && true &&
            true)
          (Tr.leaf
            (Fin.ret (V.str (List.take s.toNat (List.replicate s.toNat (BitVec.ofInt (8 : Nat) (0 : Int))))),
              [Blk.buf (5 : Nat) B])))))) := by kernel_rfl
theorem new_x : Tr.prune (Tr.Sh.any)
  (execBF Pr OA0 noLoopsT (100 : Nat) Go.Proofs.Try.f24 [] []) =
  Tr.chk true (Tr.leaf (Fin.ret (V.ptr (0 : Nat) (0 : Nat)), [Blk.vals [V.nilSl]])) := by kernel_rfl
theorem w1_x (i : Nat) (s : List (BitVec 8)) : Tr.prune (Tr.Sh.any.both Tr.Sh.any)
  (execBF Pr OA0 noLoopsT (100 : Nat) Go.Proofs.Try.f78 [V.int IntKind.i64 (↑i : Int), V.ptr (0 : Nat) (0 : Nat)]
  [Blk.vals [V.str s]]) =
  Tr.chk true
  (Tr.br (decide ((↑i : Int) < (↑s.length : Int)))
    (Tr.chk (decide ((↑i : Int) < (↑s.length : Int)) && true && true)
      (Tr.leaf (Fin.ret (V.u8 (s.getD i (OfNat.ofNat (0 : Nat)))), [Blk.vals [V.str s]])))
    (Tr.chk true (Tr.leaf (Fin.ret (V.u8 (BitVec.ofInt (8 : Nat) (0 : Int))), [Blk.vals [V.str s]])))) := by kernel_rfl
end
end Go.Proofs.Ytajbaocfdlopbaa.K
end
section
open Go Go.Lh
namespace Go.Proofs.Ytajbaocfdlopbaa.K
noncomputable section
set_option maxRecDepth 100000
theorem c24 : (BitVec.ofInt 64 16777216).toNat = 16777216 := rfl
theorem words_fn (a s : BitVec 64) : LFn Pr 68 [.u64 a, .u64 s] [] (.ret (.tup [.u64 (wrdV a s), .bool (fitB a s)])) [] := by
  refine fnT OA0_sound mixed (by kernel_rfl) LoopsOk.noneT (words_x a s) ?_
  have ha := a.isLt
  have hs := s.isLt
  simp only [wp_chk_true, wp_br, wp_leaf, decide_eq_true_eq, decide_eq_false_iff_not, BitVec.le_def, c24]
  refine ⟨fun h => ?_, fun h => ?_⟩
  · have : decide (s.toNat ≤ (BitVec.ofInt 64 16777216 - a).toNat) = fitB a s := by
      rw [fitB, decide_eq_decide, BitVec.toNat_sub, c24]; omega
    rw [this]; rfl
  · have : fitB a s = false := by rw [fitB, decide_eq_false_iff_not]; omega
    rw [this]; rfl
theorem end_fn (a s : BitVec 64) : LFn Pr 108 [.u64 a, .u64 s] [] (.ret (.tup [.u64 (bif fitB a s then a + s else BitVec.ofInt 64 0), .bool (fitB a s)])) [] := by
  refine fnT OA0_sound mixed (by kernel_rfl) LoopsOk.noneT (end_x a s) ?_
  have ha := a.isLt
  have hs := s.isLt
  have hsum : (a + s).toNat = (a.toNat + s.toNat) % 2 ^ 64 := BitVec.toNat_add _ _
  simp only [wp_chk_true, wp_br, wp_leaf, decide_eq_true_eq, decide_eq_false_iff_not, BitVec.lt_def, c24]
  refine ⟨fun h => ?_, fun h => ⟨fun h2 => ?_, fun h2 => ⟨fun h3 => ?_, fun h3 => ?_⟩⟩⟩
  · have : fitB a s = false := by rw [fitB, decide_eq_false_iff_not]; omega
    rw [this]; rfl
  · have : fitB a s = false := by rw [fitB, decide_eq_false_iff_not]; omega
    rw [this]; rfl
  · have : fitB a s = false := by rw [fitB, decide_eq_false_iff_not]; omega
    rw [this]; rfl
  · have : fitB a s = true := by rw [fitB, decide_eq_true_eq]; omega
    rw [this]; rfl
theorem cost_fn (a : BitVec 64) : LFn Pr 20 [.u64 a] [] (.ret (.u64 (costV a))) [] := by
  refine fnT OA0_sound mixed (by kernel_rfl) LoopsOk.noneT (cost_x a) ?_
  unfold costV
  rw [wp_chk_true, wp_br]
  refine ⟨fun h => ?_, fun h => ?_⟩ <;> rw [h] <;> exact tr1 rfl rfl
theorem rcost_fn (a : BitVec 64) : LFn Pr 21 [.u64 a] [] (.ret (.u64 (costV a))) [] := by
  refine fnT OA0_sound mixed (by kernel_rfl) LoopsOk.noneT (rcost_x a) ?_
  unfold costV
  rw [wp_chk_true, wp_br]
  refine ⟨fun h => ?_, fun h => ?_⟩ <;> rw [h] <;> exact tr1 rfl rfl
inductive PtS where
  | nil (a s : BitVec 64)
  | b8 (n : Nat) (B : List (BitVec 8)) (a s : BitVec 64)
  | buf (n : Nat) (B : List (BitVec 8)) (a s : BitVec 64)
def readPt : List V → Heap → Option PtS := fun args h => match args, h with
  | [.nilSl, .u64 a, .u64 s], [] => some (.nil a s)
  | [.sl 0 0 1 n none, .u64 a, .u64 s], [.b8 B] => some (.b8 n B a s)
  | [.sl 0 0 1 n none, .u64 a, .u64 s], [.buf 5 B] => some (.buf n B a s)
  | _, _ => none
def part_f : PtS → Tr (Fin × Heap)
  | .nil a s => .leaf (.ret (.str (partS [] a s)), [])
  | .b8 n B a s => .chk (lenOk n B) (.leaf (.ret (.str (partS B a s)), [.b8 B]))
  | .buf n B a s => .chk (lenOk n B) (.leaf (.ret (.str (partS B a s)), [.buf 5 B]))
theorem min_take {B : List (BitVec 8)} {a s : Nat} (h : a ≤ B.length) : List.take s (List.take 0 (List.replicate s (BitVec.ofInt 8 0)) ++ List.take (min (B.length - a) s) (List.take (B.length - a) (List.drop a B)) ++ List.drop (List.take (min (B.length - a) s) (List.take (B.length - a) (List.drop a B))).length (List.replicate s (BitVec.ofInt 8 0))) = padN B a s := by
  rw [← padN_cut h rfl]
  have e : List.take (B.length - a) (List.drop a B) = List.drop a B := List.take_of_length_le (by simp)
  rw [e, List.take_zero, List.nil_append, List.length_take, List.length_drop, List.drop_replicate, List.take_of_length_le]
  · congr 2; omega
  · simp; omega
theorem partS_far {B : List (BitVec 8)} {a s : BitVec 64} (h : 16777216 < s.toNat) : partS B a s = [] := if_pos h
theorem partS_near {B : List (BitVec 8)} {a s : BitVec 64} (h : ¬ 16777216 < s.toNat) : partS B a s = padN B a.toNat s.toNat := if_neg h
theorem part_nil (a s : BitVec 64) : LFn Pr 66 [.nilSl, .u64 a, .u64 s] [] (.ret (.str (partS [] a s))) [] := by
  refine fnT OA0_sound mixed (by kernel_rfl) LoopsOk.noneT (part0_x a s) ?_
  simp only [wp_chk_true, wp_chk, wp_br, wp_leaf, decide_eq_true_eq, decide_eq_false_iff_not, BitVec.lt_def, c24, Bool.and_true, Bool.and_eq_true, List.length_replicate, true_and, Nat.mul_one, Nat.zero_add]
  refine ⟨fun h => ?_, fun h => ⟨by (repeat' apply And.intro) <;> first | omega | exact True.intro, ?_⟩⟩
  · rw [partS_far h]; rfl
  · rw [partS_near h, padN_out (Nat.zero_le _), List.take_of_length_le (by simp)]; rfl
theorem part_b8 (B : List (BitVec 8)) (a s : BitVec 64) (hB : B.length < 9223372036854775808) : LFn Pr 66 [.sl 0 0 1 B.length none, .u64 a, .u64 s] [.b8 B] (.ret (.str (partS B a s))) [.b8 B] := by
  refine fnT OA0_sound mixed (by kernel_rfl) LoopsOk.noneT (part1_x B a s) ?_
  have hs0 := s.isLt
  simp only [wp_chk_true, wp_chk, wp_br, wp_leaf, decide_eq_true_eq, decide_eq_false_iff_not, BitVec.lt_def, c24, Bool.and_true, Bool.and_eq_true, List.length_replicate, toNat_ofInt_nat (n := B.length) (by omega), Option.getD_some, Option.getD_none, slOff, Int.toNat_natCast, Nat.mul_one, Nat.zero_add, true_and]
  refine ⟨fun h => ?_, fun h => ⟨by (repeat' apply And.intro) <;> first | omega | exact True.intro, fun h2 => ?_, fun h2 => ?_⟩⟩
  · rw [partS_far h]; rfl
  · have e : ((B.length : Int) - (a.toNat : Int)).toNat = B.length - a.toNat := by omega
    rw [e, partS_near h, min_take (by omega)]
    refine ⟨?_, rfl⟩
    simp only [List.length_append, List.length_take, List.length_drop, List.length_replicate]; (repeat' apply And.intro) <;> first | omega | exact True.intro
  · rw [partS_near h, padN_out (by omega), List.take_of_length_le (by simp)]
    exact ⟨by (repeat' apply And.intro) <;> first | omega | exact True.intro, rfl⟩
theorem part_buf (B : List (BitVec 8)) (a s : BitVec 64) (hB : B.length < 9223372036854775808) : LFn Pr 66 [.sl 0 0 1 B.length none, .u64 a, .u64 s] [.buf 5 B] (.ret (.str (partS B a s))) [.buf 5 B] := by
  refine fnT OA0_sound mixed (by kernel_rfl) LoopsOk.noneT (part2_x B a s) ?_
  have hs0 := s.isLt
  simp only [wp_chk_true, wp_chk, wp_br, wp_leaf, decide_eq_true_eq, decide_eq_false_iff_not, BitVec.lt_def, c24, Bool.and_true, Bool.and_eq_true, List.length_replicate, toNat_ofInt_nat (n := B.length) (by omega), Option.getD_some, Option.getD_none, slOff, Int.toNat_natCast, Nat.mul_one, Nat.zero_add, true_and]
  refine ⟨fun h => ?_, fun h => ⟨by (repeat' apply And.intro) <;> first | omega | exact True.intro, fun h2 => ?_, fun h2 => ?_⟩⟩
  · rw [partS_far h]; rfl
  · have e : ((B.length : Int) - (a.toNat : Int)).toNat = B.length - a.toNat := by omega
    rw [e, partS_near h, min_take (by omega)]
    refine ⟨?_, rfl⟩
    simp only [List.length_append, List.length_take, List.length_drop, List.length_replicate]; (repeat' apply And.intro) <;> first | omega | exact True.intro
  · rw [partS_near h, padN_out (by omega), List.take_of_length_le (by simp)]
    exact ⟨by (repeat' apply And.intro) <;> first | omega | exact True.intro, rfl⟩
end
end Go.Proofs.Ytajbaocfdlopbaa.K
end
section
open Go Go.Lh
namespace Go.Proofs.Ytajbaocfdlopbaa.K
noncomputable section
set_option maxRecDepth 100000
theorem part_ok : ∀ args h r, ((ctT readPt part_f) args h).is r → LFn Pr 66 args h r.1 r.2 := by
  refine ctT_ok (fun a => match a with | .nil a s => [.nilSl, .u64 a, .u64 s] | .b8 n B a s => [.sl 0 0 1 n none, .u64 a, .u64 s] | .buf n B a s => [.sl 0 0 1 n none, .u64 a, .u64 s]) (fun a => match a with | .nil a s => [] | .b8 n B a s => [.b8 B] | .buf n B a s => [.buf 5 B]) ?_ (fun a r h => ?_)
  · intro args h a e
    unfold readPt at e
    split at e <;> cases e <;> exact ⟨rfl, rfl⟩
  · cases a with
    | nil a s => simp only [part_f] at h; rw [Tr.is_leaf] at h; subst h; exact part_nil a s
    | b8 n B a s =>
      simp only [part_f] at h; rw [Tr.is_chk, Tr.is_leaf] at h
      obtain ⟨h1, rfl⟩ := h
      obtain ⟨rfl, h2⟩ := lenOk_iff.1 h1
      exact part_b8 B a s h2
    | buf n B a s =>
      simp only [part_f] at h; rw [Tr.is_chk, Tr.is_leaf] at h
      obtain ⟨h1, rfl⟩ := h
      obtain ⟨rfl, h2⟩ := lenOk_iff.1 h1
      exact part_buf B a s h2
theorem rsmall_x (x : W4) : Tr.prune ((Tr.Sh.any.l.l.both Tr.Sh.any.r.r).l.l.both Tr.Sh.any.r.r.r.r.r)
  (execBF Pr OA0 noLoopsT (100 : Nat) Go.Proofs.Try.f67 [x.v] []) =
  Tr.chk true
  (Tr.br (x.a == BitVec.ofInt (64 : Nat) (0 : Int))
    (Tr.chk true
      (Tr.br (x.b == BitVec.ofInt (64 : Nat) (0 : Int))
        (Tr.chk true (Tr.leaf (Fin.ret (V.tup [V.u64 x.d, V.bool (x.c == BitVec.ofInt (64 : Nat) (0 : Int))]), [])))
        (Tr.chk true (Tr.leaf (Fin.ret (V.tup [V.u64 x.d, V.bool false]), [])))))
    (Tr.chk true (Tr.leaf (Fin.ret (V.tup [V.u64 x.d, V.bool false]), [])))) := by kernel_rfl
theorem isSmall_eq (n : W4) : isSmall n = (n.a == BitVec.ofInt 64 0 && (n.b == BitVec.ofInt 64 0 && n.c == BitVec.ofInt 64 0)) := by
  unfold isSmall
  rw [Bool.eq_iff_iff]
  simp only [Bool.and_eq_true, beq_iff_eq]
  constructor
  · intro h
    refine ⟨?_, ?_, ?_⟩ <;> apply BitVec.eq_of_toNat_eq <;> apply Nat.eq_of_testBit_eq <;> intro i <;> have h2 := congrArg (fun z : BitVec 64 => z.getLsbD i) h <;> simp at h2 ⊢ <;> simp [← BitVec.testBit_toNat] at h2 ⊢ <;> simp [h2]
  · rintro ⟨h1, h2, h3⟩; rw [h1, h2, h3]; rfl
theorem rsmall_fn (x : W4) : LFn Pr 67 [x.v] [] (.ret (.tup [.u64 x.d, .bool (isSmall x)])) [] := by
  refine fnT OA0_sound mixed (by kernel_rfl) LoopsOk.noneT (rsmall_x x) ?_
  rw [isSmall_eq]
  cases ha : x.a == BitVec.ofInt 64 0 <;> cases hb : x.b == BitVec.ofInt 64 0 <;> simp [wp_chk, wp_leaf, wp_br]
def endV (a s : BitVec 64) : V := .tup [.u64 (bif fitB a s then a + s else BitVec.ofInt 64 0), .bool (fitB a s)]
def KA1 : KnownT := (68, old (ctUU fun a s => .tup [.u64 (wrdV a s), .bool (fitB a s)])) :: (108, old (ctUU endV)) :: (20, old (ctU fun a => .u64 (costV a))) :: (21, old (ctU fun a => .u64 (costV a))) :: (66, ctT readPt part_f) :: (67, old (ctW fun x => .tup [.u64 x.d, .bool (isSmall x)])) :: KR1
theorem KA1_ok : KOkT Pr KA1 := KOkT.cons (Enters.of (fn := Go.Proofs.Try.f68) (by kernel_rfl) (by kernel_rfl)) (old_ok (ctUU_ok words_fn)) (KOkT.cons (Enters.of (fn := Go.Proofs.Try.f108) (by kernel_rfl) (by kernel_rfl)) (old_ok (ctUU_ok end_fn))
  (KOkT.cons (Enters.of (fn := Go.Proofs.Try.f20) (by kernel_rfl) (by kernel_rfl)) (old_ok (ctU_ok cost_fn)) (KOkT.cons (Enters.of (fn := Go.Proofs.Try.f21) (by kernel_rfl) (by kernel_rfl)) (old_ok (ctU_ok rcost_fn))
  (KOkT.cons (Enters.of (fn := Go.Proofs.Try.f66) (by kernel_rfl) (by kernel_rfl)) part_ok (KOkT.cons (Enters.of (fn := Go.Proofs.Try.f67) (by kernel_rfl) (by kernel_rfl)) (old_ok (ctW_ok rsmall_fn)) KR1_ok)))))
def OA1 : OrcT := autoT Pr ext KA1 [29] 4
theorem OA1_sound : OrcSound Pr OA1.o := autoT_sound mixed ext_ok KA1_ok (by kernel_rfl) 4
def OA1N : OrcT := { OA1 with nb := true }
theorem OA1N_sound : OrcSound Pr OA1N.o := OA1_sound
theorem need0_x (a : W4) (s : W4) : Tr.prune (Tr.Sh.any.both
  (Tr.Sh.any.l.l.l.l.both (Tr.Sh.any.l.l.both (Tr.Sh.any.both Tr.Sh.any).r).r))
  (execBF Pr OA1 noLoopsT (100 : Nat) Go.Proofs.Try.f25 [V.ptr (0 : Nat) (0 : Nat), a.v, s.v] [Blk.vals [V.nilSl]]) =
  Tr.chk true
  (Tr.br
    (s.a == BitVec.ofInt (64 : Nat) (0 : Int) &&
      (s.b == BitVec.ofInt (64 : Nat) (0 : Int) &&
        (s.c == BitVec.ofInt (64 : Nat) (0 : Int) && (s.d == BitVec.ofInt (64 : Nat) (0 : Int) && true))))
    (Tr.chk true
      (Tr.leaf (Fin.ret (V.tup [V.u64 (BitVec.ofInt (64 : Nat) (0 : Int)), V.bool true]), [Blk.vals [V.nilSl]])))
    (Tr.chk true
      (Tr.br (!isSmall a)
        (Tr.chk true
          (Tr.leaf (Fin.ret (V.tup [V.u64 (BitVec.ofInt (64 : Nat) (0 : Int)), V.bool false]), [Blk.vals [V.nilSl]])))
        (Tr.chk true
          (Tr.br (!isSmall s)
            (Tr.chk true
              (Tr.leaf
                (Fin.ret (V.tup [V.u64 (BitVec.ofInt (64 : Nat) (0 : Int)), V.bool false]), [Blk.vals [V.nilSl]])))
            (Tr.chk true
              (Tr.br (!fitB a.d s.d)
                (Tr.chk true
                  (Tr.leaf
                    (Fin.ret (V.tup [V.u64 (BitVec.ofInt (64 : Nat) (0 : Int)), V.bool false]), [Blk.vals [V.nilSl]])))
                (Tr.chk true
                  (Tr.leaf
                    (Fin.ret
                        (V.tup [V.u64 (costV (wrdV a.d s.d) - costV (BitVec.ofInt (64 : Nat) (0 : Int))), V.bool true]),
                      [Blk.vals [V.nilSl]])))))))))) := by kernel_rfl
theorem need1_x (a : W4) (s : W4) (n : Nat) (B : List (BitVec 8)) : Tr.prune (Tr.Sh.any.both
  (Tr.Sh.any.l.l.l.l.both (Tr.Sh.any.l.l.both (Tr.Sh.any.both Tr.Sh.any).r).r))
  (execBF Pr OA1 noLoopsT (100 : Nat) Go.Proofs.Try.f25 [V.ptr (0 : Nat) (0 : Nat), a.v, s.v]
  [Blk.vals [V.sl (1 : Nat) (0 : Nat) (1 : Nat) n none], Blk.buf (5 : TypeId) B]) =
  Tr.chk true
  (Tr.br
    (s.a == BitVec.ofInt (64 : Nat) (0 : Int) &&
      (s.b == BitVec.ofInt (64 : Nat) (0 : Int) &&
        (s.c == BitVec.ofInt (64 : Nat) (0 : Int) && (s.d == BitVec.ofInt (64 : Nat) (0 : Int) && true))))
    (Tr.chk true
      (Tr.leaf
        (Fin.ret (V.tup [V.u64 (BitVec.ofInt (64 : Nat) (0 : Int)), V.bool true]),
          [Blk.vals [V.sl (1 : Nat) (0 : Nat) (1 : Nat) n none], Blk.buf (5 : Nat) B])))
    (Tr.chk true
      (Tr.br (!isSmall a)
        (Tr.chk true
          (Tr.leaf
            (Fin.ret (V.tup [V.u64 (BitVec.ofInt (64 : Nat) (0 : Int)), V.bool false]),
              [Blk.vals [V.sl (1 : Nat) (0 : Nat) (1 : Nat) n none], Blk.buf (5 : Nat) B])))
        (Tr.chk true
          (Tr.br (!isSmall s)
            (Tr.chk true
              (Tr.leaf
                (Fin.ret (V.tup [V.u64 (BitVec.ofInt (64 : Nat) (0 : Int)), V.bool false]),
                  [Blk.vals [V.sl (1 : Nat) (0 : Nat) (1 : Nat) n none], Blk.buf (5 : Nat) B])))
            (Tr.chk true
              (Tr.br (!fitB a.d s.d)
                (Tr.chk true
                  (Tr.leaf
                    (Fin.ret (V.tup [V.u64 (BitVec.ofInt (64 : Nat) (0 : Int)), V.bool false]),
                      [Blk.vals [V.sl (1 : Nat) (0 : Nat) (1 : Nat) n none], Blk.buf (5 : Nat) B])))
                (Tr.chk true
                  (Tr.leaf
                    (Fin.ret
                        (V.tup
                          [V.u64
                              (costV
                                  (if
                                      wrdV a.d s.d <
                                        BitVec.ofInt (64 : Nat) (wrapI IntKind.i64 ((↑n : Int).tdiv (32 : Int))) then
                                    BitVec.ofInt (64 : Nat) (wrapI IntKind.i64 ((↑n : Int).tdiv (32 : Int)))
                                  else wrdV a.d s.d) -
                                costV (BitVec.ofInt (64 : Nat) (wrapI IntKind.i64 ((↑n : Int).tdiv (32 : Int))))),
                            V.bool true]),
                      [Blk.vals [V.sl (1 : Nat) (0 : Nat) (1 : Nat) n none],
                        Blk.buf (5 : Nat) B])))))))))) := by kernel_rfl
theorem rneed0_x (a : W4) (s : W4) : Tr.prune (Tr.Sh.any.both
  (Tr.Sh.any.l.l.l.l.both (Tr.Sh.any.l.l.both (Tr.Sh.any.both Tr.Sh.any).r).r))
  (execBF Pr OA1 noLoopsT (100 : Nat) Go.Proofs.Try.f69 [V.ptr (0 : Nat) (0 : Nat), a.v, s.v] [Blk.vals [V.nilSl]]) =
  Tr.chk true
  (Tr.br
    (s.a == BitVec.ofInt (64 : Nat) (0 : Int) &&
      (s.b == BitVec.ofInt (64 : Nat) (0 : Int) &&
        (s.c == BitVec.ofInt (64 : Nat) (0 : Int) && (s.d == BitVec.ofInt (64 : Nat) (0 : Int) && true))))
    (Tr.chk true
      (Tr.leaf (Fin.ret (V.tup [V.u64 (BitVec.ofInt (64 : Nat) (0 : Int)), V.bool true]), [Blk.vals [V.nilSl]])))
    (Tr.chk true
      (Tr.br (!isSmall a)
        (Tr.chk true
          (Tr.leaf (Fin.ret (V.tup [V.u64 (BitVec.ofInt (64 : Nat) (0 : Int)), V.bool false]), [Blk.vals [V.nilSl]])))
        (Tr.chk true
          (Tr.br (!isSmall s)
            (Tr.chk true
              (Tr.leaf
                (Fin.ret (V.tup [V.u64 (BitVec.ofInt (64 : Nat) (0 : Int)), V.bool false]), [Blk.vals [V.nilSl]])))
            (Tr.chk true
              (Tr.br (!fitB a.d s.d)
                (Tr.chk true
                  (Tr.leaf
                    (Fin.ret (V.tup [V.u64 (BitVec.ofInt (64 : Nat) (0 : Int)), V.bool false]), [Blk.vals [V.nilSl]])))
                (Tr.chk true
                  (Tr.leaf
                    (Fin.ret
                        (V.tup
                          [V.u64
                              (costV
                                  (((bif fitB a.d s.d then a.d + s.d else BitVec.ofInt (64 : Nat) (0 : Int)) +
                                      BitVec.ofInt (64 : Nat) (31 : Int)) /
                                    BitVec.ofInt (64 : Nat) (32 : Int)) -
                                costV (BitVec.ofInt (64 : Nat) (0 : Int) / BitVec.ofInt (64 : Nat) (32 : Int))),
                            V.bool true]),
                      [Blk.vals [V.nilSl]])))))))))) := by kernel_rfl
theorem rneed1_x (a : W4) (s : W4) (n : Nat) (B : List (BitVec 8)) : Tr.prune (Tr.Sh.any.both
  (Tr.Sh.any.l.l.l.l.both (Tr.Sh.any.l.l.both (Tr.Sh.any.both Tr.Sh.any).r).r))
  (execBF Pr OA1 noLoopsT (100 : Nat) Go.Proofs.Try.f69 [V.ptr (0 : Nat) (0 : Nat), a.v, s.v]
  [Blk.vals [V.sl (1 : Nat) (0 : Nat) (1 : Nat) n none], Blk.buf (5 : TypeId) B]) =
  Tr.chk true
  (Tr.br
    (s.a == BitVec.ofInt (64 : Nat) (0 : Int) &&
      (s.b == BitVec.ofInt (64 : Nat) (0 : Int) &&
        (s.c == BitVec.ofInt (64 : Nat) (0 : Int) && (s.d == BitVec.ofInt (64 : Nat) (0 : Int) && true))))
    (Tr.chk true
      (Tr.leaf
        (Fin.ret (V.tup [V.u64 (BitVec.ofInt (64 : Nat) (0 : Int)), V.bool true]),
          [Blk.vals [V.sl (1 : Nat) (0 : Nat) (1 : Nat) n none], Blk.buf (5 : Nat) B])))
    (Tr.chk true
      (Tr.br (!isSmall a)
        (Tr.chk true
          (Tr.leaf
            (Fin.ret (V.tup [V.u64 (BitVec.ofInt (64 : Nat) (0 : Int)), V.bool false]),
              [Blk.vals [V.sl (1 : Nat) (0 : Nat) (1 : Nat) n none], Blk.buf (5 : Nat) B])))
        (Tr.chk true
          (Tr.br (!isSmall s)
            (Tr.chk true
              (Tr.leaf
                (Fin.ret (V.tup [V.u64 (BitVec.ofInt (64 : Nat) (0 : Int)), V.bool false]),
                  [Blk.vals [V.sl (1 : Nat) (0 : Nat) (1 : Nat) n none], Blk.buf (5 : Nat) B])))
            (Tr.chk true
              (Tr.br (!fitB a.d s.d)
                (Tr.chk true
                  (Tr.leaf
                    (Fin.ret (V.tup [V.u64 (BitVec.ofInt (64 : Nat) (0 : Int)), V.bool false]),
                      [Blk.vals [V.sl (1 : Nat) (0 : Nat) (1 : Nat) n none], Blk.buf (5 : Nat) B])))
                (Tr.chk true
                  (Tr.leaf
                    (Fin.ret
                        (V.tup
                          [V.u64
                              (costV
                                  (if
                                      ((bif fitB a.d s.d then a.d + s.d else BitVec.ofInt (64 : Nat) (0 : Int)) +
                                            BitVec.ofInt (64 : Nat) (31 : Int)) /
                                          BitVec.ofInt (64 : Nat) (32 : Int) <
                                        BitVec.ofInt (64 : Nat) (↑n : Int) / BitVec.ofInt (64 : Nat) (32 : Int) then
                                    BitVec.ofInt (64 : Nat) (↑n : Int) / BitVec.ofInt (64 : Nat) (32 : Int)
                                  else
                                    ((bif fitB a.d s.d then a.d + s.d else BitVec.ofInt (64 : Nat) (0 : Int)) +
                                        BitVec.ofInt (64 : Nat) (31 : Int)) /
                                      BitVec.ofInt (64 : Nat) (32 : Int)) -
                                costV (BitVec.ofInt (64 : Nat) (↑n : Int) / BitVec.ofInt (64 : Nat) (32 : Int))),
                            V.bool true]),
                      [Blk.vals [V.sl (1 : Nat) (0 : Nat) (1 : Nat) n none],
                        Blk.buf (5 : Nat) B])))))))))) := by kernel_rfl
theorem grow0_x (a : BitVec 64) (s : BitVec 64) : Tr.prune ((((Tr.Sh.any.both Tr.Sh.any).both Tr.Sh.any).l.both
        Tr.Sh.any.r.r).l.both
  Tr.Sh.any.r.r.r.r)
  (execBF Pr OA1N noLoopsT (100 : Nat) Go.Proofs.Try.f26 [V.ptr (0 : Nat) (0 : Nat), V.u64 a, V.u64 s]
  [Blk.vals [V.nilSl]]) =
  Tr.chk true
  (Tr.br (fitB a s)
    (Tr.chk true
      (Tr.br (decide (BitVec.ofInt (64 : Nat) (0 : Int) < s))
        (Tr.chk true
          (Tr.br
            (decide
              (wrapI IntKind.i64
                  (wrapI IntKind.i64 (↑(wrdV a s * BitVec.ofInt (64 : Nat) (32 : Int)).toNat : Int) - (0 : Int)) >
                (0 : Int)))
            (Tr.chk
              (decide
                      ((0 : Int) ≤
                        wrapI IntKind.i64
                          (wrapI IntKind.i64 (↑(wrdV a s * BitVec.ofInt (64 : Nat) (32 : Int)).toNat : Int) -
                            (0 : Int))) &&
                    decide
                      (wrapI IntKind.i64
                          (wrapI IntKind.i64 (↑(wrdV a s * BitVec.ofInt (64 : Nat) (32 : Int)).toNat : Int) -
                            (0 : Int)) ≤
                        (70368744177664 : Int)) &&
                  decide
                    ((wrapI IntKind.i64
                            (wrapI IntKind.i64 (↑(wrdV a s * BitVec.ofInt (64 : Nat) (32 : Int)).toNat : Int) -
                              (0 : Int))).toNat *
                        (1 : Nat) ≤
                      (281474976710656 : Nat)) &&
                decide
                  ((List.replicate
                        (wrapI IntKind.i64
                            (wrapI IntKind.i64 (↑(wrdV a s * BitVec.ofInt (64 : Nat) (32 : Int)).toNat : Int) -
                              (0 : Int))).toNat
                        (BitVec.ofInt (8 : Nat) (0 : Int))).length =
                    (wrapI IntKind.i64
                          (wrapI IntKind.i64 (↑(wrdV a s * BitVec.ofInt (64 : Nat) (32 : Int)).toNat : Int) -
                            (0 : Int))).toNat *
                      (1 : Nat)))
              (Tr.br
                (decide
                  ((wrapI IntKind.i64
                        (wrapI IntKind.i64 (↑(wrdV a s * BitVec.ofInt (64 : Nat) (32 : Int)).toNat : Int) -
                          (0 : Int))).toNat =
                    (0 : Nat)))
                (Tr.chk true (Tr.leaf (Fin.ret (V.tup []), [Blk.vals [V.nilSl]])))
                (Tr.chk
                  (decide
                            ((wrapI IntKind.i64
                                  (wrapI IntKind.i64 (↑(wrdV a s * BitVec.ofInt (64 : Nat) (32 : Int)).toNat : Int) -
                                    (0 : Int))).toNat ≤
                              (70368744177664 : Nat)) &&
                          decide
                            (((2 : Nat) *
                                    (wrapI IntKind.i64
                                        (wrapI IntKind.i64
                                            (↑(wrdV a s * BitVec.ofInt (64 : Nat) (32 : Int)).toNat : Int) -
                                          (0 : Int))).toNat +
                                  (1024 : Nat)) *
                                (1 : Nat) ≤
                              (281474976710656 : Nat)) &&
                        true &&
                      true &&
                    true)
                  (Tr.leaf
                    (Fin.ret (V.tup []),
                      [Blk.vals
                          [V.sl (1 : Nat) (0 : Nat) (1 : Nat)
                              (wrapI IntKind.i64
                                  (wrapI IntKind.i64 (↑(wrdV a s * BitVec.ofInt (64 : Nat) (32 : Int)).toNat : Int) -
                                    (0 : Int))).toNat
                              none],
                        Blk.buf (5 : Nat)
                          (List.replicate
                            (wrapI IntKind.i64
                                (wrapI IntKind.i64 (↑(wrdV a s * BitVec.ofInt (64 : Nat) (32 : Int)).toNat : Int) -
                                  (0 : Int))).toNat
                            (BitVec.ofInt (8 : Nat) (0 : Int)))])))))
            (Tr.chk true (Tr.leaf (Fin.ret (V.tup []), [Blk.vals [V.nilSl]])))))
        (Tr.chk true (Tr.leaf (Fin.ret (V.tup []), [Blk.vals [V.nilSl]])))))
    (Tr.chk true (Tr.leaf (Fin.ret (V.tup []), [Blk.vals [V.nilSl]])))) := by kernel_rfl
theorem grow1_x (a : BitVec 64) (s : BitVec 64) (n : Nat) (B : List (BitVec 8)) : Tr.prune (((Tr.Sh.any.both
              Tr.Sh.any).l.both
        Tr.Sh.any.r.r).l.both
  Tr.Sh.any.r.r.r.r)
  (execBF Pr OA1 noLoopsT (100 : Nat) Go.Proofs.Try.f26 [V.ptr (0 : Nat) (0 : Nat), V.u64 a, V.u64 s]
  [Blk.vals [V.sl (1 : Nat) (0 : Nat) (1 : Nat) n none], Blk.buf (5 : TypeId) B]) =
  Tr.chk true
  (Tr.br (fitB a s)
    (Tr.chk true
      (Tr.br (decide (BitVec.ofInt (64 : Nat) (0 : Int) < s))
        (Tr.chk true
          (Tr.br
            (decide
              (wrapI IntKind.i64
                  (wrapI IntKind.i64 (↑(wrdV a s * BitVec.ofInt (64 : Nat) (32 : Int)).toNat : Int) - (↑n : Int)) >
                (0 : Int)))
            (Tr.chk
              (decide
                            ((0 : Int) ≤
                              wrapI IntKind.i64
                                (wrapI IntKind.i64 (↑(wrdV a s * BitVec.ofInt (64 : Nat) (32 : Int)).toNat : Int) -
                                  (↑n : Int))) &&
                          decide
                            (wrapI IntKind.i64
                                (wrapI IntKind.i64 (↑(wrdV a s * BitVec.ofInt (64 : Nat) (32 : Int)).toNat : Int) -
                                  (↑n : Int)) ≤
                              (70368744177664 : Int)) &&
                        decide
                          ((wrapI IntKind.i64
                                  (wrapI IntKind.i64 (↑(wrdV a s * BitVec.ofInt (64 : Nat) (32 : Int)).toNat : Int) -
                                    (↑n : Int))).toNat *
                              (1 : Nat) ≤
                            (281474976710656 : Nat)) &&
                      decide
                        ((List.replicate
                              (wrapI IntKind.i64
                                  (wrapI IntKind.i64 (↑(wrdV a s * BitVec.ofInt (64 : Nat) (32 : Int)).toNat : Int) -
                                    (↑n : Int))).toNat
                              (BitVec.ofInt (8 : Nat) (0 : Int))).length =
                          (wrapI IntKind.i64
                                (wrapI IntKind.i64 (↑(wrdV a s * BitVec.ofInt (64 : Nat) (32 : Int)).toNat : Int) -
                                  (↑n : Int))).toNat *
                            (1 : Nat)) &&
                    (decide ((0 : Nat) + n * (1 : Nat) ≤ B.length) &&
                        (decide
                              (n +
                                  (wrapI IntKind.i64
                                      (wrapI IntKind.i64
                                          (↑(wrdV a s * BitVec.ofInt (64 : Nat) (32 : Int)).toNat : Int) -
                                        (↑n : Int))).toNat ≤
                                (70368744177664 : Nat)) &&
                            decide
                              (((2 : Nat) *
                                      (n +
                                        (wrapI IntKind.i64
                                            (wrapI IntKind.i64
                                                (↑(wrdV a s * BitVec.ofInt (64 : Nat) (32 : Int)).toNat : Int) -
                                              (↑n : Int))).toNat) +
                                    (1024 : Nat)) *
                                  (1 : Nat) ≤
                                (281474976710656 : Nat)) &&
                          true) &&
                      true) &&
                  true &&
                true)
              (Tr.leaf
                (Fin.ret (V.tup []),
                  [Blk.vals
                      [V.sl (2 : Nat) (0 : Nat) (1 : Nat)
                          (n +
                            (wrapI IntKind.i64
                                (wrapI IntKind.i64 (↑(wrdV a s * BitVec.ofInt (64 : Nat) (32 : Int)).toNat : Int) -
                                  (↑n : Int))).toNat)
                          none],
                    Blk.dead,
                    Blk.buf (5 : Nat)
                      (List.take (n * (1 : Nat)) B ++
                        List.replicate
                          (wrapI IntKind.i64
                              (wrapI IntKind.i64 (↑(wrdV a s * BitVec.ofInt (64 : Nat) (32 : Int)).toNat : Int) -
                                (↑n : Int))).toNat
                          (BitVec.ofInt (8 : Nat) (0 : Int)))])))
            (Tr.chk true
              (Tr.leaf
                (Fin.ret (V.tup []), [Blk.vals [V.sl (1 : Nat) (0 : Nat) (1 : Nat) n none], Blk.buf (5 : Nat) B])))))
        (Tr.chk true
          (Tr.leaf (Fin.ret (V.tup []), [Blk.vals [V.sl (1 : Nat) (0 : Nat) (1 : Nat) n none], Blk.buf (5 : Nat) B])))))
    (Tr.chk true
      (Tr.leaf
        (Fin.ret (V.tup []),
          [Blk.vals [V.sl (1 : Nat) (0 : Nat) (1 : Nat) n none], Blk.buf (5 : Nat) B])))) := by kernel_rfl
theorem load0_x (a : BitVec 64) : Tr.prune (Tr.Sh.any)
  (execBF Pr OA1 noLoopsT (100 : Nat) Go.Proofs.Try.f33 [V.ptr (0 : Nat) (0 : Nat), V.u64 a] [Blk.vals [V.nilSl]]) =
  Tr.chk true
  (Tr.leaf
    (Fin.ret
        (V.agg
          [V.u64 (W4.ofBytes (partS [] a (BitVec.ofInt (64 : Nat) (32 : Int)))).a,
            V.u64 (W4.ofBytes (partS [] a (BitVec.ofInt (64 : Nat) (32 : Int)))).b,
            V.u64 (W4.ofBytes (partS [] a (BitVec.ofInt (64 : Nat) (32 : Int)))).c,
            V.u64 (W4.ofBytes (partS [] a (BitVec.ofInt (64 : Nat) (32 : Int)))).d]),
      [Blk.vals [V.nilSl]])) := by kernel_rfl
theorem load1_x (a : BitVec 64) (n : Nat) (B : List (BitVec 8)) : Tr.prune (Tr.Sh.any)
  (execBF Pr OA1 noLoopsT (100 : Nat) Go.Proofs.Try.f33 [V.ptr (0 : Nat) (0 : Nat), V.u64 a]
  [Blk.vals [V.sl (1 : Nat) (0 : Nat) (1 : Nat) n none], Blk.buf (5 : TypeId) B]) =
  Tr.chk (lenOk n B && true && true && true && true && true)
  (Tr.leaf
    (Fin.ret
        (V.agg
          [V.u64 (W4.ofBytes (partS B a (BitVec.ofInt (64 : Nat) (32 : Int)))).a,
            V.u64 (W4.ofBytes (partS B a (BitVec.ofInt (64 : Nat) (32 : Int)))).b,
            V.u64 (W4.ofBytes (partS B a (BitVec.ofInt (64 : Nat) (32 : Int)))).c,
            V.u64 (W4.ofBytes (partS B a (BitVec.ofInt (64 : Nat) (32 : Int)))).d]),
      [Blk.vals [V.sl (1 : Nat) (0 : Nat) (1 : Nat) n none], Blk.buf (5 : Nat) B])) := by kernel_rfl
theorem wl_x (k : Nat) (m : Nat) (B : List (BitVec 8)) (s : List (BitVec 8)) (o : Nat) (i : Nat) : Tr.prune (Tr.Sh.any.both
  Tr.Sh.any)
  (execBN Pr OA1 noLoopsT (100 : Nat) (0 : Nat) [(10 : Nat), (11 : Nat), (12 : Nat), (44 : Nat), (45 : Nat)]
  [(10 : Nat)] (loopBody Go.Proofs.Try.f34 (0 : Nat))
  [((10 : Nat), V.sl (0 : Nat) o (1 : Nat) k none), ((11 : Nat), V.fn (78 : FuncId) [] [V.ptr (1 : Nat) (0 : Nat)]),
    ((12 : Nat), V.any), ((44 : Nat), V.int IntKind.i64 (↑k : Int)), ((45 : Nat), V.int IntKind.i64 (↑i : Int))]
  [Blk.buf (5 : TypeId) B, Blk.vals [V.str s]]) =
  Tr.chk true
  (Tr.br (decide ((↑i : Int) < (↑k : Int))) Tr.no
    (Tr.leaf
      (X.exit (0 : Nat), [((10 : Nat), V.sl (0 : Nat) o (1 : Nat) k none)], [Blk.buf (5 : Nat) B]))) := by kernel_rfl
end
end Go.Proofs.Ytajbaocfdlopbaa.K
end
section
open Go Go.Lh
namespace Go.Proofs.Ytajbaocfdlopbaa.K
noncomputable section
set_option maxRecDepth 100000
/-- a memory: none yet, or a row of bytes -/
inductive MS where
  | nil
  | some (n : Nat) (B : List (BitVec 8))
def readMS : Heap → Option MS := fun h => match h with
  | [.vals [.nilSl]] => some .nil
  | [.vals [.sl 1 0 1 n none], .buf 5 B] => some (.some n B)
  | _ => none
def MS.h : MS → Heap
  | .nil => [.vals [.nilSl]]
  | .some n B => [.vals [.sl 1 0 1 n none], .buf 5 B]
theorem readMS_h {h : Heap} {m : MS} (e : readMS h = some m) : h = m.h := by
  unfold readMS at e
  split at e <;> cases e <;> rfl
/-- the memory grown to these bytes -/
def newH (B : List (BitVec 8)) : Heap := [.vals [.sl 1 0 1 B.length none], .buf 5 B]
def movH (B : List (BitVec 8)) : Heap := [.vals [.sl 2 0 1 B.length none], .dead, .buf 5 B]
def grow_f : MS → BitVec 64 → BitVec 64 → Tr (Fin × Heap)
  | .nil, a, s => .br (isGrow 0 a s) (.leaf (.ret (.tup []), newH (growL [] a s))) (.leaf (.ret (.tup []), [.vals [.nilSl]]))
  | .some n B, a, s => .chk (lenOk n B) (.br (isGrow n a s) (.leaf (.ret (.tup []), movH (growL B a s))) (.leaf (.ret (.tup []), [.vals [.sl 1 0 1 n none], .buf 5 B])))
def readGr : List V → Heap → Option (MS × BitVec 64 × BitVec 64) := fun args h => match args, readMS h with
  | [.ptr 0 0, .u64 a, .u64 s], some m => some (m, a, s)
  | _, _ => none
theorem fits_lt {s : BitVec 64} : (BitVec.ofInt 64 0 < s) ↔ 0 < s.toNat := by
  rw [BitVec.lt_def]; exact Iff.rfl
theorem isGrow_true {L : Nat} {a s : BitVec 64} (h1 : fitB a s = true) (h2 : BitVec.ofInt 64 0 < s) (h3 : (upN a.toNat s.toNat : Int) - (L : Int) > 0) : isGrow L a s = true :=
  isGrow_iff.2 ⟨fitB_iff.1 h1, fits_lt.1 h2, by omega⟩
theorem isGrow_false1 {L : Nat} {a s : BitVec 64} (h1 : fitB a s = false) : isGrow L a s = false := by unfold isGrow; rw [h1]; rfl
theorem isGrow_false2 {L : Nat} {a s : BitVec 64} (h2 : ¬ BitVec.ofInt 64 0 < s) : isGrow L a s = false := by
  rw [Bool.eq_false_iff, Ne, isGrow_iff]; intro h; exact h2 (fits_lt.2 h.2.1)
theorem isGrow_false3 {L : Nat} {a s : BitVec 64} (h3 : ¬ (upN a.toNat s.toNat : Int) - (L : Int) > 0) : isGrow L a s = false := by
  rw [Bool.eq_false_iff, Ne, isGrow_iff]; intro h; have := h.2.2; omega
theorem growL_true {B : List (BitVec 8)} {a s : BitVec 64} (h : isGrow B.length a s = true) : growL B a s = B ++ List.replicate (upN a.toNat s.toNat - B.length) 0 := if_pos h
theorem grow_nil (a s : BitVec 64) : ∀ q, (grow_f .nil a s).is q → LFn Pr 26 [.ptr 0 0, .u64 a, .u64 s] [.vals [.nilSl]] q.1 q.2 := by
  refine fnTT OA1N_sound mixed (by kernel_rfl) LoopsOk.noneT (grow0_x a s) ?_
  intro q hq
  simp only [grow_f, Tr.is_br, Tr.is_leaf] at hq
  simp only [wp_chk_true, wp_br, wp_leaf, decide_eq_true_eq, decide_eq_false_iff_not]
  refine ⟨fun h1 => ⟨fun h2 => ?_, fun h2 => ?_⟩, fun h1 => ?_⟩
  · have hm := more_eq (L := 0) (by omega) (fitB_iff.1 h1)
    simp only [Int.natCast_zero] at hm
    have hu : upN a.toNat s.toNat ≤ 16777247 := by have := fitB_iff.1 h1; unfold upN; omega
    rw [hm]
    refine ⟨fun h3 => ?_, fun h3 => ?_⟩
    · have g := isGrow_true (L := 0) h1 h2 (by simpa using h3)
      rw [g, if_pos rfl, growL_true (B := []) g] at hq
      have e : ((upN a.toNat s.toNat : Int) - 0).toNat = upN a.toNat s.toNat := by omega
      simp only [wp_chk, wp_br, wp_leaf, e, Bool.and_true, Bool.and_eq_true, decide_eq_true_eq, List.length_replicate, decide_eq_false_iff_not, Nat.mul_one]
      refine ⟨by (repeat' apply And.intro) <;> first | omega | exact True.intro, fun h4 => absurd h4 (by omega), fun h4 => ⟨by (repeat' apply And.intro) <;> first | omega | exact True.intro, ?_⟩⟩
      rw [← hq, newH]
      simp
    · have g := isGrow_false3 (L := 0) (a := a) (s := s) (by simpa using h3)
      rw [g] at hq
      exact hq
  · rw [isGrow_false2 h2] at hq
    exact hq
  · rw [isGrow_false1 h1] at hq
    exact hq
theorem grow_some (B : List (BitVec 8)) (hB : B.length < 9223372036854775808) (a s : BitVec 64) : ∀ q, (grow_f (.some B.length B) a s).is q → LFn Pr 26 [.ptr 0 0, .u64 a, .u64 s] [.vals [.sl 1 0 1 B.length none], .buf 5 B] q.1 q.2 := by
  refine fnTT OA1_sound mixed (by kernel_rfl) LoopsOk.noneT (grow1_x a s B.length B) ?_
  intro q hq
  simp only [grow_f, Tr.is_chk, Tr.is_br, Tr.is_leaf] at hq
  obtain ⟨_, hq⟩ := hq
  simp only [wp_chk_true, wp_br, wp_leaf, decide_eq_true_eq, decide_eq_false_iff_not]
  refine ⟨fun h1 => ⟨fun h2 => ?_, fun h2 => ?_⟩, fun h1 => ?_⟩
  · have hm := more_eq hB (fitB_iff.1 h1)
    have hu : upN a.toNat s.toNat ≤ 16777247 := by have := fitB_iff.1 h1; unfold upN; omega
    rw [hm]
    refine ⟨fun h3 => ?_, fun h3 => ?_⟩
    · have g := isGrow_true h1 h2 h3
      rw [g, if_pos rfl, growL_true g] at hq
      have e : ((upN a.toNat s.toNat : Int) - (B.length : Int)).toNat = upN a.toNat s.toNat - B.length := by omega
      simp only [wp_chk, wp_br, wp_leaf, e, Bool.and_true, Bool.and_eq_true, decide_eq_true_eq, List.length_replicate, decide_eq_false_iff_not, Nat.mul_one]
      refine ⟨by (repeat' apply And.intro) <;> first | omega | exact True.intro, ?_⟩
      rw [← hq, movH]
      simp
    · rw [isGrow_false3 h3] at hq
      exact hq
  · rw [isGrow_false2 h2] at hq
    exact hq
  · rw [isGrow_false1 h1] at hq
    exact hq
end
end Go.Proofs.Ytajbaocfdlopbaa.K
end
section
open Go Go.Lh
namespace Go.Proofs.Ytajbaocfdlopbaa.K
noncomputable section
set_option maxRecDepth 100000
theorem grow_ok : ∀ args h r, ((ctT readGr fun p => grow_f p.1 p.2.1 p.2.2) args h).is r → LFn Pr 26 args h r.1 r.2 := by
  refine ctT_ok (fun p => [.ptr 0 0, .u64 p.2.1, .u64 p.2.2]) (fun p => p.1.h) ?_ (fun p r h => ?_)
  · intro args h a e
    unfold readGr at e
    split at e <;> cases e
    rename_i hm
    exact ⟨rfl, readMS_h hm⟩
  · obtain ⟨m, a, s⟩ := p
    cases m with
    | nil => exact grow_nil a s r h
    | some n B =>
      have h' := h
      simp only [grow_f, Tr.is_chk] at h'
      obtain ⟨rfl, hB⟩ := lenOk_iff.1 h'.1
      exact grow_some B hB a s r h
structure W1S where
  i : Int
  s : List (BitVec 8)
def readW1 : List V → Heap → Option W1S := fun args h => match args, h with
  | [.int .i64 i, .ptr 0 0], [.vals [.str s]] => some ⟨i, s⟩
  | _, _ => none
def w1_f (p : W1S) : Tr (Fin × Heap) := .chk (decide (0 ≤ p.i)) (.leaf (.ret (.u8 (p.s.getD p.i.toNat 0)), [.vals [.str p.s]]))
theorem w1_fn (i : Nat) (s : List (BitVec 8)) : LFn Pr 78 [.int .i64 (i : Nat), .ptr 0 0] [.vals [.str s]] (.ret (.u8 (s.getD i 0))) [.vals [.str s]] := by
  refine fnT OA0_sound mixed (by kernel_rfl) LoopsOk.noneT (w1_x i s) ?_
  simp only [wp_chk_true, wp_chk, wp_br, wp_leaf, decide_eq_true_eq, decide_eq_false_iff_not, Bool.and_true, Bool.and_eq_true, true_and]
  refine ⟨fun h => ⟨h, by first | trivial | rfl⟩, fun h => ?_⟩
  rw [List.getD_eq_getElem?_getD, List.getElem?_eq_none_iff.2 (by omega)]; rfl
theorem w1_ok : ∀ args h r, ((ctT readW1 w1_f) args h).is r → LFn Pr 78 args h r.1 r.2 := by
  refine ctT_ok (fun p => [.int .i64 p.i, .ptr 0 0]) (fun p => [.vals [.str p.s]]) ?_ (fun p r h => ?_)
  · intro args h a e
    unfold readW1 at e
    split at e <;> cases e
    exact ⟨rfl, rfl⟩
  · obtain ⟨i, s⟩ := p
    simp only [w1_f] at h
    rw [Tr.is_chk, Tr.is_leaf] at h
    obtain ⟨h1, rfl⟩ := h
    have h1 : 0 ≤ i := of_decide_eq_true h1
    obtain ⟨k, rfl⟩ : ∃ k : Nat, i = (k : Int) := ⟨i.toNat, by omega⟩
    exact w1_fn k s
def KA2 : KnownT := (26, ctT readGr fun p => grow_f p.1 p.2.1 p.2.2) :: (78, ctT readW1 w1_f) :: KA1
theorem KA2_ok : KOkT Pr KA2 := KOkT.cons (Enters.of (fn := Go.Proofs.Try.f26) (by kernel_rfl) (by kernel_rfl)) grow_ok (KOkT.cons (Enters.of (fn := Go.Proofs.Try.f78) (by kernel_rfl) (by kernel_rfl)) w1_ok KA1_ok)
def OA2 : OrcT := autoT Pr ext KA2 [] 4
theorem OA2_sound : OrcSound Pr OA2.o := autoT_sound mixed ext_ok KA2_ok (by kernel_rfl) 4
theorem wl1_x (n : Nat) (k : Nat) (o : Nat) (i : Nat) (B : List (BitVec 8)) (s : List (BitVec 8)) : Tr.prune (Tr.Sh.any.both
  Tr.Sh.any)
  (execBN Pr OA2 noLoopsT (100 : Nat) (1 : Nat) [(10 : Nat), (11 : Nat), (44 : Nat), (45 : Nat)] []
  (loopBody Go.Proofs.Try.f34 (0 : Nat))
  [((10 : Nat), V.sl (1 : Nat) o (1 : Nat) k none), ((11 : Nat), V.fn (78 : FuncId) [] [V.ptr (2 : Nat) (0 : Nat)]),
    ((44 : Nat), V.int IntKind.i64 (↑k : Int)), ((45 : Nat), V.int IntKind.i64 (↑i : Int))]
  [Blk.vals [V.sl (1 : Nat) (0 : Nat) (1 : Nat) n none], Blk.buf (5 : TypeId) B, Blk.vals [V.str s]]) =
  Tr.chk true
  (Tr.br (decide ((↑i : Int) < (↑k : Int)))
    (Tr.chk (decide ((↑i : Int) < (↑k : Int)) && decide (o + i * (1 : Nat) + (1 : Nat) ≤ B.length) && true)
      (Tr.leaf
        (X.normal,
          [((10 : Nat), V.sl (1 : Nat) o (1 : Nat) k none),
            ((11 : Nat), V.fn (78 : Nat) [] [V.ptr (2 : Nat) (0 : Nat)]), ((44 : Nat), V.int IntKind.i64 (↑k : Int)),
            ((45 : Nat), V.int IntKind.i64 (wrapI IntKind.i64 ((↑i : Int) + (1 : Int))))],
          [Blk.vals [V.sl (1 : Nat) (0 : Nat) (1 : Nat) n none],
            Blk.buf (5 : Nat) (B.set (o + i * (1 : Nat)) (s.getD i (OfNat.ofNat (0 : Nat)))), Blk.vals [V.str s]])))
    (Tr.leaf
      (X.exit (0 : Nat), [],
        [Blk.vals [V.sl (1 : Nat) (0 : Nat) (1 : Nat) n none], Blk.buf (5 : Nat) B]))) := by kernel_rfl
theorem wl2_x (n : Nat) (k : Nat) (o : Nat) (i : Nat) (B : List (BitVec 8)) (s : List (BitVec 8)) : Tr.prune (Tr.Sh.any.both
  Tr.Sh.any)
  (execBN Pr OA2 noLoopsT (100 : Nat) (2 : Nat) [(10 : Nat), (11 : Nat), (44 : Nat), (45 : Nat)] []
  (loopBody Go.Proofs.Try.f34 (0 : Nat))
  [((10 : Nat), V.sl (1 : Nat) o (1 : Nat) k none), ((11 : Nat), V.fn (78 : FuncId) [] [V.ptr (2 : Nat) (0 : Nat)]),
    ((44 : Nat), V.int IntKind.i64 (↑k : Int)), ((45 : Nat), V.int IntKind.i64 (↑i : Int))]
  [Blk.vals [V.sl (1 : Nat) (0 : Nat) (1 : Nat) n none], Blk.buf (5 : TypeId) B, Blk.vals [V.str s]]) =
  Tr.chk true
  (Tr.br (decide ((↑i : Int) < (↑k : Int)))
    (Tr.chk (decide ((↑i : Int) < (↑k : Int)) && decide (o + i * (1 : Nat) + (1 : Nat) ≤ B.length) && true)
      (Tr.leaf
        (X.normal,
          [((10 : Nat), V.sl (1 : Nat) o (1 : Nat) k none),
            ((11 : Nat), V.fn (78 : Nat) [] [V.ptr (2 : Nat) (0 : Nat)]), ((44 : Nat), V.int IntKind.i64 (↑k : Int)),
            ((45 : Nat), V.int IntKind.i64 (wrapI IntKind.i64 ((↑i : Int) + (1 : Int))))],
          [Blk.vals [V.sl (1 : Nat) (0 : Nat) (1 : Nat) n none],
            Blk.buf (5 : Nat) (B.set (o + i * (1 : Nat)) (s.getD i (OfNat.ofNat (0 : Nat)))), Blk.vals [V.str s]])))
    (Tr.leaf
      (X.exit (0 : Nat), [],
        [Blk.vals [V.sl (1 : Nat) (0 : Nat) (1 : Nat) n none], Blk.buf (5 : Nat) B]))) := by kernel_rfl
theorem wl3_x (n : Nat) (k : Nat) (o : Nat) (i : Nat) (B : List (BitVec 8)) (s : List (BitVec 8)) : Tr.prune (Tr.Sh.any.both
  Tr.Sh.any)
  (execBN Pr OA2 noLoopsT (100 : Nat) (2 : Nat) [(10 : Nat), (11 : Nat), (44 : Nat), (45 : Nat)] []
  (loopBody Go.Proofs.Try.f34 (0 : Nat))
  [((10 : Nat), V.sl (2 : Nat) o (1 : Nat) k none), ((11 : Nat), V.fn (78 : FuncId) [] [V.ptr (3 : Nat) (0 : Nat)]),
    ((44 : Nat), V.int IntKind.i64 (↑k : Int)), ((45 : Nat), V.int IntKind.i64 (↑i : Int))]
  [Blk.vals [V.sl (2 : Nat) (0 : Nat) (1 : Nat) n none], Blk.dead, Blk.buf (5 : TypeId) B, Blk.vals [V.str s]]) =
  Tr.chk true
  (Tr.br (decide ((↑i : Int) < (↑k : Int)))
    (Tr.chk (decide ((↑i : Int) < (↑k : Int)) && decide (o + i * (1 : Nat) + (1 : Nat) ≤ B.length) && true)
      (Tr.leaf
        (X.normal,
          [((10 : Nat), V.sl (2 : Nat) o (1 : Nat) k none),
            ((11 : Nat), V.fn (78 : Nat) [] [V.ptr (3 : Nat) (0 : Nat)]), ((44 : Nat), V.int IntKind.i64 (↑k : Int)),
            ((45 : Nat), V.int IntKind.i64 (wrapI IntKind.i64 ((↑i : Int) + (1 : Int))))],
          [Blk.vals [V.sl (2 : Nat) (0 : Nat) (1 : Nat) n none], Blk.dead,
            Blk.buf (5 : Nat) (B.set (o + i * (1 : Nat)) (s.getD i (OfNat.ofNat (0 : Nat)))), Blk.vals [V.str s]])))
    (Tr.leaf
      (X.exit (0 : Nat), [],
        [Blk.vals [V.sl (2 : Nat) (0 : Nat) (1 : Nat) n none], Blk.dead, Blk.buf (5 : Nat) B]))) := by kernel_rfl
end
end Go.Proofs.Ytajbaocfdlopbaa.K
end
section
open Go Go.Lh
namespace Go.Proofs.Ytajbaocfdlopbaa.K
noncomputable section
set_option maxRecDepth 100000
structure WLS where
  c : Bool
  n : Nat
  k : Nat
  o : Nat
  m : Int
  B : List (BitVec 8)
  s : List (BitVec 8)
def wl_fr (c : Bool) (o k : Nat) (m i : Int) : Fr := match c with
  | false => [(10,.sl 1 o 1 k none),(11,.fn 78 [] [.ptr 2 0]),(44,.int .i64 m),(45,.int .i64 i)]
  | true => [(10,.sl 2 o 1 k none),(11,.fn 78 [] [.ptr 3 0]),(44,.int .i64 m),(45,.int .i64 i)]
def wl_h (c : Bool) (n : Nat) (B s : List (BitVec 8)) : Heap := match c with
  | false => [.vals [.sl 1 0 1 n none], .buf 5 B, .vals [.str s]]
  | true => [.vals [.sl 2 0 1 n none], .dead, .buf 5 B, .vals [.str s]]
def wl_S (a : WLS) (i : Nat) : Fr × Heap := (wl_fr a.c a.o a.k a.m (i : Nat), wl_h a.c a.n (wrN a.B a.o a.s i) a.s)
def wl_read : Fr → Heap → Option WLS := fun f h => match f, h with
  | [(10,.sl 1 o 1 k none),(11,.fn 78 [] [.ptr 2 0]),(44,.int .i64 m),(45,.int .i64 0)], [.vals [.sl 1 0 1 n none], .buf 5 B, .vals [.str s]] => some ⟨false, n, k, o, m, B, s⟩
  | [(10,.sl 2 o 1 k none),(11,.fn 78 [] [.ptr 3 0]),(44,.int .i64 m),(45,.int .i64 0)], [.vals [.sl 2 0 1 n none], .dead, .buf 5 B, .vals [.str s]] => some ⟨true, n, k, o, m, B, s⟩
  | _, _ => none
def wl_P (a : WLS) : Prop := a.o + a.k ≤ a.B.length ∧ a.k < 4611686018427387904 ∧ a.m = (a.k : Nat)
def wl_ok (a : WLS) : Bool := @decide (wl_P a) (Classical.propDecidable _)
theorem wl_ok_iff {a : WLS} : wl_ok a = true ↔ wl_P a := by simp [wl_ok]
def wl_oh (c : Bool) (n : Nat) (B : List (BitVec 8)) : Heap := match c with
  | false => [.vals [.sl 1 0 1 n none], .buf 5 B]
  | true => [.vals [.sl 2 0 1 n none], .dead, .buf 5 B]
def wl_E (a : WLS) : Tr (X × Fr × Heap) := .leaf (.exit 0, [], wl_oh a.c a.n (wrN a.B a.o a.s a.k))
/-- a memory that was none has not moved -/
def wl1_ok (a : WLS) : Bool := wl_ok a && !a.c
def wl1_s : SmT := whT 7 [10,11,44,45] wl_read wl1_ok wl_E
def wl2_s : SmT := whT 7 [10,11,44,45] wl_read wl_ok wl_E
theorem wl_rd : ∀ f g a, wl_read f g = some a → (f, g) = wl_S a 0 := by
  intro f g a h
  unfold wl_read at h
  split at h <;> cases h <;> rfl
theorem wl_step {q : X × Fr × Heap} {c : Bool} {n k o : Nat} {B s : List (BitVec 8)} {i : Nat} (h1 : o + k ≤ B.length) (h2 : k < 4611686018427387904) (hq : (wl_E ⟨c, n, k, o, (k : Nat), B, s⟩).is q) (hi : i ≤ k) {t : Tr (X × Fr × Heap)}
    (ht : t = Tr.chk true (Tr.br (decide ((i : Int) < (k : Int))) (Tr.chk (decide ((i : Int) < (k : Int)) && decide (o + i * 1 + 1 ≤ (wrN B o s i).length) && true) (Tr.leaf (X.normal, wl_fr c o k (k : Nat) (wrapI .i64 ((i : Int) + 1)), wl_h c n ((wrN B o s i).set (o + i * 1) (s.getD i 0)) s)))
      (Tr.leaf (X.exit 0, [], wl_oh c n (wrN B o s i))))) :
    t.wp fun r => (r.1 = .normal ∧ i < k ∧ r.2 = wl_S ⟨c, n, k, o, (k : Nat), B, s⟩ (i + 1)) ∨ (r.1 ≠ .normal ∧ r = q) := by
  subst ht
  rw [wl_E, Tr.is_leaf] at hq
  simp only [wrN_length, wp_chk, wp_leaf, wp_br, decide_eq_true_eq, decide_eq_false_iff_not, true_and, Bool.and_true, Bool.and_eq_true, Nat.mul_one]
  refine ⟨fun h => ⟨⟨h, by omega⟩, .inl ⟨by omega, ?_⟩⟩, fun h => .inr ⟨fun e => (by cases e), ?_⟩⟩
  · rw [show ((i : Int) + 1) = ((i + 1 : Nat) : Int) by omega, wrapI_nat (by omega)]; rfl
  · have : i = k := by omega
    rw [← hq, this]
theorem wl1_at : SmAtT Pr Go.Proofs.Try.f34 1 wl1_s 0 := by
  refine cntT_at (on := [10,11,44,45]) (off := []) (fuel := 100) (L := noLoopsT) OA2_sound mixed wl_S (fun a => a.k) (by kernel_rfl) (by kernel_rfl) (by kernel_rfl) LoopsOk.noneT wl_rd ?_
  rintro ⟨c, n, k, o, m, B, s⟩ q hok hq i hi
  simp only [wl1_ok, Bool.and_eq_true, Bool.not_eq_true'] at hok
  obtain ⟨hok, hc⟩ := hok
  subst hc
  obtain ⟨h1, h2, h3⟩ := wl_ok_iff.1 hok
  simp only at h1 h2 h3 hi
  subst h3
  exact Tr.wp_prune (wl1_x n k o i (wrN B o s i) s) (wl_step h1 h2 hq hi rfl)
theorem wl2_at : SmAtT Pr Go.Proofs.Try.f34 2 wl2_s 0 := by
  refine cntT_at (on := [10,11,44,45]) (off := []) (fuel := 100) (L := noLoopsT) OA2_sound mixed wl_S (fun a => a.k) (by kernel_rfl) (by kernel_rfl) (by kernel_rfl) LoopsOk.noneT wl_rd ?_
  rintro ⟨c, n, k, o, m, B, s⟩ q hok hq i hi
  obtain ⟨h1, h2, h3⟩ := wl_ok_iff.1 hok
  simp only at h1 h2 h3 hi
  subst h3
  cases c with
  | false => exact Tr.wp_prune (wl2_x n k o i (wrN B o s i) s) (wl_step h1 h2 hq hi rfl)
  | true => exact Tr.wp_prune (wl3_x n k o i (wrN B o s i) s) (wl_step h1 h2 hq hi rfl)
theorem wl1_Ls : LoopsOk Pr Go.Proofs.Try.f34 1 (smLT 1 [wl1_s]).o := LoopsOk.one (by kernel_rfl) wl1_at
theorem wl2_Ls : LoopsOk Pr Go.Proofs.Try.f34 2 (smLT 2 [wl2_s]).o := LoopsOk.one (by kernel_rfl) wl2_at
theorem write0_x (a : BitVec 64) (z : BitVec 64) (s : List (BitVec 8)) : Tr.prune (Tr.Sh.any.l.l.l.l.both
  (Tr.Sh.any.l.l.both (Tr.Sh.any.both (Tr.Sh.any.both Tr.Sh.any)).r).r)
  (execBF Pr OA2 (smLT (1 : Nat) [wl1_s]) (100 : Nat) Go.Proofs.Try.f34
  [V.ptr (0 : Nat) (0 : Nat), V.u64 a, V.u64 z, V.str s] [Blk.vals [V.nilSl]]) =
  Tr.chk true
  (Tr.br (!fitB a z) (Tr.chk true (Tr.leaf (Fin.ret (V.tup []), [Blk.vals [V.nilSl]])))
    (Tr.chk true
      (Tr.br (decide (BitVec.ofInt (64 : Nat) (16777216 : Int) < z))
        (Tr.chk true (Tr.leaf (Fin.ret (V.tup []), [Blk.vals [V.nilSl]])))
        (Tr.chk true
          (Tr.br (z == BitVec.ofInt (64 : Nat) (0 : Int))
            (Tr.chk true (Tr.leaf (Fin.ret (V.tup []), [Blk.vals [V.nilSl]])))
            (Tr.chk true
              (Tr.br (isGrow (0 : Nat) a z)
                (Tr.chk
                  (decide
                            ((some (↑a.toNat : Int)).getD (0 : Int) ≤
                              (some (↑(a + z).toNat : Int)).getD (↑(growL [] a z).length : Int)) &&
                          decide
                            ((some (↑(a + z).toNat : Int)).getD (↑(growL [] a z).length : Int) ≤
                              (↑(none.getD (growL [] a z).length) : Int)) &&
                        true &&
                      wl1_ok
                        (WLS.mk false (growL [] a z).length
                          ((some (↑(a + z).toNat : Int)).getD (↑(growL [] a z).length : Int) -
                              (some (↑a.toNat : Int)).getD (0 : Int)).toNat
                          (slOff none ((some (↑a.toNat : Int)).getD (0 : Int)) (0 : Nat) (1 : Nat))
                          (↑((some (↑(a + z).toNat : Int)).getD (↑(growL [] a z).length : Int) -
                                  (some (↑a.toNat : Int)).getD (0 : Int)).toNat :
                            Int)
                          (growL [] a z) s) &&
                    true)
                  (Tr.leaf
                    (Fin.ret (V.tup []),
                      [Blk.vals [V.sl (1 : Nat) (0 : Nat) (1 : Nat) (growL [] a z).length none],
                        Blk.buf (5 : Nat)
                          (wrN (growL [] a z) (slOff none ((some (↑a.toNat : Int)).getD (0 : Int)) (0 : Nat) (1 : Nat))
                            s
                            ((some (↑(a + z).toNat : Int)).getD (↑(growL [] a z).length : Int) -
                                (some (↑a.toNat : Int)).getD (0 : Int)).toNat)])))
                Tr.no))))))) := by kernel_rfl
theorem write1_x (a : BitVec 64) (z : BitVec 64) (s : List (BitVec 8)) (n : Nat) (B : List (BitVec 8)) : Tr.prune (Tr.Sh.any.l.l.l.l.both
  (Tr.Sh.any.l.l.both (Tr.Sh.any.both (Tr.Sh.any.both Tr.Sh.any)).r).r)
  (execBF Pr OA2 (smLT (2 : Nat) [wl2_s]) (100 : Nat) Go.Proofs.Try.f34
  [V.ptr (0 : Nat) (0 : Nat), V.u64 a, V.u64 z, V.str s]
  [Blk.vals [V.sl (1 : Nat) (0 : Nat) (1 : Nat) n none], Blk.buf (5 : TypeId) B]) =
  Tr.chk true
  (Tr.br (!fitB a z)
    (Tr.chk true
      (Tr.leaf (Fin.ret (V.tup []), [Blk.vals [V.sl (1 : Nat) (0 : Nat) (1 : Nat) n none], Blk.buf (5 : Nat) B])))
    (Tr.chk true
      (Tr.br (decide (BitVec.ofInt (64 : Nat) (16777216 : Int) < z))
        (Tr.chk true
          (Tr.leaf (Fin.ret (V.tup []), [Blk.vals [V.sl (1 : Nat) (0 : Nat) (1 : Nat) n none], Blk.buf (5 : Nat) B])))
        (Tr.chk true
          (Tr.br (z == BitVec.ofInt (64 : Nat) (0 : Int))
            (Tr.chk true
              (Tr.leaf
                (Fin.ret (V.tup []), [Blk.vals [V.sl (1 : Nat) (0 : Nat) (1 : Nat) n none], Blk.buf (5 : Nat) B])))
            (Tr.chk (lenOk n B)
              (Tr.br (isGrow n a z)
                (Tr.chk
                  (decide
                            ((some (↑a.toNat : Int)).getD (0 : Int) ≤
                              (some (↑(a + z).toNat : Int)).getD (↑(growL B a z).length : Int)) &&
                          decide
                            ((some (↑(a + z).toNat : Int)).getD (↑(growL B a z).length : Int) ≤
                              (↑(none.getD (growL B a z).length) : Int)) &&
                        true &&
                      wl_ok
                        (WLS.mk true (growL B a z).length
                          ((some (↑(a + z).toNat : Int)).getD (↑(growL B a z).length : Int) -
                              (some (↑a.toNat : Int)).getD (0 : Int)).toNat
                          (slOff none ((some (↑a.toNat : Int)).getD (0 : Int)) (0 : Nat) (1 : Nat))
                          (↑((some (↑(a + z).toNat : Int)).getD (↑(growL B a z).length : Int) -
                                  (some (↑a.toNat : Int)).getD (0 : Int)).toNat :
                            Int)
                          (growL B a z) s) &&
                    true)
                  (Tr.leaf
                    (Fin.ret (V.tup []),
                      [Blk.vals [V.sl (2 : Nat) (0 : Nat) (1 : Nat) (growL B a z).length none], Blk.dead,
                        Blk.buf (5 : Nat)
                          (wrN (growL B a z) (slOff none ((some (↑a.toNat : Int)).getD (0 : Int)) (0 : Nat) (1 : Nat)) s
                            ((some (↑(a + z).toNat : Int)).getD (↑(growL B a z).length : Int) -
                                (some (↑a.toNat : Int)).getD (0 : Int)).toNat)])))
                (Tr.chk
                  (decide ((some (↑a.toNat : Int)).getD (0 : Int) ≤ (some (↑(a + z).toNat : Int)).getD (↑n : Int)) &&
                          decide ((some (↑(a + z).toNat : Int)).getD (↑n : Int) ≤ (↑(none.getD n) : Int)) &&
                        true &&
                      wl_ok
                        (WLS.mk false n
                          ((some (↑(a + z).toNat : Int)).getD (↑n : Int) - (some (↑a.toNat : Int)).getD (0 : Int)).toNat
                          (slOff none ((some (↑a.toNat : Int)).getD (0 : Int)) (0 : Nat) (1 : Nat))
                          (↑((some (↑(a + z).toNat : Int)).getD (↑n : Int) -
                                  (some (↑a.toNat : Int)).getD (0 : Int)).toNat :
                            Int)
                          B s) &&
                    true)
                  (Tr.leaf
                    (Fin.ret (V.tup []),
                      [Blk.vals [V.sl (1 : Nat) (0 : Nat) (1 : Nat) n none],
                        Blk.buf (5 : Nat)
                          (wrN B (slOff none ((some (↑a.toNat : Int)).getD (0 : Int)) (0 : Nat) (1 : Nat)) s
                            ((some (↑(a + z).toNat : Int)).getD (↑n : Int) -
                                (some (↑a.toNat : Int)).getD (0 : Int)).toNat)])))))))))) := by kernel_rfl
end
end Go.Proofs.Ytajbaocfdlopbaa.K
end
section
open Go Go.Lh
namespace Go.Proofs.Ytajbaocfdlopbaa.K
noncomputable section
set_option maxRecDepth 100000
def write_f (m : MS) (a z : BitVec 64) (s : List (BitVec 8)) : Tr (Fin × Heap) := match m with
  | .nil => .br (wrOk a z) (.leaf (.ret (.tup []), newH (writeL [] a z s))) (.leaf (.ret (.tup []), [.vals [.nilSl]]))
  | .some n B => .chk (lenOk n B) (.br (wrOk a z) (.br (isGrow n a z) (.leaf (.ret (.tup []), movH (writeL B a z s))) (.leaf (.ret (.tup []), [.vals [.sl 1 0 1 n none], .buf 5 (writeL B a z s)]))) (.leaf (.ret (.tup []), [.vals [.sl 1 0 1 n none], .buf 5 B])))
theorem wrOk_f1 {a z : BitVec 64} (h : fitB a z = false) : wrOk a z = false := by unfold wrOk; rw [h]; rfl
theorem wrOk_f2 {a z : BitVec 64} (h : BitVec.ofInt 64 16777216 < z) : wrOk a z = false := by
  rw [Bool.eq_false_iff, Ne, wrOk_iff]; intro h2; rw [BitVec.lt_def, c24] at h; omega
theorem wrOk_f3 {a z : BitVec 64} (h : z = BitVec.ofInt 64 0) : wrOk a z = false := by
  rw [Bool.eq_false_iff, Ne, wrOk_iff]; intro h2; subst h; exact absurd h2.2 (by decide)
theorem wrOk_t {a z : BitVec 64} (h : fitB a z = true) (h3 : ¬ z = BitVec.ofInt 64 0) : wrOk a z = true := by
  refine wrOk_iff.2 ⟨fitB_iff.1 h, ?_⟩
  rcases Nat.eq_zero_or_pos z.toNat with h4 | h4
  · exact (h3 (BitVec.eq_of_toNat_eq h4)).elim
  · exact h4
/-- what the loop is asked for -/
theorem wr_flags {L : List (BitVec 8)} {a z : BitVec 64} (h : a.toNat + z.toNat ≤ 16777216) (hl : a.toNat + z.toNat ≤ L.length) (c : Bool) (s : List (BitVec 8)) :
    (decide ((some (a.toNat : Int)).getD 0 ≤ (some ((a + z).toNat : Int)).getD (L.length : Int)) && decide ((some ((a + z).toNat : Int)).getD (L.length : Int) ≤ ((none.getD L.length : Nat) : Int)) && true && wl_ok ⟨c, L.length, ((some ((a + z).toNat : Int)).getD (L.length : Int) - (some (a.toNat : Int)).getD 0).toNat, slOff none ((some (a.toNat : Int)).getD 0) 0 1, (((some ((a + z).toNat : Int)).getD (L.length : Int) - (some (a.toNat : Int)).getD 0).toNat : Nat), L, s⟩) = true := by
  simp only [Option.getD_some, Option.getD_none, sum_nat h, slOff]
  rw [decide_eq_true (by omega), decide_eq_true (by omega), Bool.true_and, Bool.true_and, Bool.true_and]
  exact wl_ok_iff.2 ⟨by show 0 + ((a.toNat : Int)).toNat * 1 + (((a.toNat + z.toNat : Nat) : Int) - (a.toNat : Int)).toNat ≤ L.length; omega, by show (((a.toNat + z.toNat : Nat) : Int) - (a.toNat : Int)).toNat < _; omega, rfl⟩
theorem wr_val {L : List (BitVec 8)} {a z : BitVec 64} (h : a.toNat + z.toNat ≤ 16777216) (s : List (BitVec 8)) (N : Int) : wrN L (slOff none ((some (a.toNat : Int)).getD 0) 0 1) s ((some ((a + z).toNat : Int)).getD N - (some (a.toNat : Int)).getD 0).toNat = wrN L a.toNat s z.toNat := by
  simp only [Option.getD_some, sum_nat h, slOff]
  congr 1 <;> omega
theorem write_nil (a z : BitVec 64) (s : List (BitVec 8)) : ∀ q, (write_f .nil a z s).is q → LFn Pr 34 [.ptr 0 0, .u64 a, .u64 z, .str s] [.vals [.nilSl]] q.1 q.2 := by
  refine fnTT OA2_sound mixed (by kernel_rfl) wl1_Ls (write0_x a z s) ?_
  intro q hq
  simp only [write_f, Tr.is_br, Tr.is_leaf] at hq
  rw [wp_chk_true, wp_br, Bool.not_eq_true', Bool.not_eq_false']
  refine ⟨fun h1 => ?_, fun h1 => wp_chk_true.2 (wp_br.2 ⟨fun h2 => ?_, fun h2 => wp_chk_true.2 (wp_br.2 ⟨fun h3 => ?_, fun h3 => wp_chk_true.2 (wp_br.2 ⟨fun h4 => ?_, fun h4 => ?_⟩)⟩)⟩)⟩
  · rw [wrOk_f1 h1] at hq; exact ⟨rfl, hq⟩
  · rw [wrOk_f2 (of_decide_eq_true h2)] at hq; exact ⟨rfl, hq⟩
  · rw [wrOk_f3 (beq_iff_eq.1 h3)] at hq; exact ⟨rfl, hq⟩
  · have hw := wrOk_t h1 (beq_eq_false_iff_ne.1 h3)
    have hf := fitB_iff.1 h1
    rw [hw, if_pos rfl, writeL_true hw] at hq
    have hg := growL_ge (B := []) hw
    refine wp_chk.2 ⟨?_, ?_⟩
    · have := wr_flags hf hg false s
      simp only [wl1_ok, Bool.not_false, Bool.and_true] at this ⊢
      exact this
    · rw [wr_val hf]
      rw [← hq, newH, wrN_length]; exact (rfl : _ = _)
  · have hw := wrOk_t h1 (beq_eq_false_iff_ne.1 h3)
    have hf := fitB_iff.1 h1
    have : isGrow 0 a z = true := isGrow_iff.2 ⟨hf, (wrOk_iff.1 hw).2, by have := upN_ge a.toNat z.toNat; have := (wrOk_iff.1 hw).2; omega⟩
    rw [this] at h4; cases h4
theorem write_some (B : List (BitVec 8)) (hB : B.length < 9223372036854775808) (a z : BitVec 64) (s : List (BitVec 8)) : ∀ q, (write_f (.some B.length B) a z s).is q → LFn Pr 34 [.ptr 0 0, .u64 a, .u64 z, .str s] [.vals [.sl 1 0 1 B.length none], .buf 5 B] q.1 q.2 := by
  refine fnTT OA2_sound mixed (by kernel_rfl) wl2_Ls (write1_x a z s B.length B) ?_
  intro q hq
  simp only [write_f, Tr.is_chk, Tr.is_br, Tr.is_leaf] at hq
  obtain ⟨hl, hq⟩ := hq
  rw [wp_chk_true, wp_br, Bool.not_eq_true', Bool.not_eq_false']
  refine ⟨fun h1 => ?_, fun h1 => wp_chk_true.2 (wp_br.2 ⟨fun h2 => ?_, fun h2 => wp_chk_true.2 (wp_br.2 ⟨fun h3 => ?_, fun h3 => wp_chk.2 ⟨hl, (wp_br.2 ⟨fun h4 => ?_, fun h4 => ?_⟩)⟩⟩)⟩)⟩
  · rw [wrOk_f1 h1] at hq; exact ⟨rfl, hq⟩
  · rw [wrOk_f2 (of_decide_eq_true h2)] at hq; exact ⟨rfl, hq⟩
  · rw [wrOk_f3 (beq_iff_eq.1 h3)] at hq; exact ⟨rfl, hq⟩
  · have hw := wrOk_t h1 (beq_eq_false_iff_ne.1 h3)
    have hf := fitB_iff.1 h1
    rw [hw, if_pos rfl, h4, if_pos rfl, writeL_true hw] at hq
    have hg := growL_ge (B := B) hw
    refine wp_chk.2 ⟨?_, ?_⟩
    · rw [Bool.and_true]; exact wr_flags hf hg true s
    · rw [wr_val hf]
      rw [← hq, movH, wrN_length]; exact (rfl : _ = _)
  · have hw := wrOk_t h1 (beq_eq_false_iff_ne.1 h3)
    have hf := fitB_iff.1 h1
    have hgl : growL B a z = B := by unfold growL; rw [h4]; rfl
    rw [hw, if_pos rfl, h4, writeL_true hw, hgl] at hq
    have hg := growL_ge (B := B) hw
    rw [hgl] at hg
    refine wp_chk.2 ⟨?_, ?_⟩
    · rw [Bool.and_true]; exact wr_flags hf hg false s
    · rw [wr_val hf]
      rw [← hq]; exact (rfl : _ = _)
def readWr : List V → Heap → Option (MS × BitVec 64 × BitVec 64 × List (BitVec 8)) := fun args h => match args, readMS h with
  | [.ptr 0 0, .u64 a, .u64 z, .str s], some m => some (m, a, z, s)
  | _, _ => none
theorem write_ok : ∀ args h r, ((ctT readWr fun p => write_f p.1 p.2.1 p.2.2.1 p.2.2.2) args h).is r → LFn Pr 34 args h r.1 r.2 := by
  refine ctT_ok (fun p => [.ptr 0 0, .u64 p.2.1, .u64 p.2.2.1, .str p.2.2.2]) (fun p => p.1.h) ?_ (fun p r h => ?_)
  · intro args h a e
    unfold readWr at e
    split at e <;> cases e
    rename_i hm
    exact ⟨rfl, readMS_h hm⟩
  · obtain ⟨m, a, z, s⟩ := p
    cases m with
    | nil => exact write_nil a z s r h
    | some n B =>
      have h' := h
      simp only [write_f, Tr.is_chk] at h'
      obtain ⟨rfl, hB⟩ := lenOk_iff.1 h'.1
      exact write_some B hB a z s r h
end
end Go.Proofs.Ytajbaocfdlopbaa.K
end
section
open Go Go.Lh
namespace Go.Proofs.Ytajbaocfdlopbaa.K
noncomputable section
set_option maxRecDepth 100000
def needOk (a s : W4) : Bool := isSmall a && (isSmall s && fitB a.d s.d)
def haveV (L : Nat) : BitVec 64 := BitVec.ofInt 64 (wrapI .i64 ((L : Int).tdiv 32))
def needC (L : Nat) (a s : W4) : BitVec 64 := bif decide (s.n = 0) then BitVec.ofInt 64 0 else bif needOk a s then costV (if wrdV a.d s.d < haveV L then haveV L else wrdV a.d s.d) - costV (haveV L) else BitVec.ofInt 64 0
def needB (a s : W4) : Bool := decide (s.n = 0) || needOk a s
theorem need_wp {a s : W4} {L : Nat} {h : Heap} {t : Tr (Fin × Heap)} {c : BitVec 64} (hc : fitB a.d s.d = true → c = costV (if wrdV a.d s.d < haveV L then haveV L else wrdV a.d s.d) - costV (haveV L))
    (ht : t = Tr.chk true (Tr.br (s.a == BitVec.ofInt 64 0 && (s.b == BitVec.ofInt 64 0 && (s.c == BitVec.ofInt 64 0 && (s.d == BitVec.ofInt 64 0 && true)))) (Tr.chk true (Tr.leaf (Fin.ret (V.tup [V.u64 (BitVec.ofInt 64 0), V.bool true]), h)))
      (Tr.chk true (Tr.br (!isSmall a) (Tr.chk true (Tr.leaf (Fin.ret (V.tup [V.u64 (BitVec.ofInt 64 0), V.bool false]), h))) (Tr.chk true (Tr.br (!isSmall s) (Tr.chk true (Tr.leaf (Fin.ret (V.tup [V.u64 (BitVec.ofInt 64 0), V.bool false]), h)))
        (Tr.chk true (Tr.br (!fitB a.d s.d) (Tr.chk true (Tr.leaf (Fin.ret (V.tup [V.u64 (BitVec.ofInt 64 0), V.bool false]), h))) (Tr.chk true (Tr.leaf (Fin.ret (V.tup [V.u64 c, V.bool true]), h))))))))))) :
    t.wp fun r => r = (.ret (.tup [.u64 (needC L a s), .bool (needB a s)]), h) := by
  subst ht
  have hz := W4.zeroT s
  have b0 : BitVec.ofInt 64 0 = 0#64 := rfl
  rw [b0] at *
  rw [hz]
  unfold needC needB needOk
  rw [b0]
  simp only [wp_chk_true, wp_br, wp_leaf, Bool.not_eq_true', Bool.not_eq_false']
  refine ⟨fun h1 => ?_, fun h1 => ⟨fun h2 => ?_, fun h2 => ⟨fun h3 => ?_, fun h3 => ⟨fun h4 => ?_, fun h4 => ?_⟩⟩⟩⟩
  · rw [h1]; rfl
  · rw [h1, h2]; rfl
  · rw [h1, h2, h3]; rfl
  · rw [h1, h2, h3, h4]; rfl
  · rw [h1, h2, h3, h4, hc h4]; rfl
theorem need_nil (a s : W4) : LFn Pr 25 [.ptr 0 0, a.v, s.v] [.vals [.nilSl]] (.ret (.tup [.u64 (needC 0 a s), .bool (needB a s)])) [.vals [.nilSl]] :=
  fnT OA1_sound mixed (by kernel_rfl) LoopsOk.noneT (need0_x a s) (need_wp (fun _ => rfl) rfl)
theorem need_some (n : Nat) (B : List (BitVec 8)) (a s : W4) : LFn Pr 25 [.ptr 0 0, a.v, s.v] [.vals [.sl 1 0 1 n none], .buf 5 B] (.ret (.tup [.u64 (needC n a s), .bool (needB a s)])) [.vals [.sl 1 0 1 n none], .buf 5 B] :=
  fnT OA1_sound mixed (by kernel_rfl) LoopsOk.noneT (need1_x a s n B) (need_wp (fun _ => rfl) rfl)
theorem wrd_eq {a s : BitVec 64} : (a + s + BitVec.ofInt 64 31) / BitVec.ofInt 64 32 = wrdV a s := by
  unfold wrdV
  congr 1
  apply BitVec.eq_of_toNat_eq
  have c32 : (BitVec.ofInt 64 32).toNat = 32 := rfl
  have c31 : (BitVec.ofInt 64 31).toNat = 31 := rfl
  have c1 : (BitVec.ofInt 64 1).toNat = 1 := rfl
  rw [BitVec.toNat_sub, BitVec.toNat_add, BitVec.toNat_add _ (BitVec.ofInt 64 32), c32, c31, c1]
  omega
theorem have_eq {n : Nat} (h : n < 9223372036854775808) : BitVec.ofInt 64 (n : Int) / BitVec.ofInt 64 32 = haveV n := by
  unfold haveV
  rw [show ((n : Int).tdiv 32) = ((n / 32 : Nat) : Int) from rfl, wrapI_nat (by omega)]
  apply BitVec.eq_of_toNat_eq
  rw [BitVec.toNat_udiv, toNat_ofInt_nat (by omega), toNat_ofInt_nat (by omega)]
  rfl
theorem rneed_nil (a s : W4) : LFn Pr 69 [.ptr 0 0, a.v, s.v] [.vals [.nilSl]] (.ret (.tup [.u64 (needC 0 a s), .bool (needB a s)])) [.vals [.nilSl]] := by
  refine fnT OA1_sound mixed (by kernel_rfl) LoopsOk.noneT (rneed0_x a s) (need_wp (fun h => ?_) rfl)
  rw [h, show ((0 : Int)) = ((0 : Nat) : Int) from rfl, have_eq (by omega), cond_true, wrd_eq]
  rw [if_neg (show ¬ wrdV a.d s.d < haveV 0 by rw [BitVec.lt_def]; exact Nat.not_lt_zero _)]
theorem rneed_some (n : Nat) (hn : n < 9223372036854775808) (B : List (BitVec 8)) (a s : W4) : LFn Pr 69 [.ptr 0 0, a.v, s.v] [.vals [.sl 1 0 1 n none], .buf 5 B] (.ret (.tup [.u64 (needC n a s), .bool (needB a s)])) [.vals [.sl 1 0 1 n none], .buf 5 B] := by
  refine fnT OA1_sound mixed (by kernel_rfl) LoopsOk.noneT (rneed1_x a s n B) (need_wp (fun h => ?_) rfl)
  rw [h, have_eq hn, cond_true, wrd_eq]
def MS.n : MS → Nat
  | .nil => 0
  | .some n _ => n
def readNd : List V → Heap → Option (MS × W4 × W4) := fun args h => match args, readMS h with
  | [.ptr 0 0, .agg [.u64 a, .u64 b, .u64 c, .u64 d], .agg [.u64 e, .u64 f, .u64 g, .u64 k]], some m => some (m, ⟨a, b, c, d⟩, ⟨e, f, g, k⟩)
  | _, _ => none
def need_f (p : MS × W4 × W4) : Tr (Fin × Heap) := .chk (okN p.1.n) (.leaf (.ret (.tup [.u64 (needC p.1.n p.2.1 p.2.2), .bool (needB p.2.1 p.2.2)]), p.1.h))
theorem need_okG {i : FuncId} (h0 : ∀ a s : W4, LFn Pr i [.ptr 0 0, a.v, s.v] [.vals [.nilSl]] (.ret (.tup [.u64 (needC 0 a s), .bool (needB a s)])) [.vals [.nilSl]])
    (h1 : ∀ n, n < 9223372036854775808 → ∀ B (a s : W4), LFn Pr i [.ptr 0 0, a.v, s.v] [.vals [.sl 1 0 1 n none], .buf 5 B] (.ret (.tup [.u64 (needC n a s), .bool (needB a s)])) [.vals [.sl 1 0 1 n none], .buf 5 B]) :
    ∀ args h r, (ctT readNd need_f args h).is r → LFn Pr i args h r.1 r.2 := by
  refine ctT_ok (fun p => [.ptr 0 0, p.2.1.v, p.2.2.v]) (fun p => p.1.h) ?_ (fun p r h => ?_)
  · intro args h a e
    unfold readNd at e
    split at e <;> cases e
    rename_i hm
    exact ⟨rfl, readMS_h hm⟩
  · obtain ⟨m, a, s⟩ := p
    simp only [need_f, Tr.is_chk, Tr.is_leaf] at h
    obtain ⟨hn, rfl⟩ := h
    have hn : m.n < 9223372036854775808 := okN_iff.1 hn
    cases m with
    | nil => exact h0 a s
    | some n B => exact h1 n hn B a s
theorem need_ok : ∀ args h r, (ctT readNd need_f args h).is r → LFn Pr 25 args h r.1 r.2 := need_okG need_nil (fun n _ B a s => need_some n B a s)
theorem rneed_ok : ∀ args h r, (ctT readNd need_f args h).is r → LFn Pr 69 args h r.1 r.2 := need_okG rneed_nil rneed_some
end
end Go.Proofs.Ytajbaocfdlopbaa.K
end
section
open Go Go.Lh
namespace Go.Proofs.Ytajbaocfdlopbaa.K
noncomputable section
set_option maxRecDepth 100000
def OAE : OrcT := autoT Pr ext KR1 [24, 25, 32, 34, 78, 26, 27, 33, 29, 66, 68, 20, 22] 6
theorem OAE_sound : OrcSound Pr OAE.o := autoT_sound mixed ext_ok KR1_ok (by kernel_rfl) 6
theorem mmex_fn : LFn Pr 19 [] [] (.ret (.bool true)) [] := fnC (fn := Go.Proofs.Try.f19) OAE_sound mixed (fuel := 400) (by kernel_rfl) LoopsOk.noneT (by kernel_rfl)
def mmex_g : List V → Heap → Tr (Fin × Heap) := fun args h => match args, h with
  | [], [] => .leaf (.ret (.bool true), [])
  | _, _ => .no
theorem mmex_ok : ∀ args h r, (mmex_g args h).is r → LFn Pr 19 args h r.1 r.2 := by
  intro args h r e
  unfold mmex_g at e
  split at e
  · rw [Tr.is_leaf] at e; subst e; exact mmex_fn
  · exact (Tr.is_no.1 e).elim
theorem mmex_en : Enters Pr 19 := Enters.of (fn := Go.Proofs.Try.f19) (by kernel_rfl) (by kernel_rfl)
/-- a memory that is none, and stays so -/
def growS (m : MS) (a s : BitVec 64) : Tr (Fin × Heap) := match m with
  | .nil => .chk (!isGrow 0 a s) (.leaf (.ret (.tup []), [.vals [.nilSl]]))
  | _ => .no
def writeS (m : MS) (a z : BitVec 64) (s : List (BitVec 8)) : Tr (Fin × Heap) := match m with
  | .nil => .chk (!wrOk a z) (.leaf (.ret (.tup []), [.vals [.nilSl]]))
  | _ => .no
/-- a memory that is none, and is then -/
def growN' (m : MS) (a s : BitVec 64) : Tr (Fin × Heap) := match m with
  | .nil => .chk (isGrow 0 a s) (.leaf (.ret (.tup []), newH (growL [] a s)))
  | .some n B => grow_f (.some n B) a s
def writeN' (m : MS) (a z : BitVec 64) (s : List (BitVec 8)) : Tr (Fin × Heap) := match m with
  | .nil => .chk (wrOk a z) (.leaf (.ret (.tup []), newH (writeL [] a z s)))
  | .some n B => write_f (.some n B) a z s
theorem growS_is {m : MS} {a s : BitVec 64} {r : Fin × Heap} (h : (growS m a s).is r) : (grow_f m a s).is r := by
  cases m with
  | nil =>
    simp only [growS, Tr.is_chk, Bool.not_eq_true'] at h
    simp only [grow_f, Tr.is_br, h.1]; exact h.2
  | some n B => exact (Tr.is_no.1 h).elim
theorem writeS_is {m : MS} {a z : BitVec 64} {s : List (BitVec 8)} {r : Fin × Heap} (h : (writeS m a z s).is r) : (write_f m a z s).is r := by
  cases m with
  | nil =>
    simp only [writeS, Tr.is_chk, Bool.not_eq_true'] at h
    simp only [write_f, Tr.is_br, h.1]; exact h.2
  | some n B => exact (Tr.is_no.1 h).elim
theorem growN_is {m : MS} {a s : BitVec 64} {r : Fin × Heap} (h : (growN' m a s).is r) : (grow_f m a s).is r := by
  cases m with
  | nil =>
    simp only [growN', Tr.is_chk] at h
    simp only [grow_f, Tr.is_br, h.1]; exact h.2
  | some n B => exact h
theorem writeN_is {m : MS} {a z : BitVec 64} {s : List (BitVec 8)} {r : Fin × Heap} (h : (writeN' m a z s).is r) : (write_f m a z s).is r := by
  cases m with
  | nil =>
    simp only [writeN', Tr.is_chk] at h
    simp only [write_f, Tr.is_br, h.1]; exact h.2
  | some n B => exact h
theorem ctT_mono {α : Type} {read : List V → Heap → Option α} {f g : α → Tr (Fin × Heap)} {i : FuncId} (hfg : ∀ a r, (f a).is r → (g a).is r) (hg : ∀ args h r, (ctT read g args h).is r → LFn Pr i args h r.1 r.2) : ∀ args h r, (ctT read f args h).is r → LFn Pr i args h r.1 r.2 := by
  intro args h r e
  refine hg args h r ?_
  simp only [ctT] at e ⊢
  split at e
  · exact hfg _ _ e
  · exact (Tr.is_no.1 e).elim
theorem need_en : Enters Pr 25 := Enters.of (fn := Go.Proofs.Try.f25) (by kernel_rfl) (by kernel_rfl)
theorem grow_en : Enters Pr 26 := Enters.of (fn := Go.Proofs.Try.f26) (by kernel_rfl) (by kernel_rfl)
theorem write_en : Enters Pr 34 := Enters.of (fn := Go.Proofs.Try.f34) (by kernel_rfl) (by kernel_rfl)
def KAs : KnownT := (19, mmex_g) :: (25, ctT readNd need_f) :: (26, ctT readGr fun p => growS p.1 p.2.1 p.2.2) :: (34, ctT readWr fun p => writeS p.1 p.2.1 p.2.2.1 p.2.2.2) :: KA1
theorem KAs_ok : KOkT Pr KAs := KOkT.cons mmex_en mmex_ok (KOkT.cons need_en need_ok (KOkT.cons grow_en (ctT_mono (fun _ _ h => growS_is h) grow_ok) (KOkT.cons write_en (ctT_mono (fun _ _ h => writeS_is h) write_ok) KA1_ok)))
def KAn : KnownT := (19, mmex_g) :: (25, ctT readNd need_f) :: (26, ctT readGr fun p => growN' p.1 p.2.1 p.2.2) :: (34, ctT readWr fun p => writeN' p.1 p.2.1 p.2.2.1 p.2.2.2) :: KA1
theorem KAn_ok : KOkT Pr KAn := KOkT.cons mmex_en mmex_ok (KOkT.cons need_en need_ok (KOkT.cons grow_en (ctT_mono (fun _ _ h => growN_is h) grow_ok) (KOkT.cons write_en (ctT_mono (fun _ _ h => writeN_is h) write_ok) KA1_ok)))
def OAs : OrcT := autoT Pr ext KAs [24, 32, 31, 27, 33, 29] 5
theorem OAs_sound : OrcSound Pr OAs.o := autoT_sound mixed ext_ok KAs_ok (by kernel_rfl) 5
def OAn : OrcT := autoT Pr ext KAn [24, 32, 31, 27, 33, 29] 5
theorem OAn_sound : OrcSound Pr OAn.o := autoT_sound mixed ext_ok KAn_ok (by kernel_rfl) 5
end
end Go.Proofs.Ytajbaocfdlopbaa.K
end
section
open Go Go.Lh
namespace Go.Proofs.Ytajbaocfdlopbaa.K
noncomputable section
set_option maxRecDepth 100000
def bysI (a : W4) : List (BitVec 8) := (List.range 32).map fun i => BitVec.ofInt 8 ((a.n / 256 ^ (31 - i) % 256 : Nat) : Int)
theorem bysI_eq (a : W4) : bysI a = a.bytes := by
  unfold bysI W4.bytes
  apply List.map_congr_left
  intro i hi
  have hi : i < 32 := by simpa using hi
  apply BitVec.eq_of_toNat_eq
  rw [W4.byteAt_n _ (by omega), BitVec.ofInt_natCast, BitVec.toNat_ofNat]
  omega
theorem rby_v (a : W4) : Tr.prune (Tr.Sh.any.r.l.l.l.l.l.l.l.l.l.l.l.l.l.l.l.l.l.l.l.l.l.l.l.l.l.l.l.l.l.l.l.l) (execBF Pr OA0 noLoopsT 100 Go.Proofs.Try.f110 [a.v] []) = Tr.chk true (Tr.leaf (Fin.ret (V.str (bysI a)), [])) := by kernel_rfl
theorem rby_fn (a : W4) : LFn Pr 110 [a.v] [] (.ret (.str a.bytes)) [] :=
  fnT OA0_sound mixed (by kernel_rfl) LoopsOk.noneT (rby_v a) (tr1 rfl (by rw [bysI_eq]))
def ofI (f : Nat → BitVec 8) : List Int := (List.range 32).map fun i => ((f (31 - i)).toNat : Int)
theorem rof_v (f : Nat → BitVec 8) : Tr.prune (Tr.Sh.any.r.l.l.l.l.l.l.l.l.l.l.l.l.l.l.l.l.l.l.l.l.l.l.l.l.l.l.l.l.l.l.l.l.r) (execBF Pr OA0 noLoopsT 100 Go.Proofs.Try.f109 [.str ((List.range 32).map f)] []) =
    Tr.chk ((true || false) && W4.isD 32 (ofI f) && true && true) (Tr.leaf (Fin.ret (V.tup [(W4.ofN (W4.valI (ofI f))).v, V.bool true]), [])) := by kernel_rfl
theorem ofI_rev (s : List (BitVec 8)) (hs : s.length = 32) : ofI (fun i => s.getD i 0) = s.reverse.map fun b => (b.toNat : Int) := by
  apply List.ext_getElem?
  intro i
  rw [ofI, List.getElem?_map, List.getElem?_map]
  by_cases hi : i < 32
  · rw [List.getElem?_range hi, List.getElem?_reverse (by omega), List.getElem?_eq_getElem (by omega), Option.map_some, Option.map_some, List.getD_eq_getElem?_getD, List.getElem?_eq_getElem (by omega)]
    simp only [hs, Option.getD_some]
  · rw [List.getElem?_eq_none_iff.2 (by simp; omega), List.getElem?_eq_none_iff.2 (by simp; omega)]; rfl
theorem map_getD (s : List (BitVec 8)) (hs : s.length = 32) : (List.range 32).map (fun i => s.getD i 0) = s := by
  apply List.ext_getElem?
  intro i
  rw [List.getElem?_map]
  by_cases hi : i < 32
  · rw [List.getElem?_range hi, List.getElem?_eq_getElem (by omega), Option.map_some, List.getD_eq_getElem?_getD, List.getElem?_eq_getElem (by omega)]; rfl
  · rw [List.getElem?_eq_none_iff.2 (by simp; omega), List.getElem?_eq_none_iff.2 (by omega)]; rfl
theorem rof_fn (s : List (BitVec 8)) (hs : s.length = 32) : LFn Pr 109 [.str s] [] (.ret (ofV s)) [] := by
  have h := rof_v (fun i => s.getD i 0)
  rw [map_getD s hs, ofI_rev s hs] at h
  refine fnT OA0_sound mixed (by kernel_rfl) LoopsOk.noneT h ?_
  have hd : W4.isD 32 (s.reverse.map fun b => (b.toNat : Int)) = true := by
    rw [W4.isD_iff]
    have := W4.isD_bytes (s.reverse.map fun b => (b.toNat : Int)) (by
      intro x hx
      obtain ⟨b, _, rfl⟩ := List.mem_map.1 hx
      have := b.isLt
      omega)
    rw [List.length_map, List.length_reverse, hs] at this
    exact this
  rw [hd, W4.valI_rev]
  refine tr1 rfl ?_
  have e : W4.ofN (beN s) = W4.ofBytes s := W4.ext_n (by
    rw [W4.ofN_n, W4.ofBytes_n (by omega), Nat.mod_eq_of_lt]
    have := beN_lt s
    rw [hs] at this
    exact this)
  rw [e, ofV, if_pos (by omega), decide_eq_true (by omega)]
def is32 (s : List (BitVec 8)) : Bool := @decide (s.length = 32) (Classical.propDecidable _)
theorem is32_iff {s : List (BitVec 8)} : is32 s = true ↔ s.length = 32 := by simp [is32]
theorem rof_ok : ∀ args h r, (ctT readS (fun s => .chk (is32 s) (.leaf (.ret (ofV s), []))) args h).is r → LFn Pr 109 args h r.1 r.2 := by
  refine ctT_ok (fun s => [.str s]) (fun _ => []) ?_ (fun a r h => ?_)
  · intro args h a e
    unfold readS at e
    split at e <;> cases e
    exact ⟨rfl, rfl⟩
  · rw [Tr.is_chk, Tr.is_leaf] at h
    obtain ⟨h1, rfl⟩ := h
    exact rof_fn a (is32_iff.1 h1)
end
end Go.Proofs.Ytajbaocfdlopbaa.K
end
section
open Go Go.Lh
namespace Go.Proofs.Ytajbaocfdlopbaa.K
noncomputable section
set_option maxRecDepth 100000
theorem rg1_x (s : BitVec 64) (n : BitVec 64) (ok : Bool) : Tr.prune (((Tr.Sh.any.r.both
                          Tr.Sh.any).l.l.l.l.l.l.l.both
        Tr.Sh.any.r.r.r.r.r.r.r.r).l.both
  Tr.Sh.any.r.r.r.r.r.r.r.r.r.r)
  (execBN Pr OA1N noLoopsT (100 : Nat) (1 : Nat) [(0 : Nat), (2 : Nat), (6 : Nat), (7 : Nat)] []
  (loopBody Go.Proofs.Try.f70 (0 : Nat))
  [((0 : Nat), V.ptr (0 : Nat) (0 : Nat)), ((2 : Nat), V.u64 s), ((6 : Nat), V.u64 n), ((7 : Nat), V.bool ok)]
  [Blk.vals [V.nilSl]]) =
  Tr.chk true
  (Tr.br ok
    (Tr.chk true
      (Tr.br (decide (BitVec.ofInt (64 : Nat) (0 : Int) < s))
        (Tr.chk true
          (Tr.br (decide (BitVec.ofInt (64 : Nat) (0 : Int) < n))
            (Tr.chk true
              (Tr.leaf
                (X.normal,
                  [((0 : Nat), V.ptr (0 : Nat) (0 : Nat)), ((2 : Nat), V.u64 s), ((6 : Nat), V.u64 n),
                    ((7 : Nat), V.bool ok)],
                  [Blk.vals [V.sl (1 : Nat) (0 : Nat) (1 : Nat) (32 : Nat) none],
                    Blk.buf (5 : Nat) (List.replicate (32 : Nat) (BitVec.ofInt (8 : Nat) (0 : Int)))])))
            (Tr.leaf (X.exit (0 : Nat), [], [Blk.vals [V.nilSl]]))))
        (Tr.chk true (Tr.leaf (X.exit (0 : Nat), [], [Blk.vals [V.nilSl]])))))
    (Tr.chk true (Tr.leaf (X.exit (0 : Nat), [], [Blk.vals [V.nilSl]])))) := by kernel_rfl
theorem rg2_x (s : BitVec 64) (n : BitVec 64) (ok : Bool) (k : Nat) (B : List (BitVec 8)) : Tr.prune (((Tr.Sh.any.both
                          Tr.Sh.any).l.l.l.l.l.l.l.both
        Tr.Sh.any.r.r.r.r.r.r.r.r).l.both
  Tr.Sh.any.r.r.r.r.r.r.r.r.r.r)
  (execBN Pr OA1N noLoopsT (100 : Nat) (1 : Nat) [(0 : Nat), (2 : Nat), (6 : Nat), (7 : Nat)] []
  (loopBody Go.Proofs.Try.f70 (0 : Nat))
  [((0 : Nat), V.ptr (0 : Nat) (0 : Nat)), ((2 : Nat), V.u64 s), ((6 : Nat), V.u64 n), ((7 : Nat), V.bool ok)]
  [Blk.vals [V.sl (1 : Nat) (0 : Nat) (1 : Nat) k none], Blk.buf (5 : TypeId) B]) =
  Tr.chk true
  (Tr.br ok
    (Tr.chk true
      (Tr.br (decide (BitVec.ofInt (64 : Nat) (0 : Int) < s))
        (Tr.chk true
          (Tr.br (decide (BitVec.ofInt (64 : Nat) (↑k : Int) < n))
            (Tr.chk
              (decide ((0 : Nat) + k * (1 : Nat) ≤ B.length) &&
                    (decide (k + (32 : Nat) ≤ (70368744177664 : Nat)) &&
                        decide (((2 : Nat) * (k + (32 : Nat)) + (1024 : Nat)) * (1 : Nat) ≤ (281474976710656 : Nat)) &&
                      true) &&
                  true &&
                true)
              (Tr.leaf
                (X.normal,
                  [((0 : Nat), V.ptr (0 : Nat) (0 : Nat)), ((2 : Nat), V.u64 s), ((6 : Nat), V.u64 n),
                    ((7 : Nat), V.bool ok)],
                  [Blk.vals [V.sl (1 : Nat) (0 : Nat) (1 : Nat) (k + (32 : Nat)) none],
                    Blk.buf (5 : Nat)
                      (List.take (k * (1 : Nat)) B ++ List.replicate (32 : Nat) (BitVec.ofInt (8 : Nat) (0 : Int)))])))
            (Tr.leaf
              (X.exit (0 : Nat), [], [Blk.vals [V.sl (1 : Nat) (0 : Nat) (1 : Nat) k none], Blk.buf (5 : Nat) B]))))
        (Tr.chk true
          (Tr.leaf
            (X.exit (0 : Nat), [], [Blk.vals [V.sl (1 : Nat) (0 : Nat) (1 : Nat) k none], Blk.buf (5 : Nat) B])))))
    (Tr.chk true
      (Tr.leaf
        (X.exit (0 : Nat), [],
          [Blk.vals [V.sl (1 : Nat) (0 : Nat) (1 : Nat) k none], Blk.buf (5 : Nat) B])))) := by kernel_rfl
theorem rg3_x (s : BitVec 64) (n : BitVec 64) (ok : Bool) (k : Nat) (B : List (BitVec 8)) : Tr.prune (((Tr.Sh.any.both
                          Tr.Sh.any).l.l.l.l.l.l.l.both
        Tr.Sh.any.r.r.r.r.r.r.r.r).l.both
  Tr.Sh.any.r.r.r.r.r.r.r.r.r.r)
  (execBN Pr OA1N noLoopsT (100 : Nat) (2 : Nat) [(0 : Nat), (2 : Nat), (6 : Nat), (7 : Nat)] []
  (loopBody Go.Proofs.Try.f70 (0 : Nat))
  [((0 : Nat), V.ptr (0 : Nat) (0 : Nat)), ((2 : Nat), V.u64 s), ((6 : Nat), V.u64 n), ((7 : Nat), V.bool ok)]
  [Blk.vals [V.sl (1 : Nat) (0 : Nat) (1 : Nat) k none], Blk.buf (5 : TypeId) B]) =
  Tr.chk true
  (Tr.br ok
    (Tr.chk true
      (Tr.br (decide (BitVec.ofInt (64 : Nat) (0 : Int) < s))
        (Tr.chk true
          (Tr.br (decide (BitVec.ofInt (64 : Nat) (↑k : Int) < n))
            (Tr.chk
              (decide ((0 : Nat) + k * (1 : Nat) ≤ B.length) &&
                    (decide (k + (32 : Nat) ≤ (70368744177664 : Nat)) &&
                        decide (((2 : Nat) * (k + (32 : Nat)) + (1024 : Nat)) * (1 : Nat) ≤ (281474976710656 : Nat)) &&
                      true) &&
                  true &&
                true)
              (Tr.leaf
                (X.normal,
                  [((0 : Nat), V.ptr (0 : Nat) (0 : Nat)), ((2 : Nat), V.u64 s), ((6 : Nat), V.u64 n),
                    ((7 : Nat), V.bool ok)],
                  [Blk.vals [V.sl (2 : Nat) (0 : Nat) (1 : Nat) (k + (32 : Nat)) none], Blk.dead,
                    Blk.buf (5 : Nat)
                      (List.take (k * (1 : Nat)) B ++ List.replicate (32 : Nat) (BitVec.ofInt (8 : Nat) (0 : Int)))])))
            (Tr.leaf
              (X.exit (0 : Nat), [], [Blk.vals [V.sl (1 : Nat) (0 : Nat) (1 : Nat) k none], Blk.buf (5 : Nat) B]))))
        (Tr.chk true
          (Tr.leaf
            (X.exit (0 : Nat), [], [Blk.vals [V.sl (1 : Nat) (0 : Nat) (1 : Nat) k none], Blk.buf (5 : Nat) B])))))
    (Tr.chk true
      (Tr.leaf
        (X.exit (0 : Nat), [],
          [Blk.vals [V.sl (1 : Nat) (0 : Nat) (1 : Nat) k none], Blk.buf (5 : Nat) B])))) := by kernel_rfl
theorem rg4_x (s : BitVec 64) (n : BitVec 64) (ok : Bool) (k : Nat) (B : List (BitVec 8)) : Tr.prune (((Tr.Sh.any.both
                          Tr.Sh.any).l.l.l.l.l.l.l.both
        Tr.Sh.any.r.r.r.r.r.r.r.r).l.both
  Tr.Sh.any.r.r.r.r.r.r.r.r.r.r)
  (execBN Pr OA1N noLoopsT (100 : Nat) (2 : Nat) [(0 : Nat), (2 : Nat), (6 : Nat), (7 : Nat)] []
  (loopBody Go.Proofs.Try.f70 (0 : Nat))
  [((0 : Nat), V.ptr (0 : Nat) (0 : Nat)), ((2 : Nat), V.u64 s), ((6 : Nat), V.u64 n), ((7 : Nat), V.bool ok)]
  [Blk.vals [V.sl (2 : Nat) (0 : Nat) (1 : Nat) k none], Blk.dead, Blk.buf (5 : TypeId) B]) =
  Tr.chk true
  (Tr.br ok
    (Tr.chk true
      (Tr.br (decide (BitVec.ofInt (64 : Nat) (0 : Int) < s))
        (Tr.chk true
          (Tr.br (decide (BitVec.ofInt (64 : Nat) (↑k : Int) < n))
            (Tr.chk
              (decide ((0 : Nat) + k * (1 : Nat) ≤ B.length) &&
                    (decide (k + (32 : Nat) ≤ (70368744177664 : Nat)) &&
                        decide (((2 : Nat) * (k + (32 : Nat)) + (1024 : Nat)) * (1 : Nat) ≤ (281474976710656 : Nat)) &&
                      true) &&
                  true &&
                true)
              (Tr.leaf
                (X.normal,
                  [((0 : Nat), V.ptr (0 : Nat) (0 : Nat)), ((2 : Nat), V.u64 s), ((6 : Nat), V.u64 n),
                    ((7 : Nat), V.bool ok)],
                  [Blk.vals [V.sl (2 : Nat) (0 : Nat) (1 : Nat) (k + (32 : Nat)) none], Blk.dead,
                    Blk.buf (5 : Nat)
                      (List.take (k * (1 : Nat)) B ++ List.replicate (32 : Nat) (BitVec.ofInt (8 : Nat) (0 : Int)))])))
            (Tr.leaf
              (X.exit (0 : Nat), [],
                [Blk.vals [V.sl (2 : Nat) (0 : Nat) (1 : Nat) k none], Blk.dead, Blk.buf (5 : Nat) B]))))
        (Tr.chk true
          (Tr.leaf
            (X.exit (0 : Nat), [],
              [Blk.vals [V.sl (2 : Nat) (0 : Nat) (1 : Nat) k none], Blk.dead, Blk.buf (5 : Nat) B])))))
    (Tr.chk true
      (Tr.leaf
        (X.exit (0 : Nat), [],
          [Blk.vals [V.sl (2 : Nat) (0 : Nat) (1 : Nat) k none], Blk.dead, Blk.buf (5 : Nat) B])))) := by kernel_rfl
end
end Go.Proofs.Ytajbaocfdlopbaa.K
end
