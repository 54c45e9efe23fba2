/- The functions that this law reaches: what each comes to. -/
import Derived.Test.YtajbaocfdlopbaaDoorProg
import Derived.Test.YtajbaocfdlopbaaDoorLh5
set_option linter.unusedSimpArgs false
set_option linter.unusedVariables false
section
open Go Go.Lh
namespace Go.Proofs.YtajbaocfdlopbaaDoor.K
noncomputable section
set_option maxRecDepth 100000
abbrev Pr : Program := Go.Proofs.Tryd.prog
theorem mixed : Pr.follows .mixedOrders = true := by kernel_rfl
def ext : FuncId → List V → Option (Bool × V) := extL [(79, subX), (81, addX), (136, cntX), (132, escX)]
theorem ext_ok : ExtOk Pr ext :=
  (extL_cons (subX_at (fn := Go.Proofs.Tryd.f79) (by kernel_rfl) (by kernel_rfl) (by kernel_rfl) (by kernel_rfl) (by kernel_rfl))
  (extL_cons (addX_at (fn := Go.Proofs.Tryd.f81) (by kernel_rfl) (by kernel_rfl) (by kernel_rfl) (by kernel_rfl) (by kernel_rfl))
  (extL_cons (cntX_at (fn := Go.Proofs.Tryd.f136) (by kernel_rfl) (by kernel_rfl) (by kernel_rfl) (by kernel_rfl) (by kernel_rfl))
  (extL_cons (escX_at (fn := Go.Proofs.Tryd.f132) (by kernel_rfl) (by kernel_rfl) (by kernel_rfl) (by kernel_rfl) (by kernel_rfl))
  extL_nil))))
end
end Go.Proofs.YtajbaocfdlopbaaDoor.K
end
section
open Go Go.Lh
namespace Go.Proofs.YtajbaocfdlopbaaDoor.K
noncomputable section
set_option maxRecDepth 100000
def OW0 : Orc := auto Pr ext [] [77, 78, 80, 82] 4
theorem OW0_sound : OrcSound Pr OW0 := auto_sound mixed ext_ok KOk.nil (by kernel_rfl) 4
theorem add_x (x : W4) (y : W4) :
  execFD Pr OW0 noLoops [] (100 : Nat) Go.Proofs.Tryd.f21 [x.v, y.v] [] =
  some
  (decide ((outC x.d y.d (BitVec.ofInt (64 : Nat) (0 : Int))).toNat ≤ (1 : Nat)) && true && true &&
                (decide ((outC x.c y.c (outC x.d y.d (BitVec.ofInt (64 : Nat) (0 : Int)))).toNat ≤ (1 : Nat)) && true &&
                    true &&
                  (decide
                          ((outC x.b y.b (outC x.c y.c (outC x.d y.d (BitVec.ofInt (64 : Nat) (0 : Int))))).toNat ≤
                            (1 : Nat)) &&
                        true &&
                      true &&
                    true)) &&
              true &&
            true &&
          true &&
        true &&
      true,
    Fin.ret
      (V.agg
        [V.u64 (sumC x.a y.a (outC x.b y.b (outC x.c y.c (outC x.d y.d (BitVec.ofInt (64 : Nat) (0 : Int)))))),
          V.u64 (sumC x.b y.b (outC x.c y.c (outC x.d y.d (BitVec.ofInt (64 : Nat) (0 : Int))))),
          V.u64 (sumC x.c y.c (outC x.d y.d (BitVec.ofInt (64 : Nat) (0 : Int)))),
          V.u64 (sumC x.d y.d (BitVec.ofInt (64 : Nat) (0 : Int)))]),
    []) := by kernel_rfl
theorem sub_x (x : W4) (y : W4) :
  execFD Pr OW0 noLoops [] (100 : Nat) Go.Proofs.Tryd.f20 [x.v, y.v] [] =
  some
  (decide ((outB x.d y.d (BitVec.ofInt (64 : Nat) (0 : Int))).toNat ≤ (1 : Nat)) && true && true &&
                (decide ((outB x.c y.c (outB x.d y.d (BitVec.ofInt (64 : Nat) (0 : Int)))).toNat ≤ (1 : Nat)) && true &&
                    true &&
                  (decide
                          ((outB x.b y.b (outB x.c y.c (outB x.d y.d (BitVec.ofInt (64 : Nat) (0 : Int))))).toNat ≤
                            (1 : Nat)) &&
                        true &&
                      true &&
                    true)) &&
              true &&
            true &&
          true &&
        true &&
      true,
    Fin.ret
      (V.agg
        [V.u64 (difB x.a y.a (outB x.b y.b (outB x.c y.c (outB x.d y.d (BitVec.ofInt (64 : Nat) (0 : Int)))))),
          V.u64 (difB x.b y.b (outB x.c y.c (outB x.d y.d (BitVec.ofInt (64 : Nat) (0 : Int))))),
          V.u64 (difB x.c y.c (outB x.d y.d (BitVec.ofInt (64 : Nat) (0 : Int)))),
          V.u64 (difB x.d y.d (BitVec.ofInt (64 : Nat) (0 : Int)))]),
    []) := by kernel_rfl
theorem less_x (x : W4) (y : W4) :
  execFD Pr OW0 noLoops [] (100 : Nat) Go.Proofs.Tryd.f18 [x.v, y.v] [] =
  some
  (decide ((outB x.d y.d (BitVec.ofInt (64 : Nat) (0 : Int))).toNat ≤ (1 : Nat)) && true && true &&
          (decide ((outB x.c y.c (outB x.d y.d (BitVec.ofInt (64 : Nat) (0 : Int)))).toNat ≤ (1 : Nat)) && true &&
              true &&
            (decide
                    ((outB x.b y.b (outB x.c y.c (outB x.d y.d (BitVec.ofInt (64 : Nat) (0 : Int))))).toNat ≤
                      (1 : Nat)) &&
                  true &&
                true &&
              true)) &&
        true &&
      true,
    Fin.ret
      (V.bool
        (outB x.a y.a (outB x.b y.b (outB x.c y.c (outB x.d y.d (BitVec.ofInt (64 : Nat) (0 : Int))))) ==
          BitVec.ofInt (64 : Nat) (1 : Int))),
    []) := by kernel_rfl
theorem mul64_x (x : BitVec 64) (y : BitVec 64) :
  execFD Pr OW0 noLoops [] (100 : Nat) Go.Proofs.Tryd.f82 [V.u64 x, V.u64 y] [] =
  some
  (true,
    Fin.ret
      (V.tup
        [V.u64
            (x >>> (32 : Nat) * y >>> (32 : Nat) +
                (x >>> (32 : Nat) * (y &&& BitVec.ofInt (64 : Nat) (4294967295 : Int)) +
                    ((x &&& BitVec.ofInt (64 : Nat) (4294967295 : Int)) *
                        (y &&& BitVec.ofInt (64 : Nat) (4294967295 : Int))) >>>
                      (32 : Nat)) >>>
                  (32 : Nat) +
              ((x >>> (32 : Nat) * (y &&& BitVec.ofInt (64 : Nat) (4294967295 : Int)) +
                      ((x &&& BitVec.ofInt (64 : Nat) (4294967295 : Int)) *
                          (y &&& BitVec.ofInt (64 : Nat) (4294967295 : Int))) >>>
                        (32 : Nat) &&&
                    BitVec.ofInt (64 : Nat) (4294967295 : Int)) +
                  (x &&& BitVec.ofInt (64 : Nat) (4294967295 : Int)) * y >>> (32 : Nat)) >>>
                (32 : Nat)),
          V.u64 (x * y)]),
    []) := by kernel_rfl
theorem c0 : (BitVec.ofInt 64 0).toNat ≤ 1 := by decide
theorem add_fn (x y : W4) : LFn Pr 21 [x.v, y.v] [] (.ret (W4.add x y).v) [] := by
  refine execFD_sound (fn := Go.Proofs.Tryd.f21) OW0_sound mixed (by kernel_rfl) (fun _ _ _ _ => LoopOk.none) ((add_x x y).trans (stF ?_ ?_ rfl))
  · have l1 := outC_le x.d y.d _ c0
    have l2 := outC_le x.c y.c _ l1
    have l3 := outC_le x.b y.b _ l2
    simp only [decide_eq_true l1, decide_eq_true l2, decide_eq_true l3, Bool.and_true]
  · rw [← W4.addP_eq]; rfl
theorem sub_fn (x y : W4) : LFn Pr 20 [x.v, y.v] [] (.ret (W4.sub x y).v) [] := by
  refine execFD_sound (fn := Go.Proofs.Tryd.f20) OW0_sound mixed (by kernel_rfl) (fun _ _ _ _ => LoopOk.none) ((sub_x x y).trans (stF ?_ ?_ rfl))
  · have l1 := outB_le x.d y.d _ c0
    have l2 := outB_le x.c y.c _ l1
    have l3 := outB_le x.b y.b _ l2
    simp only [decide_eq_true l1, decide_eq_true l2, decide_eq_true l3, Bool.and_true]
  · rw [← W4.subP_eq]; rfl
theorem less_fn (x y : W4) : LFn Pr 18 [x.v, y.v] [] (.ret (.bool (W4.lt x y))) [] := by
  refine execFD_sound (fn := Go.Proofs.Tryd.f18) OW0_sound mixed (by kernel_rfl) (fun _ _ _ _ => LoopOk.none) ((less_x x y).trans (stF ?_ ?_ rfl))
  · have l1 := outB_le x.d y.d _ c0
    have l2 := outB_le x.c y.c _ l1
    have l3 := outB_le x.b y.b _ l2
    simp only [decide_eq_true l1, decide_eq_true l2, decide_eq_true l3, Bool.and_true]
  · rw [← W4.ltP_eq]; rfl
theorem mul64_fn (x y : BitVec 64) : LFn Pr 82 [.u64 x, .u64 y] [] (.ret (.tup [.u64 (mulHi x y), .u64 (x * y)])) [] :=
  execFD_sound (fn := Go.Proofs.Tryd.f82) OW0_sound mixed (by kernel_rfl) (fun _ _ _ _ => LoopOk.none) ((mul64_x x y).trans (stF rfl rfl rfl))
theorem mul64_en : Enters Pr 82 := Enters.of (fn := Go.Proofs.Tryd.f82) (by kernel_rfl) (by kernel_rfl)
def mul64_g := ctUU (fun x y => .tup [.u64 (mulHi x y), .u64 (x * y)])
def OW1 : Orc := auto Pr ext [(82, mul64_g)] [77, 78] 3
theorem OW1_sound : OrcSound Pr OW1 := auto_sound mixed ext_ok (KOk.cons mul64_en (ctUU_ok mul64_fn) KOk.nil) (by kernel_rfl) 3
theorem mul_x (x y : W4) : execFD Pr OW1 noLoops [] 100 Go.Proofs.Tryd.f22 [x.v, y.v] [] = some (true, .ret (W4.mulP x y).v, []) := by kernel_rfl
theorem mul_fn (x y : W4) : LFn Pr 22 [x.v, y.v] [] (.ret (W4.mul x y).v) [] := by
  rw [← W4.mulP_eq]
  exact execFD_sound (fn := Go.Proofs.Tryd.f22) OW1_sound mixed (by kernel_rfl) (fun _ _ _ _ => LoopOk.none) (mul_x x y)
end
end Go.Proofs.YtajbaocfdlopbaaDoor.K
end
section
open Go Go.Lh
namespace Go.Proofs.YtajbaocfdlopbaaDoor.K
noncomputable section
set_option maxRecDepth 100000
def iAdd (i : Int) : Nat → Int
  | 0 => i
  | n + 1 => i + ((n + 1 : Nat) : Int)
theorem iAdd_eq (i : Int) (n : Nat) : iAdd i n = i + n := by cases n <;> simp [iAdd]
structure MV where
  ls : List (BitVec 64)
  os : List (BitVec 64)
  xs : List (BitVec 64)
  n : Int
  i : Int
/-- part k, of what is moved left by r -/
def lPart (ls : List (BitVec 64)) (r k : Nat) : BitVec 64 := if 0 < r ∧ 0 < k then ls.getD k 0 <<< r ||| ls.getD (k - 1) 0 >>> (64 - r) else ls.getD k 0 <<< r
def leftN (ls os : List (BitVec 64)) (q r : Nat) : Nat → List (BitVec 64)
  | 0 => os
  | n + 1 => (leftN ls os q r n).set (q + n) (lPart ls r n)
theorem leftN_length (ls os : List (BitVec 64)) (q r : Nat) : ∀ n, (leftN ls os q r n).length = os.length
  | 0 => rfl
  | n + 1 => by simp [leftN, leftN_length ls os q r n]
def rPart (ls : List (BitVec 64)) (q r j : Nat) : BitVec 64 := if 0 < r ∧ j + q + 1 < 4 then ls.getD (j + q) 0 >>> r ||| ls.getD (j + q + 1) 0 <<< (64 - r) else ls.getD (j + q) 0 >>> r
def rightN (ls os : List (BitVec 64)) (q r : Nat) : Nat → List (BitVec 64)
  | 0 => os
  | n + 1 => (rightN ls os q r n).set n (rPart ls q r n)
theorem rightN_length (ls os : List (BitVec 64)) (q r : Nat) : ∀ n, (rightN ls os q r n).length = os.length
  | 0 => rfl
  | n + 1 => by simp [rightN, rightN_length ls os q r n]
theorem getD_set_self (xs : List (BitVec 64)) (i : Nat) (v : BitVec 64) (h : i < xs.length) : (xs.set i v).getD i 0 = v := by
  rw [List.getD_eq_getElem?_getD, List.getElem?_set_self h]; rfl
theorem leftA (ls : List (BitVec 64)) (os : List (BitVec 64)) (xs : List (BitVec 64)) (n : Int) (i : Int) :
  execN Pr (withAsm noOrc [((13 : Nat), true), ((30 : Nat), true), ((33 : Nat), true)]) noLoops [] (100 : Nat) (0 : Nat)
  [(1 : Nat), (4 : Nat), (5 : Nat), (6 : Nat), (7 : Nat)] (loopBody Go.Proofs.Tryd.f89 (0 : Nat))
  [((1 : Nat), V.int IntKind.i64 n), ((4 : Nat), V.ptr (0 : Nat) (0 : Nat)), ((5 : Nat), V.ptr (1 : Nat) (0 : Nat)),
    ((6 : Nat), V.ptr (2 : Nat) (0 : Nat)), ((7 : Nat), V.int IntKind.i64 i)]
  [Blk.b64 xs, Blk.b64 ls, Blk.b64 os] =
  some
  (decide (i < (4 : Int)) && true && true &&
      (decide ((0 : Int) ≤ wrapI IntKind.i64 (i - wrapI IntKind.i64 (n.tdiv (64 : Int)))) &&
              decide (wrapI IntKind.i64 (i - wrapI IntKind.i64 (n.tdiv (64 : Int))) < (4 : Int)) &&
            (decide
                ((0 : Nat) + (wrapI IntKind.i64 (i - wrapI IntKind.i64 (n.tdiv (64 : Int)))).toNat * (1 : Nat) <
                  ls.length) &&
              (decide ((0 : Int) ≤ n.tmod (64 : Int)) &&
                (decide ((0 : Int) ≤ i) && decide (i < (4 : Int)) &&
                  (decide ((0 : Nat) + i.toNat * (1 : Nat) + (1 : Nat) ≤ os.length) && true)))) &&
          (decide (n.tmod (64 : Int) > (0 : Int)) &&
              (decide (wrapI IntKind.i64 (i - wrapI IntKind.i64 (n.tdiv (64 : Int))) > (0 : Int)) && true) &&
            (decide ((0 : Int) ≤ i) && decide (i < (4 : Int)) &&
              (decide
                  ((0 : Nat) + i.toNat * (1 : Nat) <
                    (os.set ((0 : Nat) + i.toNat * (1 : Nat))
                        (ls.getD
                            ((0 : Nat) +
                              (wrapI IntKind.i64 (i - wrapI IntKind.i64 (n.tdiv (64 : Int)))).toNat * (1 : Nat))
                            (OfNat.ofNat (0 : Nat)) <<<
                          (n.tmod (64 : Int)).toNat)).length) &&
                (decide
                      ((0 : Int) ≤
                        wrapI IntKind.i64
                          (wrapI IntKind.i64 (i - wrapI IntKind.i64 (n.tdiv (64 : Int))) - (1 : Int))) &&
                    decide
                      (wrapI IntKind.i64 (wrapI IntKind.i64 (i - wrapI IntKind.i64 (n.tdiv (64 : Int))) - (1 : Int)) <
                        (4 : Int)) &&
                  (decide
                      ((0 : Nat) +
                          (wrapI IntKind.i64
                                (wrapI IntKind.i64 (i - wrapI IntKind.i64 (n.tdiv (64 : Int))) - (1 : Int))).toNat *
                            (1 : Nat) <
                        ls.length) &&
                    (decide ((0 : Int) ≤ wrapI IntKind.i64 ((64 : Int) - n.tmod (64 : Int))) &&
                      (decide ((0 : Int) ≤ i) && decide (i < (4 : Int)) &&
                        (decide
                            ((0 : Nat) + i.toNat * (1 : Nat) + (1 : Nat) ≤
                              (os.set ((0 : Nat) + i.toNat * (1 : Nat))
                                  (ls.getD
                                      ((0 : Nat) +
                                        (wrapI IntKind.i64 (i - wrapI IntKind.i64 (n.tdiv (64 : Int)))).toNat *
                                          (1 : Nat))
                                      (OfNat.ofNat (0 : Nat)) <<<
                                    (n.tmod (64 : Int)).toNat)).length) &&
                          true)))))))) &&
        true),
    X.normal,
    [((1 : Nat), V.int IntKind.i64 n), ((4 : Nat), V.ptr (0 : Nat) (0 : Nat)), ((5 : Nat), V.ptr (1 : Nat) (0 : Nat)),
      ((6 : Nat), V.ptr (2 : Nat) (0 : Nat)), ((7 : Nat), V.int IntKind.i64 (wrapI IntKind.i64 (i + (1 : Int))))],
    [Blk.b64 xs, Blk.b64 ls,
      Blk.b64
        ((os.set ((0 : Nat) + i.toNat * (1 : Nat))
              (ls.getD ((0 : Nat) + (wrapI IntKind.i64 (i - wrapI IntKind.i64 (n.tdiv (64 : Int)))).toNat * (1 : Nat))
                  (OfNat.ofNat (0 : Nat)) <<<
                (n.tmod (64 : Int)).toNat)).set
          ((0 : Nat) + i.toNat * (1 : Nat))
          ((os.set ((0 : Nat) + i.toNat * (1 : Nat))
                  (ls.getD
                      ((0 : Nat) + (wrapI IntKind.i64 (i - wrapI IntKind.i64 (n.tdiv (64 : Int)))).toNat * (1 : Nat))
                      (OfNat.ofNat (0 : Nat)) <<<
                    (n.tmod (64 : Int)).toNat)).getD
              ((0 : Nat) + i.toNat * (1 : Nat)) (OfNat.ofNat (0 : Nat)) |||
            ls.getD
                ((0 : Nat) +
                  (wrapI IntKind.i64
                        (wrapI IntKind.i64 (i - wrapI IntKind.i64 (n.tdiv (64 : Int))) - (1 : Int))).toNat *
                    (1 : Nat))
                (OfNat.ofNat (0 : Nat)) >>>
              (wrapI IntKind.i64 ((64 : Int) - n.tmod (64 : Int))).toNat))]) := by kernel_rfl
theorem leftB (ls : List (BitVec 64)) (os : List (BitVec 64)) (xs : List (BitVec 64)) (n : Int) (i : Int) :
  execN Pr (withAsm noOrc [((13 : Nat), true), ((30 : Nat), true), ((33 : Nat), false)]) noLoops [] (100 : Nat)
  (0 : Nat) [(1 : Nat), (4 : Nat), (5 : Nat), (6 : Nat), (7 : Nat)] (loopBody Go.Proofs.Tryd.f89 (0 : Nat))
  [((1 : Nat), V.int IntKind.i64 n), ((4 : Nat), V.ptr (0 : Nat) (0 : Nat)), ((5 : Nat), V.ptr (1 : Nat) (0 : Nat)),
    ((6 : Nat), V.ptr (2 : Nat) (0 : Nat)), ((7 : Nat), V.int IntKind.i64 i)]
  [Blk.b64 xs, Blk.b64 ls, Blk.b64 os] =
  some
  (decide (i < (4 : Int)) && true && true &&
      (decide ((0 : Int) ≤ wrapI IntKind.i64 (i - wrapI IntKind.i64 (n.tdiv (64 : Int)))) &&
              decide (wrapI IntKind.i64 (i - wrapI IntKind.i64 (n.tdiv (64 : Int))) < (4 : Int)) &&
            (decide
                ((0 : Nat) + (wrapI IntKind.i64 (i - wrapI IntKind.i64 (n.tdiv (64 : Int)))).toNat * (1 : Nat) <
                  ls.length) &&
              (decide ((0 : Int) ≤ n.tmod (64 : Int)) &&
                (decide ((0 : Int) ≤ i) && decide (i < (4 : Int)) &&
                  (decide ((0 : Nat) + i.toNat * (1 : Nat) + (1 : Nat) ≤ os.length) && true)))) &&
          (decide (n.tmod (64 : Int) > (0 : Int)) &&
              (!decide (wrapI IntKind.i64 (i - wrapI IntKind.i64 (n.tdiv (64 : Int))) > (0 : Int)) && true) &&
            true) &&
        true),
    X.normal,
    [((1 : Nat), V.int IntKind.i64 n), ((4 : Nat), V.ptr (0 : Nat) (0 : Nat)), ((5 : Nat), V.ptr (1 : Nat) (0 : Nat)),
      ((6 : Nat), V.ptr (2 : Nat) (0 : Nat)), ((7 : Nat), V.int IntKind.i64 (wrapI IntKind.i64 (i + (1 : Int))))],
    [Blk.b64 xs, Blk.b64 ls,
      Blk.b64
        (os.set ((0 : Nat) + i.toNat * (1 : Nat))
          (ls.getD ((0 : Nat) + (wrapI IntKind.i64 (i - wrapI IntKind.i64 (n.tdiv (64 : Int)))).toNat * (1 : Nat))
              (OfNat.ofNat (0 : Nat)) <<<
            (n.tmod (64 : Int)).toNat))]) := by kernel_rfl
theorem leftC (ls : List (BitVec 64)) (os : List (BitVec 64)) (xs : List (BitVec 64)) (n : Int) (i : Int) :
  execN Pr (withAsm noOrc [((13 : Nat), true), ((30 : Nat), false)]) noLoops [] (100 : Nat) (0 : Nat)
  [(1 : Nat), (4 : Nat), (5 : Nat), (6 : Nat), (7 : Nat)] (loopBody Go.Proofs.Tryd.f89 (0 : Nat))
  [((1 : Nat), V.int IntKind.i64 n), ((4 : Nat), V.ptr (0 : Nat) (0 : Nat)), ((5 : Nat), V.ptr (1 : Nat) (0 : Nat)),
    ((6 : Nat), V.ptr (2 : Nat) (0 : Nat)), ((7 : Nat), V.int IntKind.i64 i)]
  [Blk.b64 xs, Blk.b64 ls, Blk.b64 os] =
  some
  (decide (i < (4 : Int)) && true && true &&
      (decide ((0 : Int) ≤ wrapI IntKind.i64 (i - wrapI IntKind.i64 (n.tdiv (64 : Int)))) &&
              decide (wrapI IntKind.i64 (i - wrapI IntKind.i64 (n.tdiv (64 : Int))) < (4 : Int)) &&
            (decide
                ((0 : Nat) + (wrapI IntKind.i64 (i - wrapI IntKind.i64 (n.tdiv (64 : Int)))).toNat * (1 : Nat) <
                  ls.length) &&
              (decide ((0 : Int) ≤ n.tmod (64 : Int)) &&
                (decide ((0 : Int) ≤ i) && decide (i < (4 : Int)) &&
                  (decide ((0 : Nat) + i.toNat * (1 : Nat) + (1 : Nat) ≤ os.length) && true)))) &&
          (!decide (n.tmod (64 : Int) > (0 : Int)) && true && true) &&
        true),
    X.normal,
    [((1 : Nat), V.int IntKind.i64 n), ((4 : Nat), V.ptr (0 : Nat) (0 : Nat)), ((5 : Nat), V.ptr (1 : Nat) (0 : Nat)),
      ((6 : Nat), V.ptr (2 : Nat) (0 : Nat)), ((7 : Nat), V.int IntKind.i64 (wrapI IntKind.i64 (i + (1 : Int))))],
    [Blk.b64 xs, Blk.b64 ls,
      Blk.b64
        (os.set ((0 : Nat) + i.toNat * (1 : Nat))
          (ls.getD ((0 : Nat) + (wrapI IntKind.i64 (i - wrapI IntKind.i64 (n.tdiv (64 : Int)))).toNat * (1 : Nat))
              (OfNat.ofNat (0 : Nat)) <<<
            (n.tmod (64 : Int)).toNat))]) := by kernel_rfl
theorem leftZ (ls : List (BitVec 64)) (os : List (BitVec 64)) (xs : List (BitVec 64)) (n : Int) (i : Int) :
  execN Pr (withAsm noOrc [((13 : Nat), false)]) noLoops [] (100 : Nat) (0 : Nat) [(4 : Nat), (6 : Nat)]
  (loopBody Go.Proofs.Tryd.f89 (0 : Nat))
  [((1 : Nat), V.int IntKind.i64 n), ((4 : Nat), V.ptr (0 : Nat) (0 : Nat)), ((5 : Nat), V.ptr (1 : Nat) (0 : Nat)),
    ((6 : Nat), V.ptr (2 : Nat) (0 : Nat)), ((7 : Nat), V.int IntKind.i64 i)]
  [Blk.b64 xs, Blk.b64 ls, Blk.b64 os] =
  some
  (!decide (i < (4 : Int)) && true && true, X.exit (0 : Nat),
    [((4 : Nat), V.ptr (0 : Nat) (0 : Nat)), ((6 : Nat), V.ptr (1 : Nat) (0 : Nat))],
    [Blk.b64 xs, Blk.b64 os]) := by kernel_rfl

def left_S : MV → Nat → Fr × Heap := fun a j => ([(1,.int .i64 a.n),(4,.ptr 0 0),(5,.ptr 1 0),(6,.ptr 2 0),(7,.int .i64 (iAdd a.i j))], [.b64 a.xs, .b64 a.ls, .b64 (leftN a.ls a.os (a.n.toNat / 64) (a.n.toNat % 64) j)])
def left_read : Fr → Heap → Option MV := fun f h => match f, h with
  | [(1,.int .i64 n),(4,.ptr 0 0),(5,.ptr 1 0),(6,.ptr 2 0),(7,.int .i64 i)], [.b64 xs, .b64 ls, .b64 os] => some ⟨ls, os, xs, n, i⟩
  | _, _ => none
def left_ok : MV → Bool := fun a => decide (a.ls.length = 4) && decide (a.os.length = 4) && decide (0 ≤ a.n) && decide (a.n < 256) && decide (a.i = ((a.n.toNat / 64 : Nat) : Int))
def left_E : MV → X × Fr × Heap := fun a => (.exit 0, [(4,.ptr 0 0),(6,.ptr 1 0)], [.b64 a.xs, .b64 (leftN a.ls a.os (a.n.toNat / 64) (a.n.toNat % 64) (4 - a.n.toNat / 64))])
def left_k : Nat := 0
def left_s : Sm := whS 4 [1,4,5,6,7] left_read left_ok left_E
theorem left_at : SmAt Pr Go.Proofs.Tryd.f89 0 left_s left_k := by
  refine cnt_at left_S (fun a => 4 - a.n.toNat / 64) (by kernel_rfl) (by kernel_rfl) ?_ ?_ ?_ ?_
  · intro f g a h
    unfold left_read at h
    split at h <;> cases h
    rfl
  · intro a h; cases h
  · intro a hok j hj
    simp only [left_ok, Bool.and_eq_true, decide_eq_true_eq] at hok
    obtain ⟨⟨⟨⟨h1, h2⟩, h3⟩, h4⟩, h5⟩ := hok
    obtain ⟨q, hq⟩ : ∃ q, a.n.toNat / 64 = q := ⟨_, rfl⟩
    obtain ⟨r, hr⟩ : ∃ r, a.n.toNat % 64 = r := ⟨_, rfl⟩
    have hq4 : q < 4 := by omega
    have hr4 : r < 64 := by omega
    have en : a.n = ((a.n.toNat : Nat) : Int) := by omega
    have ed : wrapI .i64 (a.n.tdiv 64) = (q : Int) := by rw [en, tdiv_lit, wrapI_nat (by omega)]; exact congrArg _ hq
    have er : a.n.tmod 64 = (r : Int) := by rw [en, tmod_lit]; exact congrArg _ hr
    have e64 : wrapI .i64 ((64 : Int) - (r : Int)) = ((64 - r : Nat) : Int) := by rw [lit_sub _ _ (by omega), wrapI_nat (by omega)]
    have hl := leftN_length a.ls a.os (a.n.toNat / 64) (a.n.toNat % 64) j
    have hlt : q + j < (leftN a.ls a.os (a.n.toNat / 64) (a.n.toNat % 64) j).length := by omega
    rw [hq] at hj h5
    have ei : iAdd a.i j = ((q + j : Nat) : Int) := by rw [iAdd_eq, h5]; omega
    have ek : wrapI .i64 (((q + j : Nat) : Int) - wrapI .i64 (a.n.tdiv 64)) = ((j : Nat) : Int) := by rw [ed, show ((q + j : Nat) : Int) - (q : Int) = ((j : Nat) : Int) by omega, wrapI_nat (by omega)]
    have ez : wrapI .i64 (((q + j : Nat) : Int) + 1) = iAdd a.i (j + 1) := by rw [add_lit, wrapI_nat (by omega), iAdd_eq, h5]; omega
    by_cases hc : 0 < r ∧ 0 < j
    · refine execN_sound (withAsm_sound (noOrc_sound _)) mixed (LoopsOk.innerAt (LoopsOk.none (P := Pr) (fn := Go.Proofs.Tryd.f89) (n0 := 0)) 0) (by kernel_rfl) (by intro v h; cases h) ((leftA a.ls (leftN a.ls a.os (a.n.toNat / 64) (a.n.toNat % 64) j) a.xs a.n (iAdd a.i j)).trans ?_)
      have es : wrapI .i64 (((j : Nat) : Int) - 1) = ((j - 1 : Nat) : Int) := by rw [show ((j : Nat) : Int) - 1 = ((j - 1 : Nat) : Int) by omega, wrapI_nat (by omega)]
      refine stX ?_ ?_ ?_
      · simp only [ei, ek, er, e64, es, getD_set_self _ _ _ hlt, List.set_set, List.length_set, Int.toNat_natCast, Nat.mul_one, Nat.zero_add]
        simp only [Bool.and_eq_true, Bool.and_true, Bool.true_and, decide_eq_true_eq, Bool.not_eq_true', decide_eq_false_iff_not]
        (repeat' apply And.intro) <;> first | omega | exact True.intro
      · rw [ei, ez]; rfl
      · simp only [ei, ek, er, e64, es, getD_set_self _ _ _ hlt, List.set_set, List.length_set, Int.toNat_natCast, Nat.mul_one, Nat.zero_add]
        show _ = [Blk.b64 a.xs, Blk.b64 a.ls, Blk.b64 (leftN a.ls a.os (a.n.toNat / 64) (a.n.toNat % 64) (j + 1))]
        rw [leftN]; simp only [hq, hr, lPart, hc, and_self, if_true]
    · by_cases hr0 : 0 < r
      · refine execN_sound (withAsm_sound (noOrc_sound _)) mixed (LoopsOk.innerAt (LoopsOk.none (P := Pr) (fn := Go.Proofs.Tryd.f89) (n0 := 0)) 0) (by kernel_rfl) (by intro v h; cases h) ((leftB a.ls (leftN a.ls a.os (a.n.toNat / 64) (a.n.toNat % 64) j) a.xs a.n (iAdd a.i j)).trans ?_)
        refine stX ?_ ?_ ?_
        · simp only [ei, ek, er, e64, getD_set_self _ _ _ hlt, List.set_set, List.length_set, Int.toNat_natCast, Nat.mul_one, Nat.zero_add]
          simp only [Bool.and_eq_true, Bool.and_true, Bool.true_and, decide_eq_true_eq, Bool.not_eq_true', decide_eq_false_iff_not]
          (repeat' apply And.intro) <;> first | omega | exact True.intro
        · rw [ei, ez]; rfl
        · simp only [ei, ek, er, e64, getD_set_self _ _ _ hlt, List.set_set, List.length_set, Int.toNat_natCast, Nat.mul_one, Nat.zero_add]
          show _ = [Blk.b64 a.xs, Blk.b64 a.ls, Blk.b64 (leftN a.ls a.os (a.n.toNat / 64) (a.n.toNat % 64) (j + 1))]
          rw [leftN]; simp only [hq, hr, lPart, hc, if_false]
      · refine execN_sound (withAsm_sound (noOrc_sound _)) mixed (LoopsOk.innerAt (LoopsOk.none (P := Pr) (fn := Go.Proofs.Tryd.f89) (n0 := 0)) 0) (by kernel_rfl) (by intro v h; cases h) ((leftC a.ls (leftN a.ls a.os (a.n.toNat / 64) (a.n.toNat % 64) j) a.xs a.n (iAdd a.i j)).trans ?_)
        refine stX ?_ ?_ ?_
        · simp only [ei, ek, er, e64, getD_set_self _ _ _ hlt, List.set_set, List.length_set, Int.toNat_natCast, Nat.mul_one, Nat.zero_add]
          simp only [Bool.and_eq_true, Bool.and_true, Bool.true_and, decide_eq_true_eq, Bool.not_eq_true', decide_eq_false_iff_not]
          (repeat' apply And.intro) <;> first | omega | exact True.intro
        · rw [ei, ez]; rfl
        · simp only [ei, ek, er, e64, getD_set_self _ _ _ hlt, List.set_set, List.length_set, Int.toNat_natCast, Nat.mul_one, Nat.zero_add]
          show _ = [Blk.b64 a.xs, Blk.b64 a.ls, Blk.b64 (leftN a.ls a.os (a.n.toNat / 64) (a.n.toNat % 64) (j + 1))]
          rw [leftN]; simp only [hq, hr, lPart, hc, if_false]
  · intro a hok
    simp only [left_ok, Bool.and_eq_true, decide_eq_true_eq] at hok
    obtain ⟨⟨⟨⟨h1, h2⟩, h3⟩, h4⟩, h5⟩ := hok
    refine execN_sound (withAsm_sound (noOrc_sound _)) mixed (LoopsOk.innerAt (LoopsOk.none (P := Pr) (fn := Go.Proofs.Tryd.f89) (n0 := 0)) 0) (by kernel_rfl) (by intro v h; cases h) ((leftZ a.ls (leftN a.ls a.os (a.n.toNat / 64) (a.n.toNat % 64) (4 - a.n.toNat / 64)) a.xs a.n (iAdd a.i (4 - a.n.toNat / 64))).trans ?_)
    refine stX ?_ rfl rfl
    rw [iAdd_eq, h5]
    simp only [Bool.and_true, Bool.not_eq_true', decide_eq_false_iff_not]
    omega
theorem left_x (x : W4) (n : Int) :
  execF Pr (auto Pr ext [] [(77 : FuncId), (78 : FuncId)] (3 : Nat)) (smL (0 : Nat) [left_s]) (100 : Nat)
  Go.Proofs.Tryd.f89 [x.v, V.int IntKind.i64 n] [] =
  some
  (left_ok
          (MV.mk [x.d, x.c, x.b, x.a]
            [BitVec.ofInt (64 : Nat) (0 : Int), BitVec.ofInt (64 : Nat) (0 : Int), BitVec.ofInt (64 : Nat) (0 : Int),
              BitVec.ofInt (64 : Nat) (0 : Int)]
            [BitVec.ofInt (64 : Nat) (0 : Int), BitVec.ofInt (64 : Nat) (0 : Int), BitVec.ofInt (64 : Nat) (0 : Int),
              BitVec.ofInt (64 : Nat) (0 : Int)]
            n (wrapI IntKind.i64 (n.tdiv (64 : Int)))) &&
        (decide
              ((4 : Nat) ≤
                (leftN [x.d, x.c, x.b, x.a]
                    [BitVec.ofInt (64 : Nat) (0 : Int), BitVec.ofInt (64 : Nat) (0 : Int),
                      BitVec.ofInt (64 : Nat) (0 : Int), BitVec.ofInt (64 : Nat) (0 : Int)]
                    (n.toNat / (64 : Nat)) (n.toNat % (64 : Nat)) ((4 : Nat) - n.toNat / (64 : Nat))).length) &&
            true &&
          true) &&
      true,
    Fin.ret
      (V.agg
        [V.u64
            ((leftN [x.d, x.c, x.b, x.a]
                  [BitVec.ofInt (64 : Nat) (0 : Int), BitVec.ofInt (64 : Nat) (0 : Int),
                    BitVec.ofInt (64 : Nat) (0 : Int), BitVec.ofInt (64 : Nat) (0 : Int)]
                  (n.toNat / (64 : Nat)) (n.toNat % (64 : Nat)) ((4 : Nat) - n.toNat / (64 : Nat))).getD
              (3 : Nat) (OfNat.ofNat (0 : Nat))),
          V.u64
            ((leftN [x.d, x.c, x.b, x.a]
                  [BitVec.ofInt (64 : Nat) (0 : Int), BitVec.ofInt (64 : Nat) (0 : Int),
                    BitVec.ofInt (64 : Nat) (0 : Int), BitVec.ofInt (64 : Nat) (0 : Int)]
                  (n.toNat / (64 : Nat)) (n.toNat % (64 : Nat)) ((4 : Nat) - n.toNat / (64 : Nat))).getD
              (2 : Nat) (OfNat.ofNat (0 : Nat))),
          V.u64
            ((leftN [x.d, x.c, x.b, x.a]
                  [BitVec.ofInt (64 : Nat) (0 : Int), BitVec.ofInt (64 : Nat) (0 : Int),
                    BitVec.ofInt (64 : Nat) (0 : Int), BitVec.ofInt (64 : Nat) (0 : Int)]
                  (n.toNat / (64 : Nat)) (n.toNat % (64 : Nat)) ((4 : Nat) - n.toNat / (64 : Nat))).getD
              (1 : Nat) (OfNat.ofNat (0 : Nat))),
          V.u64
            ((leftN [x.d, x.c, x.b, x.a]
                  [BitVec.ofInt (64 : Nat) (0 : Int), BitVec.ofInt (64 : Nat) (0 : Int),
                    BitVec.ofInt (64 : Nat) (0 : Int), BitVec.ofInt (64 : Nat) (0 : Int)]
                  (n.toNat / (64 : Nat)) (n.toNat % (64 : Nat)) ((4 : Nat) - n.toNat / (64 : Nat))).getD
              (0 : Nat) (OfNat.ofNat (0 : Nat)))]),
    []) := by kernel_rfl
theorem rightA (ls : List (BitVec 64)) (os : List (BitVec 64)) (xs : List (BitVec 64)) (n : Int) (i : Int) (k : Int) :
  execN Pr (withAsm noOrc [((14 : Nat), true), ((30 : Nat), true), ((34 : Nat), true)]) noLoops [] (100 : Nat) (0 : Nat)
  [(1 : Nat), (4 : Nat), (5 : Nat), (6 : Nat), (13 : Nat), (14 : Nat)] (loopBody Go.Proofs.Tryd.f92 (0 : Nat))
  [((1 : Nat), V.int IntKind.i64 n), ((4 : Nat), V.ptr (0 : Nat) (0 : Nat)), ((5 : Nat), V.ptr (1 : Nat) (0 : Nat)),
    ((6 : Nat), V.ptr (2 : Nat) (0 : Nat)), ((13 : Nat), V.int IntKind.i64 i), ((14 : Nat), V.int IntKind.i64 k)]
  [Blk.b64 xs, Blk.b64 ls, Blk.b64 os] =
  some
  (decide (k < i) && true &&
      (decide ((0 : Int) ≤ wrapI IntKind.i64 (k + wrapI IntKind.i64 (n.tdiv (64 : Int)))) &&
              decide (wrapI IntKind.i64 (k + wrapI IntKind.i64 (n.tdiv (64 : Int))) < (4 : Int)) &&
            (decide
                ((0 : Nat) + (wrapI IntKind.i64 (k + wrapI IntKind.i64 (n.tdiv (64 : Int)))).toNat * (1 : Nat) <
                  ls.length) &&
              (decide ((0 : Int) ≤ n.tmod (64 : Int)) &&
                (decide ((0 : Int) ≤ k) && decide (k < (4 : Int)) &&
                  (decide ((0 : Nat) + k.toNat * (1 : Nat) + (1 : Nat) ≤ os.length) && true)))) &&
          (decide (n.tmod (64 : Int) > (0 : Int)) &&
              (decide
                  (wrapI IntKind.i64 (wrapI IntKind.i64 (k + wrapI IntKind.i64 (n.tdiv (64 : Int))) + (1 : Int)) <
                    (4 : Int)) &&
                true) &&
            (decide ((0 : Int) ≤ k) && decide (k < (4 : Int)) &&
              (decide
                  ((0 : Nat) + k.toNat * (1 : Nat) <
                    (os.set ((0 : Nat) + k.toNat * (1 : Nat))
                        (ls.getD
                            ((0 : Nat) +
                              (wrapI IntKind.i64 (k + wrapI IntKind.i64 (n.tdiv (64 : Int)))).toNat * (1 : Nat))
                            (OfNat.ofNat (0 : Nat)) >>>
                          (n.tmod (64 : Int)).toNat)).length) &&
                (decide
                      ((0 : Int) ≤
                        wrapI IntKind.i64
                          (wrapI IntKind.i64 (k + wrapI IntKind.i64 (n.tdiv (64 : Int))) + (1 : Int))) &&
                    decide
                      (wrapI IntKind.i64 (wrapI IntKind.i64 (k + wrapI IntKind.i64 (n.tdiv (64 : Int))) + (1 : Int)) <
                        (4 : Int)) &&
                  (decide
                      ((0 : Nat) +
                          (wrapI IntKind.i64
                                (wrapI IntKind.i64 (k + wrapI IntKind.i64 (n.tdiv (64 : Int))) + (1 : Int))).toNat *
                            (1 : Nat) <
                        ls.length) &&
                    (decide ((0 : Int) ≤ wrapI IntKind.i64 ((64 : Int) - n.tmod (64 : Int))) &&
                      (decide ((0 : Int) ≤ k) && decide (k < (4 : Int)) &&
                        (decide
                            ((0 : Nat) + k.toNat * (1 : Nat) + (1 : Nat) ≤
                              (os.set ((0 : Nat) + k.toNat * (1 : Nat))
                                  (ls.getD
                                      ((0 : Nat) +
                                        (wrapI IntKind.i64 (k + wrapI IntKind.i64 (n.tdiv (64 : Int)))).toNat *
                                          (1 : Nat))
                                      (OfNat.ofNat (0 : Nat)) >>>
                                    (n.tmod (64 : Int)).toNat)).length) &&
                          true)))))))) &&
        true),
    X.normal,
    [((1 : Nat), V.int IntKind.i64 n), ((4 : Nat), V.ptr (0 : Nat) (0 : Nat)), ((5 : Nat), V.ptr (1 : Nat) (0 : Nat)),
      ((6 : Nat), V.ptr (2 : Nat) (0 : Nat)), ((13 : Nat), V.int IntKind.i64 i),
      ((14 : Nat), V.int IntKind.i64 (wrapI IntKind.i64 (k + (1 : Int))))],
    [Blk.b64 xs, Blk.b64 ls,
      Blk.b64
        ((os.set ((0 : Nat) + k.toNat * (1 : Nat))
              (ls.getD ((0 : Nat) + (wrapI IntKind.i64 (k + wrapI IntKind.i64 (n.tdiv (64 : Int)))).toNat * (1 : Nat))
                  (OfNat.ofNat (0 : Nat)) >>>
                (n.tmod (64 : Int)).toNat)).set
          ((0 : Nat) + k.toNat * (1 : Nat))
          ((os.set ((0 : Nat) + k.toNat * (1 : Nat))
                  (ls.getD
                      ((0 : Nat) + (wrapI IntKind.i64 (k + wrapI IntKind.i64 (n.tdiv (64 : Int)))).toNat * (1 : Nat))
                      (OfNat.ofNat (0 : Nat)) >>>
                    (n.tmod (64 : Int)).toNat)).getD
              ((0 : Nat) + k.toNat * (1 : Nat)) (OfNat.ofNat (0 : Nat)) |||
            ls.getD
                ((0 : Nat) +
                  (wrapI IntKind.i64
                        (wrapI IntKind.i64 (k + wrapI IntKind.i64 (n.tdiv (64 : Int))) + (1 : Int))).toNat *
                    (1 : Nat))
                (OfNat.ofNat (0 : Nat)) <<<
              (wrapI IntKind.i64 ((64 : Int) - n.tmod (64 : Int))).toNat))]) := by kernel_rfl
theorem rightB (ls : List (BitVec 64)) (os : List (BitVec 64)) (xs : List (BitVec 64)) (n : Int) (i : Int) (k : Int) :
  execN Pr (withAsm noOrc [((14 : Nat), true), ((30 : Nat), true), ((34 : Nat), false)]) noLoops [] (100 : Nat)
  (0 : Nat) [(1 : Nat), (4 : Nat), (5 : Nat), (6 : Nat), (13 : Nat), (14 : Nat)] (loopBody Go.Proofs.Tryd.f92 (0 : Nat))
  [((1 : Nat), V.int IntKind.i64 n), ((4 : Nat), V.ptr (0 : Nat) (0 : Nat)), ((5 : Nat), V.ptr (1 : Nat) (0 : Nat)),
    ((6 : Nat), V.ptr (2 : Nat) (0 : Nat)), ((13 : Nat), V.int IntKind.i64 i), ((14 : Nat), V.int IntKind.i64 k)]
  [Blk.b64 xs, Blk.b64 ls, Blk.b64 os] =
  some
  (decide (k < i) && true &&
      (decide ((0 : Int) ≤ wrapI IntKind.i64 (k + wrapI IntKind.i64 (n.tdiv (64 : Int)))) &&
              decide (wrapI IntKind.i64 (k + wrapI IntKind.i64 (n.tdiv (64 : Int))) < (4 : Int)) &&
            (decide
                ((0 : Nat) + (wrapI IntKind.i64 (k + wrapI IntKind.i64 (n.tdiv (64 : Int)))).toNat * (1 : Nat) <
                  ls.length) &&
              (decide ((0 : Int) ≤ n.tmod (64 : Int)) &&
                (decide ((0 : Int) ≤ k) && decide (k < (4 : Int)) &&
                  (decide ((0 : Nat) + k.toNat * (1 : Nat) + (1 : Nat) ≤ os.length) && true)))) &&
          (decide (n.tmod (64 : Int) > (0 : Int)) &&
              (!decide
                    (wrapI IntKind.i64 (wrapI IntKind.i64 (k + wrapI IntKind.i64 (n.tdiv (64 : Int))) + (1 : Int)) <
                      (4 : Int)) &&
                true) &&
            true) &&
        true),
    X.normal,
    [((1 : Nat), V.int IntKind.i64 n), ((4 : Nat), V.ptr (0 : Nat) (0 : Nat)), ((5 : Nat), V.ptr (1 : Nat) (0 : Nat)),
      ((6 : Nat), V.ptr (2 : Nat) (0 : Nat)), ((13 : Nat), V.int IntKind.i64 i),
      ((14 : Nat), V.int IntKind.i64 (wrapI IntKind.i64 (k + (1 : Int))))],
    [Blk.b64 xs, Blk.b64 ls,
      Blk.b64
        (os.set ((0 : Nat) + k.toNat * (1 : Nat))
          (ls.getD ((0 : Nat) + (wrapI IntKind.i64 (k + wrapI IntKind.i64 (n.tdiv (64 : Int)))).toNat * (1 : Nat))
              (OfNat.ofNat (0 : Nat)) >>>
            (n.tmod (64 : Int)).toNat))]) := by kernel_rfl
theorem rightC (ls : List (BitVec 64)) (os : List (BitVec 64)) (xs : List (BitVec 64)) (n : Int) (i : Int) (k : Int) :
  execN Pr (withAsm noOrc [((14 : Nat), true), ((30 : Nat), false)]) noLoops [] (100 : Nat) (0 : Nat)
  [(1 : Nat), (4 : Nat), (5 : Nat), (6 : Nat), (13 : Nat), (14 : Nat)] (loopBody Go.Proofs.Tryd.f92 (0 : Nat))
  [((1 : Nat), V.int IntKind.i64 n), ((4 : Nat), V.ptr (0 : Nat) (0 : Nat)), ((5 : Nat), V.ptr (1 : Nat) (0 : Nat)),
    ((6 : Nat), V.ptr (2 : Nat) (0 : Nat)), ((13 : Nat), V.int IntKind.i64 i), ((14 : Nat), V.int IntKind.i64 k)]
  [Blk.b64 xs, Blk.b64 ls, Blk.b64 os] =
  some
  (decide (k < i) && true &&
      (decide ((0 : Int) ≤ wrapI IntKind.i64 (k + wrapI IntKind.i64 (n.tdiv (64 : Int)))) &&
              decide (wrapI IntKind.i64 (k + wrapI IntKind.i64 (n.tdiv (64 : Int))) < (4 : Int)) &&
            (decide
                ((0 : Nat) + (wrapI IntKind.i64 (k + wrapI IntKind.i64 (n.tdiv (64 : Int)))).toNat * (1 : Nat) <
                  ls.length) &&
              (decide ((0 : Int) ≤ n.tmod (64 : Int)) &&
                (decide ((0 : Int) ≤ k) && decide (k < (4 : Int)) &&
                  (decide ((0 : Nat) + k.toNat * (1 : Nat) + (1 : Nat) ≤ os.length) && true)))) &&
          (!decide (n.tmod (64 : Int) > (0 : Int)) && true && true) &&
        true),
    X.normal,
    [((1 : Nat), V.int IntKind.i64 n), ((4 : Nat), V.ptr (0 : Nat) (0 : Nat)), ((5 : Nat), V.ptr (1 : Nat) (0 : Nat)),
      ((6 : Nat), V.ptr (2 : Nat) (0 : Nat)), ((13 : Nat), V.int IntKind.i64 i),
      ((14 : Nat), V.int IntKind.i64 (wrapI IntKind.i64 (k + (1 : Int))))],
    [Blk.b64 xs, Blk.b64 ls,
      Blk.b64
        (os.set ((0 : Nat) + k.toNat * (1 : Nat))
          (ls.getD ((0 : Nat) + (wrapI IntKind.i64 (k + wrapI IntKind.i64 (n.tdiv (64 : Int)))).toNat * (1 : Nat))
              (OfNat.ofNat (0 : Nat)) >>>
            (n.tmod (64 : Int)).toNat))]) := by kernel_rfl
theorem rightZ (ls : List (BitVec 64)) (os : List (BitVec 64)) (xs : List (BitVec 64)) (n : Int) (i : Int) (k : Int) :
  execN Pr (withAsm noOrc [((14 : Nat), false)]) noLoops [] (100 : Nat) (0 : Nat) [(4 : Nat), (6 : Nat)]
  (loopBody Go.Proofs.Tryd.f92 (0 : Nat))
  [((1 : Nat), V.int IntKind.i64 n), ((4 : Nat), V.ptr (0 : Nat) (0 : Nat)), ((5 : Nat), V.ptr (1 : Nat) (0 : Nat)),
    ((6 : Nat), V.ptr (2 : Nat) (0 : Nat)), ((13 : Nat), V.int IntKind.i64 i), ((14 : Nat), V.int IntKind.i64 k)]
  [Blk.b64 xs, Blk.b64 ls, Blk.b64 os] =
  some
  (!decide (k < i) && true && true, X.exit (0 : Nat),
    [((4 : Nat), V.ptr (0 : Nat) (0 : Nat)), ((6 : Nat), V.ptr (1 : Nat) (0 : Nat))],
    [Blk.b64 xs, Blk.b64 os]) := by kernel_rfl

def right_S : MV → Nat → Fr × Heap := fun a j => ([(1,.int .i64 a.n),(4,.ptr 0 0),(5,.ptr 1 0),(6,.ptr 2 0),(13,.int .i64 a.i),(14,.int .i64 ((j : Nat) : Int))], [.b64 a.xs, .b64 a.ls, .b64 (rightN a.ls a.os (a.n.toNat / 64) (a.n.toNat % 64) j)])
def right_read : Fr → Heap → Option MV := fun f h => match f, h with
  | [(1,.int .i64 n),(4,.ptr 0 0),(5,.ptr 1 0),(6,.ptr 2 0),(13,.int .i64 i),(14,.int .i64 0)], [.b64 xs, .b64 ls, .b64 os] => some ⟨ls, os, xs, n, i⟩
  | _, _ => none
def right_ok : MV → Bool := fun a => decide (a.ls.length = 4) && decide (a.os.length = 4) && decide (0 ≤ a.n) && decide (a.n < 256) && decide (a.i = ((4 - a.n.toNat / 64 : Nat) : Int))
def right_E : MV → X × Fr × Heap := fun a => (.exit 0, [(4,.ptr 0 0),(6,.ptr 1 0)], [.b64 a.xs, .b64 (rightN a.ls a.os (a.n.toNat / 64) (a.n.toNat % 64) (4 - a.n.toNat / 64))])
def right_k : Nat := 0
def right_s : Sm := whS 4 [1,4,5,6,13,14] right_read right_ok right_E
theorem right_at : SmAt Pr Go.Proofs.Tryd.f92 0 right_s right_k := by
  refine cnt_at right_S (fun a => 4 - a.n.toNat / 64) (by kernel_rfl) (by kernel_rfl) ?_ ?_ ?_ ?_
  · intro f g a h
    unfold right_read at h
    split at h <;> cases h
    rfl
  · intro a h; cases h
  · intro a hok j hj
    simp only [right_ok, Bool.and_eq_true, decide_eq_true_eq] at hok
    obtain ⟨⟨⟨⟨h1, h2⟩, h3⟩, h4⟩, h5⟩ := hok
    obtain ⟨q, hq⟩ : ∃ q, a.n.toNat / 64 = q := ⟨_, rfl⟩
    obtain ⟨r, hr⟩ : ∃ r, a.n.toNat % 64 = r := ⟨_, rfl⟩
    have hq4 : q < 4 := by omega
    have hr4 : r < 64 := by omega
    have en : a.n = ((a.n.toNat : Nat) : Int) := by omega
    have ed : wrapI .i64 (a.n.tdiv 64) = (q : Int) := by rw [en, tdiv_lit, wrapI_nat (by omega)]; exact congrArg _ hq
    have er : a.n.tmod 64 = (r : Int) := by rw [en, tmod_lit]; exact congrArg _ hr
    have e64 : wrapI .i64 ((64 : Int) - (r : Int)) = ((64 - r : Nat) : Int) := by rw [lit_sub _ _ (by omega), wrapI_nat (by omega)]
    have hl := rightN_length a.ls a.os (a.n.toNat / 64) (a.n.toNat % 64) j
    have hlt : j < (rightN a.ls a.os (a.n.toNat / 64) (a.n.toNat % 64) j).length := by omega
    rw [hq] at hj h5
    have ek : wrapI .i64 (((j : Nat) : Int) + wrapI .i64 (a.n.tdiv 64)) = ((j + q : Nat) : Int) := by rw [ed, add_nat, wrapI_nat (by omega)]
    have ez : wrapI .i64 (((j : Nat) : Int) + 1) = ((j + 1 : Nat) : Int) := by rw [add_lit, wrapI_nat (by omega)]
    have es : wrapI .i64 (((j + q : Nat) : Int) + 1) = ((j + q + 1 : Nat) : Int) := by rw [add_lit, wrapI_nat (by omega)]
    by_cases hc : 0 < r ∧ j + q + 1 < 4
    · refine execN_sound (withAsm_sound (noOrc_sound _)) mixed (LoopsOk.innerAt (LoopsOk.none (P := Pr) (fn := Go.Proofs.Tryd.f92) (n0 := 0)) 0) (by kernel_rfl) (by intro v h; cases h) ((rightA a.ls (rightN a.ls a.os (a.n.toNat / 64) (a.n.toNat % 64) j) a.xs a.n a.i j).trans ?_)
      refine stX ?_ ?_ ?_
      · simp only [ek, er, e64, es, getD_set_self _ _ _ hlt, List.set_set, List.length_set, Int.toNat_natCast, Nat.mul_one, Nat.zero_add]
        simp only [Bool.and_eq_true, Bool.and_true, Bool.true_and, decide_eq_true_eq, Bool.not_eq_true', decide_eq_false_iff_not]
        (repeat' apply And.intro) <;> first | omega | exact True.intro
      · rw [ez]; rfl
      · simp only [ek, er, e64, es, getD_set_self _ _ _ hlt, List.set_set, List.length_set, Int.toNat_natCast, Nat.mul_one, Nat.zero_add]
        show _ = [Blk.b64 a.xs, Blk.b64 a.ls, Blk.b64 (rightN a.ls a.os (a.n.toNat / 64) (a.n.toNat % 64) (j + 1))]
        rw [rightN]; simp only [hq, hr, rPart, hc, and_self, if_true]
    · by_cases hr0 : 0 < r
      · refine execN_sound (withAsm_sound (noOrc_sound _)) mixed (LoopsOk.innerAt (LoopsOk.none (P := Pr) (fn := Go.Proofs.Tryd.f92) (n0 := 0)) 0) (by kernel_rfl) (by intro v h; cases h) ((rightB a.ls (rightN a.ls a.os (a.n.toNat / 64) (a.n.toNat % 64) j) a.xs a.n a.i j).trans ?_)
        refine stX ?_ ?_ ?_
        · simp only [ek, er, e64, es, getD_set_self _ _ _ hlt, List.set_set, List.length_set, Int.toNat_natCast, Nat.mul_one, Nat.zero_add]
          simp only [Bool.and_eq_true, Bool.and_true, Bool.true_and, decide_eq_true_eq, Bool.not_eq_true', decide_eq_false_iff_not]
          (repeat' apply And.intro) <;> first | omega | exact True.intro
        · rw [ez]; rfl
        · simp only [ek, er, e64, getD_set_self _ _ _ hlt, List.set_set, List.length_set, Int.toNat_natCast, Nat.mul_one, Nat.zero_add]
          show _ = [Blk.b64 a.xs, Blk.b64 a.ls, Blk.b64 (rightN a.ls a.os (a.n.toNat / 64) (a.n.toNat % 64) (j + 1))]
          rw [rightN]; simp only [hq, hr, rPart, hc, if_false]
      · refine execN_sound (withAsm_sound (noOrc_sound _)) mixed (LoopsOk.innerAt (LoopsOk.none (P := Pr) (fn := Go.Proofs.Tryd.f92) (n0 := 0)) 0) (by kernel_rfl) (by intro v h; cases h) ((rightC a.ls (rightN a.ls a.os (a.n.toNat / 64) (a.n.toNat % 64) j) a.xs a.n a.i j).trans ?_)
        refine stX ?_ ?_ ?_
        · simp only [ek, er, e64, getD_set_self _ _ _ hlt, List.set_set, List.length_set, Int.toNat_natCast, Nat.mul_one, Nat.zero_add]
          simp only [Bool.and_eq_true, Bool.and_true, Bool.true_and, decide_eq_true_eq, Bool.not_eq_true', decide_eq_false_iff_not]
          (repeat' apply And.intro) <;> first | omega | exact True.intro
        · rw [ez]; rfl
        · simp only [ek, er, e64, getD_set_self _ _ _ hlt, List.set_set, List.length_set, Int.toNat_natCast, Nat.mul_one, Nat.zero_add]
          show _ = [Blk.b64 a.xs, Blk.b64 a.ls, Blk.b64 (rightN a.ls a.os (a.n.toNat / 64) (a.n.toNat % 64) (j + 1))]
          rw [rightN]; simp only [hq, hr, rPart, hc, if_false]
  · intro a hok
    simp only [right_ok, Bool.and_eq_true, decide_eq_true_eq] at hok
    obtain ⟨⟨⟨⟨h1, h2⟩, h3⟩, h4⟩, h5⟩ := hok
    refine execN_sound (withAsm_sound (noOrc_sound _)) mixed (LoopsOk.innerAt (LoopsOk.none (P := Pr) (fn := Go.Proofs.Tryd.f92) (n0 := 0)) 0) (by kernel_rfl) (by intro v h; cases h) ((rightZ a.ls (rightN a.ls a.os (a.n.toNat / 64) (a.n.toNat % 64) (4 - a.n.toNat / 64)) a.xs a.n a.i ((4 - a.n.toNat / 64 : Nat) : Int)).trans ?_)
    refine stX ?_ rfl rfl
    rw [h5]
    simp only [Bool.and_true, Bool.not_eq_true', decide_eq_false_iff_not]
    omega
theorem right_x (x : W4) (n : Int) :
  execF Pr (auto Pr ext [] [(77 : FuncId), (78 : FuncId)] (3 : Nat)) (smL (0 : Nat) [right_s]) (100 : Nat)
  Go.Proofs.Tryd.f92 [x.v, V.int IntKind.i64 n] [] =
  some
  (right_ok
          (MV.mk [x.d, x.c, x.b, x.a]
            [BitVec.ofInt (64 : Nat) (0 : Int), BitVec.ofInt (64 : Nat) (0 : Int), BitVec.ofInt (64 : Nat) (0 : Int),
              BitVec.ofInt (64 : Nat) (0 : Int)]
            [BitVec.ofInt (64 : Nat) (0 : Int), BitVec.ofInt (64 : Nat) (0 : Int), BitVec.ofInt (64 : Nat) (0 : Int),
              BitVec.ofInt (64 : Nat) (0 : Int)]
            n (wrapI IntKind.i64 ((4 : Int) - wrapI IntKind.i64 (n.tdiv (64 : Int))))) &&
        (decide
              ((4 : Nat) ≤
                (rightN [x.d, x.c, x.b, x.a]
                    [BitVec.ofInt (64 : Nat) (0 : Int), BitVec.ofInt (64 : Nat) (0 : Int),
                      BitVec.ofInt (64 : Nat) (0 : Int), BitVec.ofInt (64 : Nat) (0 : Int)]
                    (n.toNat / (64 : Nat)) (n.toNat % (64 : Nat)) ((4 : Nat) - n.toNat / (64 : Nat))).length) &&
            true &&
          true) &&
      true,
    Fin.ret
      (V.agg
        [V.u64
            ((rightN [x.d, x.c, x.b, x.a]
                  [BitVec.ofInt (64 : Nat) (0 : Int), BitVec.ofInt (64 : Nat) (0 : Int),
                    BitVec.ofInt (64 : Nat) (0 : Int), BitVec.ofInt (64 : Nat) (0 : Int)]
                  (n.toNat / (64 : Nat)) (n.toNat % (64 : Nat)) ((4 : Nat) - n.toNat / (64 : Nat))).getD
              (3 : Nat) (OfNat.ofNat (0 : Nat))),
          V.u64
            ((rightN [x.d, x.c, x.b, x.a]
                  [BitVec.ofInt (64 : Nat) (0 : Int), BitVec.ofInt (64 : Nat) (0 : Int),
                    BitVec.ofInt (64 : Nat) (0 : Int), BitVec.ofInt (64 : Nat) (0 : Int)]
                  (n.toNat / (64 : Nat)) (n.toNat % (64 : Nat)) ((4 : Nat) - n.toNat / (64 : Nat))).getD
              (2 : Nat) (OfNat.ofNat (0 : Nat))),
          V.u64
            ((rightN [x.d, x.c, x.b, x.a]
                  [BitVec.ofInt (64 : Nat) (0 : Int), BitVec.ofInt (64 : Nat) (0 : Int),
                    BitVec.ofInt (64 : Nat) (0 : Int), BitVec.ofInt (64 : Nat) (0 : Int)]
                  (n.toNat / (64 : Nat)) (n.toNat % (64 : Nat)) ((4 : Nat) - n.toNat / (64 : Nat))).getD
              (1 : Nat) (OfNat.ofNat (0 : Nat))),
          V.u64
            ((rightN [x.d, x.c, x.b, x.a]
                  [BitVec.ofInt (64 : Nat) (0 : Int), BitVec.ofInt (64 : Nat) (0 : Int),
                    BitVec.ofInt (64 : Nat) (0 : Int), BitVec.ofInt (64 : Nat) (0 : Int)]
                  (n.toNat / (64 : Nat)) (n.toNat % (64 : Nat)) ((4 : Nat) - n.toNat / (64 : Nat))).getD
              (0 : Nat) (OfNat.ofNat (0 : Nat)))]),
    []) := by kernel_rfl
end
end Go.Proofs.YtajbaocfdlopbaaDoor.K
end
section
open Go Go.Lh
namespace Go.Proofs.YtajbaocfdlopbaaDoor.K
noncomputable section
set_option maxRecDepth 100000
def z4 : List (BitVec 64) := [BitVec.ofInt 64 0, BitVec.ofInt 64 0, BitVec.ofInt 64 0, BitVec.ofInt 64 0]
theorem left_list (x : W4) (q r : Nat) (hq : q < 4) : leftN [x.d, x.c, x.b, x.a] z4 q r (4 - q) = [W4.lP x q r 0, W4.lP x q r 1, W4.lP x q r 2, W4.lP x q r 3] := by
  have h4 : q = 0 ∨ q = 1 ∨ q = 2 ∨ q = 3 := by omega
  rcases h4 with rfl | rfl | rfl | rfl <;> simp [leftN, lPart, W4.lP, W4.lo, z4]
theorem right_list (x : W4) (q r : Nat) (hq : q < 4) : rightN [x.d, x.c, x.b, x.a] z4 q r (4 - q) = [W4.rP x q r 0, W4.rP x q r 1, W4.rP x q r 2, W4.rP x q r 3] := by
  have h4 : q = 0 ∨ q = 1 ∨ q = 2 ∨ q = 3 := by omega
  rcases h4 with rfl | rfl | rfl | rfl <;> simp [rightN, rPart, W4.rP, W4.lo, z4]
def OW3 : Orc := auto Pr ext [] [77, 78] 3
theorem OW3_sound : OrcSound Pr OW3 := auto_sound mixed ext_ok KOk.nil (by kernel_rfl) 3
theorem leftL : LoopsOk Pr Go.Proofs.Tryd.f89 0 (smL 0 [left_s]) := LoopsOk.of [(left_s, left_k)] (by kernel_rfl) (by
  intro p hp
  simp only [List.mem_cons, List.not_mem_nil, or_false] at hp
  subst hp
  exact left_at)
theorem rightL : LoopsOk Pr Go.Proofs.Tryd.f92 0 (smL 0 [right_s]) := LoopsOk.of [(right_s, right_k)] (by kernel_rfl) (by
  intro p hp
  simp only [List.mem_cons, List.not_mem_nil, or_false] at hp
  subst hp
  exact right_at)
theorem div_i {n : Int} (h : 0 ≤ n) (h2 : n < 256) : wrapI .i64 (n.tdiv 64) = ((n.toNat / 64 : Nat) : Int) := by
  have en : n = ((n.toNat : Nat) : Int) := by omega
  rw [en, tdiv_lit, wrapI_nat (by omega)]; rfl
theorem left_fn (x : W4) (n : Int) (h : 0 ≤ n) (h2 : n < 256) : LFn Pr 89 [x.v, .int .i64 n] [] (.ret (W4.shl x n.toNat).v) [] := by
  have hq : n.toNat / 64 < 4 := by omega
  have hr : n.toNat % 64 < 64 := Nat.mod_lt _ (by omega)
  have hl := left_list x (n.toNat / 64) (n.toNat % 64) hq
  unfold z4 at hl
  refine execF_sound (fn := Go.Proofs.Tryd.f89) OW3_sound mixed (by kernel_rfl) leftL ((left_x x n).trans (stF ?_ ?_ rfl))
  · rw [hl, div_i h h2]
    simp [left_ok, h, h2]
  · rw [hl, show n.toNat = 64 * (n.toNat / 64) + n.toNat % 64 by omega, ← W4.shlP_eq x _ _ (by omega) (by omega)]
    have e1 : (64 * (n.toNat / 64) + n.toNat % 64) / 64 = n.toNat / 64 := by omega
    have e2 : (64 * (n.toNat / 64) + n.toNat % 64) % 64 = n.toNat % 64 := by omega
    simp only [e1, e2]
    rfl
theorem right_fn (x : W4) (n : Int) (h : 0 ≤ n) (h2 : n < 256) : LFn Pr 92 [x.v, .int .i64 n] [] (.ret (W4.shr x n.toNat).v) [] := by
  have hq : n.toNat / 64 < 4 := by omega
  have hr : n.toNat % 64 < 64 := Nat.mod_lt _ (by omega)
  have hl := right_list x (n.toNat / 64) (n.toNat % 64) hq
  unfold z4 at hl
  have e4 : wrapI .i64 ((4 : Int) - ((n.toNat / 64 : Nat) : Int)) = ((4 - n.toNat / 64 : Nat) : Int) := by rw [lit_sub _ _ (by omega), wrapI_nat (by omega)]
  refine execF_sound (fn := Go.Proofs.Tryd.f92) OW3_sound mixed (by kernel_rfl) rightL ((right_x x n).trans (stF ?_ ?_ rfl))
  · rw [hl, div_i h h2, e4]
    simp [right_ok, h, h2]
  · rw [hl, show n.toNat = 64 * (n.toNat / 64) + n.toNat % 64 by omega, ← W4.shrP_eq x _ _ (by omega) (by omega)]
    have e1 : (64 * (n.toNat / 64) + n.toNat % 64) / 64 = n.toNat / 64 := by omega
    have e2 : (64 * (n.toNat / 64) + n.toNat % 64) % 64 = n.toNat % 64 := by omega
    simp only [e1, e2]
    rfl
end
end Go.Proofs.YtajbaocfdlopbaaDoor.K
end
section
open Go Go.Lh
namespace Go.Proofs.YtajbaocfdlopbaaDoor.K
noncomputable section
set_option maxRecDepth 100000
def OW4 : Orc := auto Pr ext [] [77, 78, 83, 85] 4
theorem OW4_sound : OrcSound Pr OW4 := auto_sound mixed ext_ok KOk.nil (by kernel_rfl) 4
theorem or_fn (x y : W4) : LFn Pr 26 [x.v, y.v] [] (.ret (W4.orW x y).v) [] :=
  execFD_sound (fn := Go.Proofs.Tryd.f26) OW4_sound mixed (by kernel_rfl) (fun _ _ _ _ => LoopOk.none) (show execFD Pr OW4 noLoops [] 100 Go.Proofs.Tryd.f26 [x.v, y.v] [] = some (true, .ret (W4.orW x y).v, []) by kernel_rfl)
theorem from_fn (x : BitVec 64) : LFn Pr 23 [.u64 x] [] (.ret (W4.small x).v) [] :=
  execFD_sound (fn := Go.Proofs.Tryd.f23) OW4_sound mixed (by kernel_rfl) (fun _ _ _ _ => LoopOk.none) (show execFD Pr OW4 noLoops [] 100 Go.Proofs.Tryd.f23 [.u64 x] [] = some (true, .ret (W4.small x).v, []) by kernel_rfl)
def lenTab : List (BitVec 8) := (bytesOf (ByteArray.mk (([0, 1, 2, 2, 3, 3, 3, 3, 4, 4, 4, 4, 4, 4, 4, 4, 5, 5, 5, 5, 5, 5, 5, 5, 5, 5, 5, 5, 5, 5, 5, 5, 6, 6, 6, 6, 6, 6, 6, 6, 6, 6, 6, 6, 6, 6, 6, 6, 6, 6, 6, 6, 6, 6, 6, 6, 6, 6, 6, 6, 6, 6, 6, 6].append [7, 7, 7, 7, 7, 7, 7, 7, 7, 7, 7, 7, 7, 7, 7, 7, 7, 7, 7, 7, 7, 7, 7, 7, 7, 7, 7, 7, 7, 7, 7, 7, 7, 7, 7, 7, 7, 7, 7, 7, 7, 7, 7, 7, 7, 7, 7, 7, 7, 7, 7, 7, 7, 7, 7, 7, 7, 7, 7, 7, 7, 7, 7, 7]).append ([8, 8, 8, 8, 8, 8, 8, 8, 8, 8, 8, 8, 8, 8, 8, 8, 8, 8, 8, 8, 8, 8, 8, 8, 8, 8, 8, 8, 8, 8, 8, 8, 8, 8, 8, 8, 8, 8, 8, 8, 8, 8, 8, 8, 8, 8, 8, 8, 8, 8, 8, 8, 8, 8, 8, 8, 8, 8, 8, 8, 8, 8, 8, 8].append [8, 8, 8, 8, 8, 8, 8, 8, 8, 8, 8, 8, 8, 8, 8, 8, 8, 8, 8, 8, 8, 8, 8, 8, 8, 8, 8, 8, 8, 8, 8, 8, 8, 8, 8, 8, 8, 8, 8, 8, 8, 8, 8, 8, 8, 8, 8, 8, 8, 8, 8, 8, 8, 8, 8, 8, 8, 8, 8, 8, 8, 8, 8, 8])).toArray))
theorem len_yyy (x : BitVec 64) :
  execFD Pr (withAsm OW4 [((3 : Nat), true), ((7 : Nat), true), ((13 : Nat), true)]) noLoops [] (100 : Nat)
  Go.Proofs.Tryd.f126 [V.u64 x] [] =
  some
  (decide (BitVec.ofInt (64 : Nat) (4294967296 : Int) ≤ x) && true && true &&
        (decide (BitVec.ofInt (64 : Nat) (65536 : Int) ≤ x >>> (32 : Nat)) && true && true &&
          (decide (BitVec.ofInt (64 : Nat) (256 : Int) ≤ x >>> (32 : Nat) >>> (16 : Nat)) && true && true &&
            (decide
                  ((↑(BitVec.setWidth (8 : Nat) (x >>> (32 : Nat) >>> (16 : Nat) >>> (8 : Nat))).toNat : Int) <
                    (256 : Int)) &&
                true &&
              true))) &&
      true,
    Fin.ret
      (V.int IntKind.i64
        (wrapI IntKind.i64
          ((56 : Int) +
            (↑(lenTab.getD
                    (BitVec.setWidth (8 : Nat) (x >>> (32 : Nat) >>> (16 : Nat) >>> (8 : Nat))).toNat
                    (OfNat.ofNat (0 : Nat))).toNat :
              Int)))),
    []) := by kernel_rfl
theorem len_yyn (x : BitVec 64) :
  execFD Pr (withAsm OW4 [((3 : Nat), true), ((7 : Nat), true), ((13 : Nat), false)]) noLoops [] (100 : Nat)
  Go.Proofs.Tryd.f126 [V.u64 x] [] =
  some
  (decide (BitVec.ofInt (64 : Nat) (4294967296 : Int) ≤ x) && true && true &&
        (decide (BitVec.ofInt (64 : Nat) (65536 : Int) ≤ x >>> (32 : Nat)) && true && true &&
          (!decide (BitVec.ofInt (64 : Nat) (256 : Int) ≤ x >>> (32 : Nat) >>> (16 : Nat)) && true && true &&
            (decide ((↑(BitVec.setWidth (8 : Nat) (x >>> (32 : Nat) >>> (16 : Nat))).toNat : Int) < (256 : Int)) &&
                true &&
              true))) &&
      true,
    Fin.ret
      (V.int IntKind.i64
        (wrapI IntKind.i64
          ((48 : Int) +
            (↑(lenTab.getD
                    (BitVec.setWidth (8 : Nat) (x >>> (32 : Nat) >>> (16 : Nat))).toNat (OfNat.ofNat (0 : Nat))).toNat :
              Int)))),
    []) := by kernel_rfl
theorem len_yny (x : BitVec 64) :
  execFD Pr (withAsm OW4 [((3 : Nat), true), ((7 : Nat), false), ((13 : Nat), true)]) noLoops [] (100 : Nat)
  Go.Proofs.Tryd.f126 [V.u64 x] [] =
  some
  (decide (BitVec.ofInt (64 : Nat) (4294967296 : Int) ≤ x) && true && true &&
        (!decide (BitVec.ofInt (64 : Nat) (65536 : Int) ≤ x >>> (32 : Nat)) && true && true &&
          (decide (BitVec.ofInt (64 : Nat) (256 : Int) ≤ x >>> (32 : Nat)) && true && true &&
            (decide ((↑(BitVec.setWidth (8 : Nat) (x >>> (32 : Nat) >>> (8 : Nat))).toNat : Int) < (256 : Int)) &&
                true &&
              true))) &&
      true,
    Fin.ret
      (V.int IntKind.i64
        (wrapI IntKind.i64
          ((40 : Int) +
            (↑(lenTab.getD
                    (BitVec.setWidth (8 : Nat) (x >>> (32 : Nat) >>> (8 : Nat))).toNat (OfNat.ofNat (0 : Nat))).toNat :
              Int)))),
    []) := by kernel_rfl
theorem len_ynn (x : BitVec 64) :
  execFD Pr (withAsm OW4 [((3 : Nat), true), ((7 : Nat), false), ((13 : Nat), false)]) noLoops [] (100 : Nat)
  Go.Proofs.Tryd.f126 [V.u64 x] [] =
  some
  (decide (BitVec.ofInt (64 : Nat) (4294967296 : Int) ≤ x) && true && true &&
        (!decide (BitVec.ofInt (64 : Nat) (65536 : Int) ≤ x >>> (32 : Nat)) && true && true &&
          (!decide (BitVec.ofInt (64 : Nat) (256 : Int) ≤ x >>> (32 : Nat)) && true && true &&
            (decide ((↑(BitVec.setWidth (8 : Nat) (x >>> (32 : Nat))).toNat : Int) < (256 : Int)) && true && true))) &&
      true,
    Fin.ret
      (V.int IntKind.i64
        (wrapI IntKind.i64
          ((32 : Int) +
            (↑(lenTab.getD
                    (BitVec.setWidth (8 : Nat) (x >>> (32 : Nat))).toNat (OfNat.ofNat (0 : Nat))).toNat :
              Int)))),
    []) := by kernel_rfl
theorem len_nyy (x : BitVec 64) :
  execFD Pr (withAsm OW4 [((3 : Nat), false), ((7 : Nat), true), ((13 : Nat), true)]) noLoops [] (100 : Nat)
  Go.Proofs.Tryd.f126 [V.u64 x] [] =
  some
  (!decide (BitVec.ofInt (64 : Nat) (4294967296 : Int) ≤ x) && true && true &&
        (decide (BitVec.ofInt (64 : Nat) (65536 : Int) ≤ x) && true && true &&
          (decide (BitVec.ofInt (64 : Nat) (256 : Int) ≤ x >>> (16 : Nat)) && true && true &&
            (decide ((↑(BitVec.setWidth (8 : Nat) (x >>> (16 : Nat) >>> (8 : Nat))).toNat : Int) < (256 : Int)) &&
                true &&
              true))) &&
      true,
    Fin.ret
      (V.int IntKind.i64
        (wrapI IntKind.i64
          ((24 : Int) +
            (↑(lenTab.getD
                    (BitVec.setWidth (8 : Nat) (x >>> (16 : Nat) >>> (8 : Nat))).toNat (OfNat.ofNat (0 : Nat))).toNat :
              Int)))),
    []) := by kernel_rfl
theorem len_nyn (x : BitVec 64) :
  execFD Pr (withAsm OW4 [((3 : Nat), false), ((7 : Nat), true), ((13 : Nat), false)]) noLoops [] (100 : Nat)
  Go.Proofs.Tryd.f126 [V.u64 x] [] =
  some
  (!decide (BitVec.ofInt (64 : Nat) (4294967296 : Int) ≤ x) && true && true &&
        (decide (BitVec.ofInt (64 : Nat) (65536 : Int) ≤ x) && true && true &&
          (!decide (BitVec.ofInt (64 : Nat) (256 : Int) ≤ x >>> (16 : Nat)) && true && true &&
            (decide ((↑(BitVec.setWidth (8 : Nat) (x >>> (16 : Nat))).toNat : Int) < (256 : Int)) && true && true))) &&
      true,
    Fin.ret
      (V.int IntKind.i64
        (wrapI IntKind.i64
          ((16 : Int) +
            (↑(lenTab.getD
                    (BitVec.setWidth (8 : Nat) (x >>> (16 : Nat))).toNat (OfNat.ofNat (0 : Nat))).toNat :
              Int)))),
    []) := by kernel_rfl
theorem len_nny (x : BitVec 64) :
  execFD Pr (withAsm OW4 [((3 : Nat), false), ((7 : Nat), false), ((13 : Nat), true)]) noLoops [] (100 : Nat)
  Go.Proofs.Tryd.f126 [V.u64 x] [] =
  some
  (!decide (BitVec.ofInt (64 : Nat) (4294967296 : Int) ≤ x) && true && true &&
        (!decide (BitVec.ofInt (64 : Nat) (65536 : Int) ≤ x) && true && true &&
          (decide (BitVec.ofInt (64 : Nat) (256 : Int) ≤ x) && true && true &&
            (decide ((↑(BitVec.setWidth (8 : Nat) (x >>> (8 : Nat))).toNat : Int) < (256 : Int)) && true && true))) &&
      true,
    Fin.ret
      (V.int IntKind.i64
        (wrapI IntKind.i64
          ((8 : Int) +
            (↑(lenTab.getD
                    (BitVec.setWidth (8 : Nat) (x >>> (8 : Nat))).toNat (OfNat.ofNat (0 : Nat))).toNat :
              Int)))),
    []) := by kernel_rfl
theorem len_nnn (x : BitVec 64) :
  execFD Pr (withAsm OW4 [((3 : Nat), false), ((7 : Nat), false), ((13 : Nat), false)]) noLoops [] (100 : Nat)
  Go.Proofs.Tryd.f126 [V.u64 x] [] =
  some
  (!decide (BitVec.ofInt (64 : Nat) (4294967296 : Int) ≤ x) && true && true &&
        (!decide (BitVec.ofInt (64 : Nat) (65536 : Int) ≤ x) && true && true &&
          (!decide (BitVec.ofInt (64 : Nat) (256 : Int) ≤ x) && true && true &&
            (decide ((↑(BitVec.setWidth (8 : Nat) x).toNat : Int) < (256 : Int)) && true && true))) &&
      true,
    Fin.ret
      (V.int IntKind.i64
        (wrapI IntKind.i64
          ((0 : Int) +
            (↑(lenTab.getD
                    (BitVec.setWidth (8 : Nat) x).toNat (OfNat.ofNat (0 : Nat))).toNat :
              Int)))),
    []) := by kernel_rfl
end
end Go.Proofs.YtajbaocfdlopbaaDoor.K
end
section
open Go Go.Lh
namespace Go.Proofs.YtajbaocfdlopbaaDoor.K
noncomputable section
set_option maxRecDepth 100000
def lenN (n : Nat) : Nat := if n = 0 then 0 else Nat.log2 n + 1
theorem lenN_half {n : Nat} (h : 1 ≤ n) : lenN n = lenN (n / 2) + 1 := by
  unfold lenN
  rw [if_neg (by omega)]
  by_cases h2 : n / 2 = 0
  · have : n = 1 := by omega
    subst this
    rfl
  · rw [if_neg h2, Nat.log2_def, if_pos (by omega)]
theorem lenN_shift {s : Nat} : ∀ {n : Nat}, 2 ^ s ≤ n → lenN n = lenN (n / 2 ^ s) + s := by
  induction s with
  | zero => intro n h; simp
  | succ s ih =>
    intro n h
    have e : 2 ^ (s + 1) = 2 * 2 ^ s := by rw [Nat.pow_succ, Nat.mul_comm]
    have p : 0 < 2 ^ s := Nat.two_pow_pos s
    rw [e] at h ⊢
    rw [lenN_half (by omega), ih (by omega), Nat.div_div_eq_div_mul]
    omega
theorem tab_all : (List.range 256).all (fun i => (lenTab.getD i (OfNat.ofNat 0)).toNat == lenN i && Nat.ble (lenN i) 8) = true := by kernel_rfl
theorem lenIx {y : BitVec 64} (h : y.toNat < 256) : (lenTab.getD (BitVec.setWidth 8 y).toNat (OfNat.ofNat 0)).toNat = lenN y.toNat ∧ lenN y.toNat ≤ 8 := by
  have e : (BitVec.setWidth 8 y).toNat = y.toNat := by rw [BitVec.toNat_setWidth, Nat.mod_eq_of_lt h]
  have := List.all_eq_true.1 tab_all y.toNat (List.mem_range.2 h)
  simp only [Bool.and_eq_true, beq_iff_eq] at this
  rw [e]
  exact ⟨this.1, Nat.le_of_ble_eq_true this.2⟩
theorem sh_n (x : BitVec 64) (s : Nat) : (x >>> s).toNat = x.toNat / 2 ^ s := by rw [BitVec.toNat_ushiftRight, Nat.shiftRight_eq_div_pow]
theorem b32 (x : BitVec 64) : (BitVec.ofInt 64 4294967296 ≤ x) = (4294967296 ≤ x.toNat) := rfl
theorem b16 (x : BitVec 64) : (BitVec.ofInt 64 65536 ≤ x) = (65536 ≤ x.toNat) := rfl
theorem b8 (x : BitVec 64) : (BitVec.ofInt 64 256 ≤ x) = (256 ≤ x.toNat) := rfl
theorem len_end (c k m : Nat) (h : k ≤ 8) (hc : c ≤ 100) (e : m = k + c) : wrapI .i64 ((c : Int) + (k : Int)) = (m : Int) := by
  rw [wrapI_in (by omega) (by omega), e]; omega
theorem len64_fn (x : BitVec 64) : LFn Pr 126 [.u64 x] [] (.ret (.int .i64 (lenN x.toNat : Nat))) [] := by
  have hx := x.isLt
  by_cases h0 : 4294967296 ≤ x.toNat
  · skip
    by_cases h1 : 65536 ≤ (x >>> 32).toNat
    · skip
      by_cases h2 : 256 ≤ ((x >>> 32) >>> 16).toNat
      · skip
        have h4 : (((x >>> 32) >>> 16) >>> 8).toNat < 256 := by (try simp only [sh_n] at *); omega
        obtain ⟨t1, t2⟩ := lenIx h4
        have e0 : lenN x.toNat = lenN (x >>> 32).toNat + 32 := by rw [sh_n x 32]; exact lenN_shift (s := 32) (by omega)
        have e1 : lenN (x >>> 32).toNat = lenN ((x >>> 32) >>> 16).toNat + 16 := by rw [sh_n (x >>> 32) 16]; exact lenN_shift (s := 16) (by omega)
        have e2 : lenN ((x >>> 32) >>> 16).toNat = lenN (((x >>> 32) >>> 16) >>> 8).toNat + 8 := by rw [sh_n ((x >>> 32) >>> 16) 8]; exact lenN_shift (s := 8) (by omega)
        refine execFD_sound (fn := Go.Proofs.Tryd.f126) (withAsm_sound OW4_sound) mixed (by kernel_rfl) (fun _ _ _ _ => LoopOk.none) ((len_yyy x).trans (stF ?_ ?_ rfl))
        · simp only [b32, b16, b8, Bool.and_eq_true, Bool.and_true, decide_eq_true_eq, Bool.not_eq_true', decide_eq_false_iff_not, BitVec.toNat_setWidth]
          refine ⟨by omega, by omega, by omega, by omega⟩
        · rw [t1]
          exact congrArg (fun z => Fin.ret (V.int IntKind.i64 z)) (len_end 56 _ _ t2 (by omega) (by omega))
      · skip
        have h4 : ((x >>> 32) >>> 16).toNat < 256 := by (try simp only [sh_n] at *); omega
        obtain ⟨t1, t2⟩ := lenIx h4
        have e0 : lenN x.toNat = lenN (x >>> 32).toNat + 32 := by rw [sh_n x 32]; exact lenN_shift (s := 32) (by omega)
        have e1 : lenN (x >>> 32).toNat = lenN ((x >>> 32) >>> 16).toNat + 16 := by rw [sh_n (x >>> 32) 16]; exact lenN_shift (s := 16) (by omega)
        refine execFD_sound (fn := Go.Proofs.Tryd.f126) (withAsm_sound OW4_sound) mixed (by kernel_rfl) (fun _ _ _ _ => LoopOk.none) ((len_yyn x).trans (stF ?_ ?_ rfl))
        · simp only [b32, b16, b8, Bool.and_eq_true, Bool.and_true, decide_eq_true_eq, Bool.not_eq_true', decide_eq_false_iff_not, BitVec.toNat_setWidth]
          refine ⟨by omega, by omega, by omega, by omega⟩
        · rw [t1]
          exact congrArg (fun z => Fin.ret (V.int IntKind.i64 z)) (len_end 48 _ _ t2 (by omega) (by omega))
    · skip
      by_cases h2 : 256 ≤ (x >>> 32).toNat
      · skip
        have h4 : ((x >>> 32) >>> 8).toNat < 256 := by (try simp only [sh_n] at *); omega
        obtain ⟨t1, t2⟩ := lenIx h4
        have e0 : lenN x.toNat = lenN (x >>> 32).toNat + 32 := by rw [sh_n x 32]; exact lenN_shift (s := 32) (by omega)
        have e2 : lenN (x >>> 32).toNat = lenN ((x >>> 32) >>> 8).toNat + 8 := by rw [sh_n (x >>> 32) 8]; exact lenN_shift (s := 8) (by omega)
        refine execFD_sound (fn := Go.Proofs.Tryd.f126) (withAsm_sound OW4_sound) mixed (by kernel_rfl) (fun _ _ _ _ => LoopOk.none) ((len_yny x).trans (stF ?_ ?_ rfl))
        · simp only [b32, b16, b8, Bool.and_eq_true, Bool.and_true, decide_eq_true_eq, Bool.not_eq_true', decide_eq_false_iff_not, BitVec.toNat_setWidth]
          refine ⟨by omega, by omega, by omega, by omega⟩
        · rw [t1]
          exact congrArg (fun z => Fin.ret (V.int IntKind.i64 z)) (len_end 40 _ _ t2 (by omega) (by omega))
      · skip
        have h4 : (x >>> 32).toNat < 256 := by (try simp only [sh_n] at *); omega
        obtain ⟨t1, t2⟩ := lenIx h4
        have e0 : lenN x.toNat = lenN (x >>> 32).toNat + 32 := by rw [sh_n x 32]; exact lenN_shift (s := 32) (by omega)
        refine execFD_sound (fn := Go.Proofs.Tryd.f126) (withAsm_sound OW4_sound) mixed (by kernel_rfl) (fun _ _ _ _ => LoopOk.none) ((len_ynn x).trans (stF ?_ ?_ rfl))
        · simp only [b32, b16, b8, Bool.and_eq_true, Bool.and_true, decide_eq_true_eq, Bool.not_eq_true', decide_eq_false_iff_not, BitVec.toNat_setWidth]
          refine ⟨by omega, by omega, by omega, by omega⟩
        · rw [t1]
          exact congrArg (fun z => Fin.ret (V.int IntKind.i64 z)) (len_end 32 _ _ t2 (by omega) (by omega))
  · skip
    by_cases h1 : 65536 ≤ x.toNat
    · skip
      by_cases h2 : 256 ≤ (x >>> 16).toNat
      · skip
        have h4 : ((x >>> 16) >>> 8).toNat < 256 := by (try simp only [sh_n] at *); omega
        obtain ⟨t1, t2⟩ := lenIx h4
        have e1 : lenN x.toNat = lenN (x >>> 16).toNat + 16 := by rw [sh_n x 16]; exact lenN_shift (s := 16) (by omega)
        have e2 : lenN (x >>> 16).toNat = lenN ((x >>> 16) >>> 8).toNat + 8 := by rw [sh_n (x >>> 16) 8]; exact lenN_shift (s := 8) (by omega)
        refine execFD_sound (fn := Go.Proofs.Tryd.f126) (withAsm_sound OW4_sound) mixed (by kernel_rfl) (fun _ _ _ _ => LoopOk.none) ((len_nyy x).trans (stF ?_ ?_ rfl))
        · simp only [b32, b16, b8, Bool.and_eq_true, Bool.and_true, decide_eq_true_eq, Bool.not_eq_true', decide_eq_false_iff_not, BitVec.toNat_setWidth]
          refine ⟨by omega, by omega, by omega, by omega⟩
        · rw [t1]
          exact congrArg (fun z => Fin.ret (V.int IntKind.i64 z)) (len_end 24 _ _ t2 (by omega) (by omega))
      · skip
        have h4 : (x >>> 16).toNat < 256 := by (try simp only [sh_n] at *); omega
        obtain ⟨t1, t2⟩ := lenIx h4
        have e1 : lenN x.toNat = lenN (x >>> 16).toNat + 16 := by rw [sh_n x 16]; exact lenN_shift (s := 16) (by omega)
        refine execFD_sound (fn := Go.Proofs.Tryd.f126) (withAsm_sound OW4_sound) mixed (by kernel_rfl) (fun _ _ _ _ => LoopOk.none) ((len_nyn x).trans (stF ?_ ?_ rfl))
        · simp only [b32, b16, b8, Bool.and_eq_true, Bool.and_true, decide_eq_true_eq, Bool.not_eq_true', decide_eq_false_iff_not, BitVec.toNat_setWidth]
          refine ⟨by omega, by omega, by omega, by omega⟩
        · rw [t1]
          exact congrArg (fun z => Fin.ret (V.int IntKind.i64 z)) (len_end 16 _ _ t2 (by omega) (by omega))
    · skip
      by_cases h2 : 256 ≤ x.toNat
      · skip
        have h4 : (x >>> 8).toNat < 256 := by (try simp only [sh_n] at *); omega
        obtain ⟨t1, t2⟩ := lenIx h4
        have e2 : lenN x.toNat = lenN (x >>> 8).toNat + 8 := by rw [sh_n x 8]; exact lenN_shift (s := 8) (by omega)
        refine execFD_sound (fn := Go.Proofs.Tryd.f126) (withAsm_sound OW4_sound) mixed (by kernel_rfl) (fun _ _ _ _ => LoopOk.none) ((len_nny x).trans (stF ?_ ?_ rfl))
        · simp only [b32, b16, b8, Bool.and_eq_true, Bool.and_true, decide_eq_true_eq, Bool.not_eq_true', decide_eq_false_iff_not, BitVec.toNat_setWidth]
          refine ⟨by omega, by omega, by omega, by omega⟩
        · rw [t1]
          exact congrArg (fun z => Fin.ret (V.int IntKind.i64 z)) (len_end 8 _ _ t2 (by omega) (by omega))
      · skip
        have h4 : x.toNat < 256 := by (try simp only [sh_n] at *); omega
        obtain ⟨t1, t2⟩ := lenIx h4
        refine execFD_sound (fn := Go.Proofs.Tryd.f126) (withAsm_sound OW4_sound) mixed (by kernel_rfl) (fun _ _ _ _ => LoopOk.none) ((len_nnn x).trans (stF ?_ ?_ rfl))
        · simp only [b32, b16, b8, Bool.and_eq_true, Bool.and_true, decide_eq_true_eq, Bool.not_eq_true', decide_eq_false_iff_not, BitVec.toNat_setWidth]
          refine ⟨by omega, by omega, by omega, by omega⟩
        · rw [t1]
          exact congrArg (fun z => Fin.ret (V.int IntKind.i64 z)) (len_end 0 _ _ t2 (by omega) (by omega))
end
end Go.Proofs.YtajbaocfdlopbaaDoor.K
end
section
open Go Go.Lh
namespace Go.Proofs.YtajbaocfdlopbaaDoor.K
noncomputable section
set_option maxRecDepth 100000
def len64_g := ctU (fun x => .int .i64 (lenN x.toNat : Nat))
theorem len64_en : Enters Pr 126 := Enters.of (fn := Go.Proofs.Tryd.f126) (by kernel_rfl) (by kernel_rfl)
def OW6 : Orc := auto Pr ext [(126, len64_g)] [77] 3
theorem OW6_sound : OrcSound Pr OW6 := auto_sound mixed ext_ok (KOk.cons len64_en (ctU_ok len64_fn) KOk.nil) (by kernel_rfl) 3
theorem lngN (ls : List (BitVec 64)) (i : Int) :
  execN Pr (withAsm OW6 [((7 : Nat), true), ((13 : Nat), false)]) noLoops [] (100 : Nat) (0 : Nat)
  [(2 : Nat), (3 : Nat), (4 : Nat)] (loopBody Go.Proofs.Tryd.f114 (0 : Nat))
  [((2 : Nat), V.int IntKind.i64 (0 : Int)), ((3 : Nat), V.ptr (0 : Nat) (0 : Nat)), ((4 : Nat), V.int IntKind.i64 i)]
  [Blk.b64 ls] =
  some
  (decide (i ≥ (0 : Int)) && true && true &&
      (decide ((0 : Int) ≤ i) && decide (i < (4 : Int)) &&
            (decide ((0 : Nat) + i.toNat * (1 : Nat) < ls.length) &&
              (!ls.getD ((0 : Nat) + i.toNat * (1 : Nat)) (OfNat.ofNat (0 : Nat)) !=
                    BitVec.ofInt (64 : Nat) (0 : Int) &&
                true)) &&
          true &&
        true),
    X.normal,
    [((2 : Nat), V.int IntKind.i64 (0 : Int)), ((3 : Nat), V.ptr (0 : Nat) (0 : Nat)),
      ((4 : Nat), V.int IntKind.i64 (wrapI IntKind.i64 (i - (1 : Int))))],
    [Blk.b64 ls]) := by kernel_rfl
theorem lngR (ls : List (BitVec 64)) (i : Int) :
  execN Pr (withAsm OW6 [((7 : Nat), true), ((13 : Nat), true)]) noLoops [] (100 : Nat) (0 : Nat) [(2 : Nat)]
  (loopBody Go.Proofs.Tryd.f114 (0 : Nat))
  [((2 : Nat), V.int IntKind.i64 (0 : Int)), ((3 : Nat), V.ptr (0 : Nat) (0 : Nat)), ((4 : Nat), V.int IntKind.i64 i)]
  [Blk.b64 ls] =
  some
  (decide (i ≥ (0 : Int)) && true && true &&
      (decide ((0 : Int) ≤ i) && decide (i < (4 : Int)) &&
          (decide ((0 : Nat) + i.toNat * (1 : Nat) < ls.length) &&
            (ls.getD ((0 : Nat) + i.toNat * (1 : Nat)) (OfNat.ofNat (0 : Nat)) != BitVec.ofInt (64 : Nat) (0 : Int) &&
              true)) &&
        (decide ((0 : Int) ≤ i) && decide (i < (4 : Int)) &&
            (decide ((0 : Nat) + i.toNat * (1 : Nat) < ls.length) && true) &&
          true)),
    X.ret,
    [((2 : Nat),
        V.int IntKind.i64
          (wrapI IntKind.i64
            (wrapI IntKind.i64 ((64 : Int) * i) +
              (↑(lenN (ls.getD ((0 : Nat) + i.toNat * (1 : Nat)) (OfNat.ofNat (0 : Nat))).toNat) : Int))))],
    []) := by kernel_rfl
theorem lngX (ls : List (BitVec 64)) (i : Int) :
  execN Pr (withAsm OW6 [((7 : Nat), false)]) noLoops [] (100 : Nat) (0 : Nat) [(2 : Nat)]
  (loopBody Go.Proofs.Tryd.f114 (0 : Nat))
  [((2 : Nat), V.int IntKind.i64 (0 : Int)), ((3 : Nat), V.ptr (0 : Nat) (0 : Nat)), ((4 : Nat), V.int IntKind.i64 i)]
  [Blk.b64 ls] =
  some
  (!decide (i ≥ (0 : Int)) && true && true, X.exit (0 : Nat), [((2 : Nat), V.int IntKind.i64 (0 : Int))],
    []) := by kernel_rfl
structure LV where
  ls : List (BitVec 64)
  t : Int
  i : Int
def lenL (ls : List (BitVec 64)) : Nat → Nat
  | 0 => 0
  | j + 1 => if ls.getD j 0 = 0 then lenL ls j else 64 * j + lenN (ls.getD j 0).toNat
def lng_S : LV → Fr × Heap := fun a => ([(2,.int .i64 a.t),(3,.ptr 0 0),(4,.int .i64 a.i)], [.b64 a.ls])
def lng_read : Fr → Heap → Option LV := fun f h => match f, h with
  | [(2,.int .i64 t),(3,.ptr 0 0),(4,.int .i64 i)], [.b64 ls] => some ⟨ls, t, i⟩
  | _, _ => none
def lng_k : Nat := 0
def lng1_ok : LV → Bool := fun a => decide (a.ls.length = 4) && decide (a.t = 0) && decide (-1 ≤ a.i) && decide (a.i ≤ 3) && decide (lenL a.ls (a.i + 1).toNat ≠ 0)
def lng1_E : LV → X × Fr × Heap := fun a => (.ret, [(2,.int .i64 ((lenL a.ls (a.i + 1).toNat : Nat) : Int))], [])
def lng1_s : Sm := whS 3 [2,3,4] lng_read lng1_ok lng1_E
def lng0_ok : LV → Bool := fun a => decide (a.ls.length = 4) && decide (a.t = 0) && decide (-1 ≤ a.i) && decide (a.i ≤ 3) && decide (lenL a.ls (a.i + 1).toNat = 0)
def lng0_E : LV → X × Fr × Heap := fun a => (.exit 0, [(2,.int .i64 0)], [])
def lng0_s : Sm := whS 3 [2,3,4] lng_read lng0_ok lng0_E
theorem lenN_pos {x : BitVec 64} (h : ¬ x = 0) : 1 ≤ lenN x.toNat := by
  unfold lenN
  rw [if_neg]
  · omega
  · intro e; exact h (BitVec.eq_of_toNat_eq e)
theorem lenN_lt (n : Nat) : n < 2 ^ lenN n := by
  unfold lenN
  split
  · omega
  · exact Nat.lt_log2_self
theorem lenN_le {n : Nat} (h : n ≠ 0) : 2 ^ (lenN n - 1) ≤ n := by
  unfold lenN
  rw [if_neg h]
  exact Nat.log2_self_le h
theorem lenN_max {n k : Nat} (h : n < 2 ^ k) : lenN n ≤ k := by
  by_cases e : n = 0
  · subst e; simp [lenN]
  · have := Nat.lt_of_le_of_lt (lenN_le e) h
    have := (Nat.pow_lt_pow_iff_right (a := 2) (by omega)).1 this
    omega
theorem lng_round (a : LV) (h1 : a.ls.length = 4) (h2 : a.t = 0) (h3 : -1 ≤ a.i) (h4 : a.i ≤ 3) :
    (a.i = -1 ∧ Runs Pr (Func.ntmps Go.Proofs.Tryd.f114) 0 (loopBody Go.Proofs.Tryd.f114 0) (lng_S a).1 (lng_S a).2 (EndW (Func.ntmps Go.Proofs.Tryd.f114) 0 (.exit 0) [(2,.int .i64 0)] [])) ∨
    (∃ j : Nat, a.i = (j : Int) ∧ a.ls.getD j 0 = 0 ∧ Runs Pr (Func.ntmps Go.Proofs.Tryd.f114) 0 (loopBody Go.Proofs.Tryd.f114 0) (lng_S a).1 (lng_S a).2 (EndW (Func.ntmps Go.Proofs.Tryd.f114) 0 .normal (lng_S ⟨a.ls, 0, (j : Int) - 1⟩).1 (lng_S ⟨a.ls, 0, (j : Int) - 1⟩).2)) ∨
    (∃ j : Nat, a.i = (j : Int) ∧ ¬ a.ls.getD j 0 = 0 ∧ Runs Pr (Func.ntmps Go.Proofs.Tryd.f114) 0 (loopBody Go.Proofs.Tryd.f114 0) (lng_S a).1 (lng_S a).2 (EndW (Func.ntmps Go.Proofs.Tryd.f114) 0 .ret [(2,.int .i64 ((64 * j + lenN (a.ls.getD j 0).toNat : Nat) : Int))] [])) := by
  obtain ⟨ls, t, i⟩ := a
  simp only at h1 h2 h3 h4
  subst h2
  by_cases hi : 0 ≤ i
  · obtain ⟨j, rfl⟩ : ∃ j : Nat, i = (j : Int) := ⟨i.toNat, by omega⟩
    have ew : wrapI .i64 ((j : Int) - 1) = (j : Int) - 1 := wrapI_in (by omega) (by omega)
    have e1 : (j : Int).toNat = j := rfl
    by_cases hz : ls.getD j 0 = 0
    · refine .inr (.inl ⟨j, rfl, hz, execN_sound (withAsm_sound OW6_sound) mixed (LoopsOk.innerAt (LoopsOk.none (P := Pr) (fn := Go.Proofs.Tryd.f114) (n0 := 0)) 0) (by kernel_rfl) (by intro v h; cases h) ((lngN ls j).trans (stX ?_ ?_ rfl))⟩)
      · have hz2 : ls.getD j (OfNat.ofNat 0) = BitVec.ofInt 64 0 := hz
        simp only [e1, Nat.mul_one, Nat.zero_add, hz2, h1]
        simp
        omega
      · rw [ew]; rfl
    · have hx := (ls.getD j 0).isLt
      have hm := lenN_max hx
      refine .inr (.inr ⟨j, rfl, hz, execN_sound (withAsm_sound OW6_sound) mixed (LoopsOk.innerAt (LoopsOk.none (P := Pr) (fn := Go.Proofs.Tryd.f114) (n0 := 0)) 0) (by kernel_rfl) (by intro v h; cases h) ((lngR ls j).trans (stX ?_ ?_ rfl))⟩)
      · have hz2 : (ls.getD j (OfNat.ofNat 0) != BitVec.ofInt 64 0) = true := by rw [bne_iff_ne]; exact hz
        simp only [e1, Nat.mul_one, Nat.zero_add, hz2, h1, always]
        simp
        omega
      · simp only [e1, Nat.mul_one, Nat.zero_add]
        have eq : wrapI .i64 (wrapI .i64 ((64 : Int) * (j : Int)) + ((lenN (ls.getD j 0).toNat : Nat) : Int)) = ((64 * j + lenN (ls.getD j 0).toNat : Nat) : Int) := by
          rw [wrapI_in (x := 64 * (j : Int)) (by omega) (by omega), wrapI_in (by omega) (by omega)]; omega
        exact congrArg (fun z => [(2, V.int IntKind.i64 z)]) eq
  · obtain rfl : i = -1 := by omega
    exact .inl ⟨rfl, execN_sound (withAsm_sound OW6_sound) mixed (LoopsOk.innerAt (LoopsOk.none (P := Pr) (fn := Go.Proofs.Tryd.f114) (n0 := 0)) 0) (by kernel_rfl) (by intro v h; cases h) ((lngX ls (-1)).trans (stX rfl rfl rfl))⟩
theorem lng_hr : ∀ f g a, lng_read f g = some a → (f, g) = lng_S a := by
  intro f g a h
  unfold lng_read at h
  split at h <;> cases h
  rfl
theorem lng_e (j : Nat) : ((j : Int) + 1).toNat = j + 1 ∧ ((j : Int) - 1 + 1).toNat = j := by omega
theorem lng1_at : SmAt Pr Go.Proofs.Tryd.f114 0 lng1_s lng_k := by
  refine whS_at lng_S (fun a => (a.i + 1).toNat) (by kernel_rfl) (by kernel_rfl) lng_hr ?_
  intro a hok
  obtain ⟨ls, t, i⟩ := a
  simp only [lng1_ok, Bool.and_eq_true, decide_eq_true_eq] at hok
  obtain ⟨⟨⟨⟨h1, h2⟩, h3⟩, h4⟩, h5⟩ := hok
  rcases lng_round ⟨ls, t, i⟩ h1 h2 h3 h4 with ⟨e, _⟩ | ⟨j, e, hz, run⟩ | ⟨j, e, hz, run⟩ <;> simp only at e <;> subst e
  · exact (h5 rfl).elim
  · obtain ⟨q1, q2⟩ := lng_e j
    have hl : lenL ls (j + 1) = lenL ls j := by rw [lenL, if_pos hz]
    rw [q1, hl] at h5
    refine .inl ⟨_, ?_, ?_, ?_, run⟩
    · simp only [lng1_ok, Bool.and_eq_true, decide_eq_true_eq]
      refine ⟨⟨⟨⟨h1, by first | exact True.intro | rfl⟩, by omega⟩, by omega⟩, ?_⟩
      rw [q2]; exact h5
    · simp only; omega
    · simp only [lng1_E, q1, q2, hl]
  · obtain ⟨q1, q2⟩ := lng_e j
    refine .inr ⟨by simp [lng1_E], ?_⟩
    have hl : lenL ls (j + 1) = 64 * j + lenN (ls.getD j 0).toNat := by rw [lenL, if_neg hz]
    simp only [lng1_E, q1, hl]
    exact run
theorem lng0_at : SmAt Pr Go.Proofs.Tryd.f114 0 lng0_s lng_k := by
  refine whS_at lng_S (fun a => (a.i + 1).toNat) (by kernel_rfl) (by kernel_rfl) lng_hr ?_
  intro a hok
  obtain ⟨ls, t, i⟩ := a
  simp only [lng0_ok, Bool.and_eq_true, decide_eq_true_eq] at hok
  obtain ⟨⟨⟨⟨h1, h2⟩, h3⟩, h4⟩, h5⟩ := hok
  rcases lng_round ⟨ls, t, i⟩ h1 h2 h3 h4 with ⟨e, run⟩ | ⟨j, e, hz, run⟩ | ⟨j, e, hz, run⟩ <;> simp only at e <;> subst e
  · exact .inr ⟨by simp [lng0_E], run⟩
  · obtain ⟨q1, q2⟩ := lng_e j
    have hl : lenL ls (j + 1) = lenL ls j := by rw [lenL, if_pos hz]
    rw [q1, hl] at h5
    refine .inl ⟨⟨ls, 0, (j : Int) - 1⟩, ?_, ?_, rfl, run⟩
    · simp only [lng0_ok, Bool.and_eq_true, decide_eq_true_eq]
      refine ⟨⟨⟨⟨h1, by first | exact True.intro | rfl⟩, by omega⟩, by omega⟩, ?_⟩
      rw [q2]; exact h5
    · simp only; omega
  · obtain ⟨q1, q2⟩ := lng_e j
    have hl : lenL ls (j + 1) = 64 * j + lenN (ls.getD j 0).toNat := by rw [lenL, if_neg hz]
    have : 1 ≤ lenN (ls.getD j 0).toNat := lenN_pos hz
    rw [q1, hl] at h5
    omega
def OW6a : Orc := auto Pr ext [] [77] 3
theorem OW6a_sound : OrcSound Pr OW6a := auto_sound mixed ext_ok KOk.nil (by kernel_rfl) 3
theorem lng1L : LoopsOk Pr Go.Proofs.Tryd.f114 0 (smL 0 [lng1_s]) := LoopsOk.of [(lng1_s, lng_k)] (by kernel_rfl) (by
  intro p hp
  simp only [List.mem_cons, List.not_mem_nil, or_false] at hp
  subst hp
  exact lng1_at)
theorem lng0L : LoopsOk Pr Go.Proofs.Tryd.f114 0 (smL 0 [lng0_s]) := LoopsOk.of [(lng0_s, lng_k)] (by kernel_rfl) (by
  intro p hp
  simp only [List.mem_cons, List.not_mem_nil, or_false] at hp
  subst hp
  exact lng0_at)
theorem lng1_x (x : W4) :
  execF Pr OW6a (smL (0 : Nat) [lng1_s]) (100 : Nat) Go.Proofs.Tryd.f114 [x.v] [] =
  some
  (lng1_ok (LV.mk [x.d, x.c, x.b, x.a] (0 : Int) (3 : Int)) && true,
    Fin.ret (V.int IntKind.i64 (↑(lenL [x.d, x.c, x.b, x.a] ((3 : Int) + (1 : Int)).toNat) : Int)), []) := by kernel_rfl
theorem lng0_x (x : W4) :
  execF Pr OW6a (smL (0 : Nat) [lng0_s]) (100 : Nat) Go.Proofs.Tryd.f114 [x.v] [] =
  some
  (lng0_ok (LV.mk [x.d, x.c, x.b, x.a] (0 : Int) (3 : Int)) && true && true, Fin.ret (V.int IntKind.i64 (0 : Int)),
    []) := by kernel_rfl
theorem len_split {a m s : Nat} (ha : a ≠ 0) (hm : m < 2 ^ s) : lenN (2 ^ s * a + m) = lenN a + s := by
  have p := Nat.two_pow_pos s
  rw [lenN_shift (s := s), Nat.mul_add_div p, Nat.div_eq_of_lt hm, Nat.add_zero]
  have : 2 ^ s * 1 ≤ 2 ^ s * a := Nat.mul_le_mul_left _ (by omega)
  omega
theorem zero_iff (x : BitVec 64) : (x = 0) ↔ x.toNat = 0 := ⟨fun h => by rw [h]; rfl, fun h => BitVec.eq_of_toNat_eq h⟩
theorem lenL_eq (x : W4) : lenL [x.d, x.c, x.b, x.a] 4 = lenN x.n := by
  have hb := x.b.isLt
  have hc := x.c.isLt
  have hd := x.d.isLt
  simp only [lenL, List.getD_cons_succ, List.getD_cons_zero, zero_iff]
  unfold W4.n
  by_cases h3 : x.a.toNat = 0
  · rw [if_pos h3, h3, Nat.mul_zero]; simp only [Nat.zero_add]
    by_cases h2 : x.b.toNat = 0
    · rw [if_pos h2, h2, Nat.mul_zero]; simp only [Nat.zero_add]
      by_cases h1 : x.c.toNat = 0
      · rw [if_pos h1, h1, Nat.mul_zero]; simp only [Nat.zero_add]
        by_cases h0 : x.d.toNat = 0
        · rw [if_pos h0, h0]; rfl
        · rw [if_neg h0]
      · rw [if_neg h1, len_split h1 (by omega)]; omega
    · rw [if_neg h2, len_split h2 (by omega)]; omega
  · rw [if_neg h3, len_split h3 (by omega)]; omega
theorem length_fn (x : W4) : LFn Pr 114 [x.v] [] (.ret (.int .i64 (lenN x.n : Nat))) [] := by
  have e := lenL_eq x
  by_cases h : lenL [x.d, x.c, x.b, x.a] 4 = 0
  · refine execF_sound (fn := Go.Proofs.Tryd.f114) OW6a_sound mixed (by kernel_rfl) lng0L ((lng0_x x).trans (stF ?_ ?_ rfl))
    · simp [lng0_ok]; exact h
    · rw [← e, h]; rfl
  · refine execF_sound (fn := Go.Proofs.Tryd.f114) OW6a_sound mixed (by kernel_rfl) lng1L ((lng1_x x).trans (stF ?_ ?_ rfl))
    · simp [lng1_ok]; exact h
    · rw [← e]; rfl
end
end Go.Proofs.YtajbaocfdlopbaaDoor.K
end
section
open Go Go.Lh
namespace Go.Proofs.YtajbaocfdlopbaaDoor.K
noncomputable section
set_option maxRecDepth 100000
def wl (x : W4) : List (BitVec 64) := [x.a, x.b, x.c, x.d]
def inRange (n : Int) : Bool := decide (0 ≤ n) && decide (n < 256)
def left_g := ctWI (fun _ n => inRange n) (fun x n => (W4.shl x n.toNat).v)
def less_g := ctWW (fun x y => .bool (W4.lt x y))
def sub_g := ctWW (fun x y => (W4.sub x y).v)
def or_g := ctWW (fun x y => (W4.orW x y).v)
def from_g := ctU (fun x => (W4.small x).v)
theorem left_en : Enters Pr 89 := Enters.of (fn := Go.Proofs.Tryd.f89) (by kernel_rfl) (by kernel_rfl)
theorem less_en : Enters Pr 18 := Enters.of (fn := Go.Proofs.Tryd.f18) (by kernel_rfl) (by kernel_rfl)
theorem sub_en : Enters Pr 20 := Enters.of (fn := Go.Proofs.Tryd.f20) (by kernel_rfl) (by kernel_rfl)
theorem or_en : Enters Pr 26 := Enters.of (fn := Go.Proofs.Tryd.f26) (by kernel_rfl) (by kernel_rfl)
theorem from_en : Enters Pr 23 := Enters.of (fn := Go.Proofs.Tryd.f23) (by kernel_rfl) (by kernel_rfl)
def OW7 : Orc := auto Pr ext [(89, left_g), (18, less_g), (20, sub_g), (26, or_g), (23, from_g)] [] 3
theorem OW7_sound : OrcSound Pr OW7 := auto_sound mixed ext_ok (KOk.cons left_en (ctWI_ok fun x n h => left_fn x n (by simp [inRange] at h; omega) (by simp [inRange] at h; omega)) (KOk.cons less_en (ctWW_ok less_fn) (KOk.cons sub_en (ctWW_ok sub_fn) (KOk.cons or_en (ctWW_ok or_fn) (KOk.cons from_en (ctU_ok from_fn) KOk.nil))))) (by kernel_rfl) 3
theorem dvY (b : W4) (q : W4) (r : W4) (n : Int) :
  execN Pr (withAsm OW7 [((19 : Nat), true)]) noLoops [((29 : Nat), true)] (100 : Nat) (0 : Nat)
  [(3 : Nat), (4 : Nat), (5 : Nat), (6 : Nat)] (loopBody Go.Proofs.Tryd.f96 (0 : Nat))
  [((3 : Nat), V.ptr (0 : Nat) (0 : Nat)), ((4 : Nat), V.ptr (1 : Nat) (0 : Nat)),
    ((5 : Nat), V.ptr (2 : Nat) (0 : Nat)), ((6 : Nat), V.int IntKind.i64 n)]
  [Blk.b64 [b.a, b.b, b.c, b.d], Blk.b64 [q.a, q.b, q.c, q.d], Blk.b64 [r.a, r.b, r.c, r.d]] =
  some
  (decide (n ≥ (0 : Int)) && true && true &&
      (inRange n && true && (!r.lt (b.shl n.toNat) && (inRange n && true)) && true),
    X.normal,
    [((3 : Nat), V.ptr (0 : Nat) (0 : Nat)), ((4 : Nat), V.ptr (1 : Nat) (0 : Nat)),
      ((5 : Nat), V.ptr (2 : Nat) (0 : Nat)), ((6 : Nat), V.int IntKind.i64 (wrapI IntKind.i64 (n - (1 : Int))))],
    [Blk.b64 [b.a, b.b, b.c, b.d],
      Blk.b64
        [(q.orW ((W4.small (BitVec.ofInt (64 : Nat) (1 : Int))).shl n.toNat)).a,
          (q.orW ((W4.small (BitVec.ofInt (64 : Nat) (1 : Int))).shl n.toNat)).b,
          (q.orW ((W4.small (BitVec.ofInt (64 : Nat) (1 : Int))).shl n.toNat)).c,
          (q.orW ((W4.small (BitVec.ofInt (64 : Nat) (1 : Int))).shl n.toNat)).d],
      Blk.b64
        [(r.sub (b.shl n.toNat)).a, (r.sub (b.shl n.toNat)).b, (r.sub (b.shl n.toNat)).c,
          (r.sub (b.shl n.toNat)).d]]) := by kernel_rfl
theorem dvN (b : W4) (q : W4) (r : W4) (n : Int) :
  execN Pr (withAsm OW7 [((19 : Nat), true)]) noLoops [((29 : Nat), false)] (100 : Nat) (0 : Nat)
  [(3 : Nat), (4 : Nat), (5 : Nat), (6 : Nat)] (loopBody Go.Proofs.Tryd.f96 (0 : Nat))
  [((3 : Nat), V.ptr (0 : Nat) (0 : Nat)), ((4 : Nat), V.ptr (1 : Nat) (0 : Nat)),
    ((5 : Nat), V.ptr (2 : Nat) (0 : Nat)), ((6 : Nat), V.int IntKind.i64 n)]
  [Blk.b64 [b.a, b.b, b.c, b.d], Blk.b64 [q.a, q.b, q.c, q.d], Blk.b64 [r.a, r.b, r.c, r.d]] =
  some
  (decide (n ≥ (0 : Int)) && true && true && (inRange n && true && (!!r.lt (b.shl n.toNat) && true) && true), X.normal,
    [((3 : Nat), V.ptr (0 : Nat) (0 : Nat)), ((4 : Nat), V.ptr (1 : Nat) (0 : Nat)),
      ((5 : Nat), V.ptr (2 : Nat) (0 : Nat)), ((6 : Nat), V.int IntKind.i64 (wrapI IntKind.i64 (n - (1 : Int))))],
    [Blk.b64 [b.a, b.b, b.c, b.d], Blk.b64 [q.a, q.b, q.c, q.d], Blk.b64 [r.a, r.b, r.c, r.d]]) := by kernel_rfl
theorem dvX (b : W4) (q : W4) (r : W4) (n : Int) :
  execN Pr (withAsm OW7 [((19 : Nat), false)]) noLoops [] (100 : Nat) (0 : Nat) [(4 : Nat), (5 : Nat)]
  (loopBody Go.Proofs.Tryd.f96 (0 : Nat))
  [((3 : Nat), V.ptr (0 : Nat) (0 : Nat)), ((4 : Nat), V.ptr (1 : Nat) (0 : Nat)),
    ((5 : Nat), V.ptr (2 : Nat) (0 : Nat)), ((6 : Nat), V.int IntKind.i64 n)]
  [Blk.b64 [b.a, b.b, b.c, b.d], Blk.b64 [q.a, q.b, q.c, q.d], Blk.b64 [r.a, r.b, r.c, r.d]] =
  some
  (!decide (n ≥ (0 : Int)) && true && true, X.exit (0 : Nat),
    [((4 : Nat), V.ptr (0 : Nat) (0 : Nat)), ((5 : Nat), V.ptr (1 : Nat) (0 : Nat))],
    [Blk.b64 [q.a, q.b, q.c, q.d], Blk.b64 [r.a, r.b, r.c, r.d]]) := by kernel_rfl
structure DV where
  b : W4
  q : W4
  r : W4
  n : Int
def dv_S : DV → Fr × Heap := fun a => ([(3,.ptr 0 0),(4,.ptr 1 0),(5,.ptr 2 0),(6,.int .i64 a.n)], [.b64 (wl a.b), .b64 (wl a.q), .b64 (wl a.r)])
def dv_read : Fr → Heap → Option DV := fun f h => match f, h with
  | [(3,.ptr 0 0),(4,.ptr 1 0),(5,.ptr 2 0),(6,.int .i64 n)], [.b64 [a1, a2, a3, a4], .b64 [b1, b2, b3, b4], .b64 [c1, c2, c3, c4]] => some ⟨⟨a1, a2, a3, a4⟩, ⟨b1, b2, b3, b4⟩, ⟨c1, c2, c3, c4⟩, n⟩
  | _, _ => none
def dv_ok : DV → Bool := fun a => decide (0 < a.b.n) && decide (-256 ≤ a.n) && decide (a.n < 256) && decide (a.r.n < a.b.n * 2 ^ (a.n + 1).toNat) && decide (a.q.n % 2 ^ (a.n + 1).toNat = 0) && decide (0 ≤ a.n → a.b.n * 2 ^ a.n.toNat < 2 ^ 256)
def qW (q r b : W4) : W4 := W4.of (BitVec.ofNat 256 (q.n + r.n / b.n))
def rW (r b : W4) : W4 := W4.of (BitVec.ofNat 256 (r.n % b.n))
def dv_E : DV → X × Fr × Heap := fun a => (.exit 0, [(4,.ptr 0 0),(5,.ptr 1 0)], [.b64 (wl (qW a.q a.r a.b)), .b64 (wl (rW a.r a.b))])
def dv_k : Nat := 0
def dv_s : Sm := whS 5 [3,4,5,6] dv_read dv_ok dv_E
theorem orW_n (x y : W4) : (W4.orW x y).n = x.n ||| y.n := by rw [← W4.bv_toNat, W4.orW_bv, BitVec.toNat_or, W4.bv_toNat, W4.bv_toNat]
theorem sub_n {x y : W4} (h : y.n ≤ x.n) : (W4.sub x y).n = x.n - y.n := by
  have hx := x.n_lt
  have hy := y.n_lt
  unfold W4.sub
  rw [W4.of_toNat, BitVec.toNat_sub, W4.bv_toNat, W4.bv_toNat]
  omega
theorem or_pow {x k : Nat} (h : x % 2 ^ (k + 1) = 0) : x ||| 2 ^ k = x + 2 ^ k := by
  have e : x = 2 ^ (k + 1) * (x / 2 ^ (k + 1)) := by have := Nat.div_add_mod x (2 ^ (k + 1)); omega
  rw [e]
  exact (Nat.two_pow_add_eq_or_of_lt (by rw [Nat.pow_succ]; have := Nat.two_pow_pos k; omega) _).symm
theorem or_left {x : W4} {k : Nat} (hk : k < 256) (h : x.n % 2 ^ (k + 1) = 0) : (W4.orW x (W4.shl (W4.small (BitVec.ofInt 64 1)) k)).n = x.n + 2 ^ k := by
  rw [orW_n, W4.shl_n, W4.small_n, show (BitVec.ofInt 64 1).toNat = 1 from rfl, Nat.one_mul, Nat.mod_eq_of_lt (Nat.pow_lt_pow_right (by omega) hk), or_pow h]
theorem of_self (x : W4) : W4.of (BitVec.ofNat 256 x.n) = x := by
  refine W4.ext_n ?_
  rw [W4.of_toNat, BitVec.toNat_ofNat, Nat.mod_eq_of_lt x.n_lt]
theorem step_div {q r b k : Nat} (hb : 0 < b) (h : b * 2 ^ k ≤ r) : (q + 2 ^ k) + (r - b * 2 ^ k) / b = q + r / b ∧ (r - b * 2 ^ k) % b = r % b := by
  obtain ⟨s, rfl⟩ : ∃ s, r = b * 2 ^ k + s := ⟨r - b * 2 ^ k, by omega⟩
  rw [show b * 2 ^ k + s - b * 2 ^ k = s by omega, Nat.mul_add_div hb, Nat.mul_add_mod]
  exact ⟨by omega, rfl⟩
theorem dv_at : SmAt Pr Go.Proofs.Tryd.f96 0 dv_s dv_k := by
  refine whS_at dv_S (fun a => (a.n + 1).toNat) (by kernel_rfl) (by kernel_rfl) ?_ ?_
  · intro f g a h
    unfold dv_read at h
    split at h <;> cases h
    rfl
  · intro a hok
    obtain ⟨b, q, r, n⟩ := a
    simp only [dv_ok, Bool.and_eq_true, decide_eq_true_eq] at hok
    obtain ⟨⟨⟨⟨⟨h1, h2⟩, h3⟩, h4⟩, h5⟩, h6⟩ := hok
    by_cases hn : 0 ≤ n
    · left
      obtain ⟨k, rfl⟩ : ∃ k : Nat, n = (k : Int) := ⟨n.toNat, by omega⟩
      have ek : ((k : Int) + 1).toNat = k + 1 := by omega
      have ek1 : ((k : Int) - 1 + 1).toNat = k := by omega
      have ew : wrapI .i64 ((k : Int) - 1) = (k : Int) - 1 := wrapI_in (by omega) (by omega)
      have e1 : (k : Int).toNat = k := rfl
      rw [ek] at h4 h5
      have h6 := h6 hn
      rw [e1] at h6
      have p2 : 2 ^ (k + 1) = 2 * 2 ^ k := by rw [Nat.pow_succ, Nat.mul_comm]
      have hm : b.n * 2 ^ (k + 1) = 2 * (b.n * 2 ^ k) := by rw [p2, Nat.mul_left_comm]
      have hs : (W4.shl b k).n = b.n * 2 ^ k := by rw [W4.shl_n, Nat.mod_eq_of_lt h6]
      have h7 : 0 ≤ (k : Int) - 1 → b.n * 2 ^ ((k : Int) - 1).toNat < 2 ^ 256 := by
        intro h0
        refine Nat.lt_of_le_of_lt (Nat.mul_le_mul_left _ (Nat.pow_le_pow_right (by omega) ?_)) h6
        omega
      have hq : q.n % 2 ^ k = 0 := by
        refine Nat.mod_eq_zero_of_dvd (Nat.dvd_trans ?_ (Nat.dvd_of_mod_eq_zero h5))
        exact Nat.pow_dvd_pow 2 (Nat.le_succ k)
      by_cases hl : b.n * 2 ^ k ≤ r.n
      · have hr := sub_n (x := r) (y := W4.shl b k) (by omega)
        rw [hs] at hr
        have ho := or_left (x := q) (by omega) h5
        obtain ⟨d1, d2⟩ := step_div (q := q.n) h1 hl
        refine ⟨⟨b, W4.orW q (W4.shl (W4.small (BitVec.ofInt 64 1)) k), W4.sub r (W4.shl b k), (k : Int) - 1⟩, ?_, ?_, ?_, ?_⟩
        · simp only [dv_ok, Bool.and_eq_true, decide_eq_true_eq]
          refine ⟨⟨⟨⟨⟨h1, by omega⟩, by omega⟩, ?_⟩, ?_⟩, h7⟩
          · rw [ek1, hr]; omega
          · rw [ek1, ho, Nat.add_mod_right, hq]
        · simp only; omega
        · simp only [dv_E, qW, rW, hr, ho, d1, d2]
        · refine execN_sound (withAsm_sound OW7_sound) mixed (LoopsOk.innerAt (LoopsOk.none (P := Pr) (fn := Go.Proofs.Tryd.f96) (n0 := 0)) 0) (by kernel_rfl) (by intro v h; cases h) ((dvY b q r k).trans (stX ?_ ?_ rfl))
          · simp [always, inRange, W4.lt, hs, hl]; omega
          · rw [ew]; rfl
      · refine ⟨⟨b, q, r, (k : Int) - 1⟩, ?_, ?_, rfl, ?_⟩
        · simp only [dv_ok, Bool.and_eq_true, decide_eq_true_eq]
          refine ⟨⟨⟨⟨⟨h1, by omega⟩, by omega⟩, ?_⟩, ?_⟩, h7⟩
          · rw [ek1]; omega
          · rw [ek1, hq]
        · simp only; omega
        · refine execN_sound (withAsm_sound OW7_sound) mixed (LoopsOk.innerAt (LoopsOk.none (P := Pr) (fn := Go.Proofs.Tryd.f96) (n0 := 0)) 0) (by kernel_rfl) (by intro v h; cases h) ((dvN b q r k).trans (stX ?_ ?_ rfl))
          · simp [always, inRange, W4.lt, hs]; omega
          · rw [ew]; rfl
    · right
      refine ⟨by simp [dv_E], ?_⟩
      have e0 : (n + 1).toNat = 0 := by omega
      rw [e0, Nat.pow_zero, Nat.mul_one] at h4
      have eq1 : qW q r b = q := by unfold qW; rw [Nat.div_eq_of_lt h4, Nat.add_zero, of_self]
      have er1 : rW r b = r := by unfold rW; rw [Nat.mod_eq_of_lt h4, of_self]
      simp only [dv_E, eq1, er1]
      exact execN_sound (withAsm_sound OW7_sound) mixed (LoopsOk.innerAt (LoopsOk.none (P := Pr) (fn := Go.Proofs.Tryd.f96) (n0 := 0)) 0) (by kernel_rfl) (by intro v h; cases h) ((dvX b q r n).trans (stX (by simp; omega) rfl rfl))
end
end Go.Proofs.YtajbaocfdlopbaaDoor.K
end
section
open Go Go.Lh
namespace Go.Proofs.YtajbaocfdlopbaaDoor.K
noncomputable section
set_option maxRecDepth 100000
def length_g := ctW (fun x => .int .i64 (lenN x.n : Nat))
theorem length_en : Enters Pr 114 := Enters.of (fn := Go.Proofs.Tryd.f114) (by kernel_rfl) (by kernel_rfl)
def OW8 : Orc := auto Pr ext [(114, length_g)] [] 3
theorem OW8_sound : OrcSound Pr OW8 := auto_sound mixed ext_ok (KOk.cons length_en (ctW_ok length_fn) KOk.nil) (by kernel_rfl) 3
theorem dvL : LoopsOk Pr Go.Proofs.Tryd.f96 0 (smL 0 [dv_s]) := LoopsOk.of [(dv_s, dv_k)] (by kernel_rfl) (by
  intro p hp
  simp only [List.mem_cons, List.not_mem_nil, or_false] at hp
  subst hp
  exact dv_at)
theorem div_z (x : W4) (y : W4) :
  execFD Pr (withAsm OW8 [((8 : Nat), true)]) (smL (0 : Nat) [dv_s]) [] (100 : Nat) Go.Proofs.Tryd.f96 [x.v, y.v] [] =
  some
  (y.a == BitVec.ofInt (64 : Nat) (0 : Int) &&
            (y.b == BitVec.ofInt (64 : Nat) (0 : Int) &&
              (y.c == BitVec.ofInt (64 : Nat) (0 : Int) && (y.d == BitVec.ofInt (64 : Nat) (0 : Int) && true))) &&
          true &&
        true &&
      true,
    Fin.ret
      (V.tup
        [V.agg
            [V.u64 (BitVec.ofInt (64 : Nat) (0 : Int)), V.u64 (BitVec.ofInt (64 : Nat) (0 : Int)),
              V.u64 (BitVec.ofInt (64 : Nat) (0 : Int)), V.u64 (BitVec.ofInt (64 : Nat) (0 : Int))],
          V.agg
            [V.u64 (BitVec.ofInt (64 : Nat) (0 : Int)), V.u64 (BitVec.ofInt (64 : Nat) (0 : Int)),
              V.u64 (BitVec.ofInt (64 : Nat) (0 : Int)), V.u64 (BitVec.ofInt (64 : Nat) (0 : Int))]]),
    []) := by kernel_rfl
theorem div_y (x y : W4) : execFD Pr (withAsm OW8 [(8,false)]) (smL 0 [dv_s]) [] 100 Go.Proofs.Tryd.f96 [x.v, y.v] [] =
    some (!(y.a == BitVec.ofInt 64 0 && (y.b == BitVec.ofInt 64 0 && (y.c == BitVec.ofInt 64 0 && (y.d == BitVec.ofInt 64 0 && true)))) && true && true &&
      (always x && (always y && true) && dv_ok ⟨y, W4.zero, x, wrapI .i64 ((lenN x.n : Int) - (lenN y.n : Int))⟩ && true) && true,
      .ret (.tup [(qW W4.zero x y).v, (rW x y).v]), []) := by kernel_rfl
theorem W4.eq_zero (y : W4) : (y.a == BitVec.ofInt 64 0 && (y.b == BitVec.ofInt 64 0 && (y.c == BitVec.ofInt 64 0 && (y.d == BitVec.ofInt 64 0 && true)))) = decide (y.n = 0) := by
  by_cases h : y.n = 0
  · rw [decide_eq_true h]
    have : y = W4.zero := W4.ext_n h
    subst this
    rfl
  · rw [decide_eq_false h]
    by_cases e : (y.a == BitVec.ofInt 64 0 && (y.b == BitVec.ofInt 64 0 && (y.c == BitVec.ofInt 64 0 && (y.d == BitVec.ofInt 64 0 && true)))) = true
    · simp only [Bool.and_eq_true, beq_iff_eq] at e
      obtain ⟨e1, e2, e3, e4, _⟩ := e
      exact (h (by unfold W4.n; rw [e1, e2, e3, e4]; rfl)).elim
    · exact Bool.eq_false_iff.2 e
def divQ (x y : W4) : W4 := W4.of (BitVec.ofNat 256 (x.n / y.n))
def divR (x y : W4) : W4 := if y.n = 0 then W4.zero else W4.of (BitVec.ofNat 256 (x.n % y.n))
theorem divide_fn (x y : W4) : LFn Pr 96 [x.v, y.v] [] (.ret (.tup [(divQ x y).v, (divR x y).v])) [] := by
  by_cases h : y.n = 0
  · refine execFD_sound (fn := Go.Proofs.Tryd.f96) (withAsm_sound OW8_sound) mixed (by kernel_rfl) dvL ((div_z x y).trans (stF ?_ ?_ rfl))
    · rw [W4.eq_zero, decide_eq_true h]; rfl
    · unfold divQ divR
      rw [h, if_pos rfl, Nat.div_zero]
      rfl
  · refine execFD_sound (fn := Go.Proofs.Tryd.f96) (withAsm_sound OW8_sound) mixed (by kernel_rfl) dvL ((div_y x y).trans (stF ?_ ?_ rfl))
    · rw [W4.eq_zero, decide_eq_false h]
      have l1 := lenN_max x.n_lt
      have l2 := lenN_max y.n_lt
      have l3 := lenN_lt x.n
      have l4 := lenN_lt y.n
      have l5 := lenN_le h
      have ew : wrapI .i64 ((lenN x.n : Int) - (lenN y.n : Int)) = (lenN x.n : Int) - (lenN y.n : Int) := wrapI_in (by omega) (by omega)
      have lp : 1 ≤ lenN y.n := by unfold lenN; rw [if_neg h]; omega
      generalize lenN x.n = la at *
      generalize lenN y.n = lb at *
      have g1 : x.n < y.n * 2 ^ ((la : Int) - (lb : Int) + 1).toNat := by
        refine Nat.lt_of_lt_of_le l3 (Nat.le_trans ?_ (Nat.mul_le_mul_right _ l5))
        rw [← Nat.pow_add]
        exact Nat.pow_le_pow_right (by omega) (by omega)
      have g2 : 0 ≤ (la : Int) - (lb : Int) → y.n * 2 ^ ((la : Int) - (lb : Int)).toNat < 2 ^ 256 := by
        intro h0
        refine Nat.lt_of_lt_of_le ((Nat.mul_lt_mul_right (Nat.two_pow_pos _)).2 l4) ?_
        rw [← Nat.pow_add]
        exact Nat.pow_le_pow_right (by omega) (by omega)
      have : dv_ok ⟨y, W4.zero, x, wrapI .i64 ((la : Int) - (lb : Int))⟩ = true := by
        rw [ew]
        simp only [dv_ok, Bool.and_eq_true, decide_eq_true_eq]
        refine ⟨⟨⟨⟨⟨Nat.pos_of_ne_zero h, by omega⟩, by omega⟩, g1⟩, Nat.zero_mod _⟩, g2⟩
      rw [this]
      rfl
    · unfold divQ divR qW rW
      rw [if_neg h, show W4.zero.n = 0 from rfl, Nat.zero_add]
theorem divide_en : Enters Pr 96 := Enters.of (fn := Go.Proofs.Tryd.f96) (by kernel_rfl) (by kernel_rfl)
def divide_g := ctWW (fun x y => .tup [(divQ x y).v, (divR x y).v])
def OW9 : Orc := auto Pr ext [(96, divide_g)] [] 3
theorem OW9_sound : OrcSound Pr OW9 := auto_sound mixed ext_ok (KOk.cons divide_en (ctWW_ok divide_fn) KOk.nil) (by kernel_rfl) 3
theorem div_fn (x y : W4) : LFn Pr 40 [x.v, y.v] [] (.ret (divQ x y).v) [] :=
  execFD_sound (fn := Go.Proofs.Tryd.f40) OW9_sound mixed (by kernel_rfl) (fun _ _ _ _ => LoopOk.none) (show execFD Pr OW9 noLoops [] 100 Go.Proofs.Tryd.f40 [x.v, y.v] [] = some (true, .ret (divQ x y).v, []) by kernel_rfl)
end
end Go.Proofs.YtajbaocfdlopbaaDoor.K
end
section
open Go Go.Lh
namespace Go.Proofs.YtajbaocfdlopbaaDoor.K
noncomputable section
set_option maxRecDepth 100000
def add_g := ctWW (fun x y => (W4.add x y).v)
def mul_g := ctWW (fun x y => (W4.mul x y).v)
def div_g := ctWW (fun x y => (divQ x y).v)
def right_g := ctWI (fun _ n => inRange n) (fun x n => (W4.shr x n.toNat).v)
theorem add_en : Enters Pr 21 := Enters.of (fn := Go.Proofs.Tryd.f21) (by kernel_rfl) (by kernel_rfl)
theorem mul_en : Enters Pr 22 := Enters.of (fn := Go.Proofs.Tryd.f22) (by kernel_rfl) (by kernel_rfl)
theorem div_en : Enters Pr 40 := Enters.of (fn := Go.Proofs.Tryd.f40) (by kernel_rfl) (by kernel_rfl)
theorem right_en : Enters Pr 92 := Enters.of (fn := Go.Proofs.Tryd.f92) (by kernel_rfl) (by kernel_rfl)
def KW0 : KnownT := [(23, old from_g), (22, old mul_g), (40, old div_g), (20, old sub_g), (21, old add_g), (18, old less_g), (26, old or_g), (89, old left_g), (92, old right_g)]
theorem inR {n : Int} (h : inRange n = true) : 0 ≤ n ∧ n < 256 := by simp [inRange] at h; omega
theorem KW0_ok : KOkT Pr KW0 := KOkT.cons from_en (old_ok (ctU_ok from_fn)) (KOkT.cons mul_en (old_ok (ctWW_ok mul_fn)) (KOkT.cons div_en (old_ok (ctWW_ok div_fn)) (KOkT.cons sub_en (old_ok (ctWW_ok sub_fn)) (KOkT.cons add_en (old_ok (ctWW_ok add_fn)) (KOkT.cons less_en (old_ok (ctWW_ok less_fn))
  (KOkT.cons or_en (old_ok (ctWW_ok or_fn)) (KOkT.cons left_en (old_ok (ctWI_ok fun x n h => left_fn x n (inR h).1 (inR h).2)) (KOkT.cons right_en (old_ok (ctWI_ok fun x n h => right_fn x n (inR h).1 (inR h).2)) KOkT.nil))))))))
def OTW : OrcT := autoT Pr ext KW0 [77, 78, 83, 84, 86, 87, 88, 96, 114] 4
theorem OTW_sound : OrcSound Pr OTW.o := autoT_sound mixed ext_ok KW0_ok (by kernel_rfl) 4
theorem and_x (x : W4) (y : W4) : Tr.prune (Tr.Sh.any)
  (execBF Pr OTW noLoopsT (100 : Nat) Go.Proofs.Tryd.f24 [x.v, y.v] []) =
  Tr.chk true
  (Tr.leaf
    (Fin.ret (V.agg [V.u64 (x.a &&& y.a), V.u64 (x.b &&& y.b), V.u64 (x.c &&& y.c), V.u64 (x.d &&& y.d)]),
      [])) := by kernel_rfl
theorem xor_x (x : W4) (y : W4) : Tr.prune (Tr.Sh.any)
  (execBF Pr OTW noLoopsT (100 : Nat) Go.Proofs.Tryd.f28 [x.v, y.v] []) =
  Tr.chk true
  (Tr.leaf
    (Fin.ret (V.agg [V.u64 (x.a ^^^ y.a), V.u64 (x.b ^^^ y.b), V.u64 (x.c ^^^ y.c), V.u64 (x.d ^^^ y.d)]),
      [])) := by kernel_rfl
theorem not_x (x : W4) : Tr.prune (Tr.Sh.any)
  (execBF Pr OTW noLoopsT (100 : Nat) Go.Proofs.Tryd.f30 [x.v] []) =
  Tr.chk true
  (Tr.leaf (Fin.ret (V.agg [V.u64 (~~~x.a), V.u64 (~~~x.b), V.u64 (~~~x.c), V.u64 (~~~x.d)]), [])) := by kernel_rfl
theorem small_x (x : W4) : Tr.prune (Tr.Sh.any)
  (execBF Pr OTW noLoopsT (100 : Nat) Go.Proofs.Tryd.f75 [x.v] []) =
  Tr.chk true
  (Tr.leaf
    (Fin.ret (V.tup [V.u64 x.d, V.bool (x.a ||| x.b ||| x.c == BitVec.ofInt (64 : Nat) (0 : Int))]),
      [])) := by kernel_rfl
theorem below_x (x : W4) (y : W4) : Tr.prune (Tr.Sh.any)
  (execBF Pr OTW noLoopsT (100 : Nat) Go.Proofs.Tryd.f19 [x.v, y.v] []) =
  Tr.chk true
  (Tr.leaf
    (Fin.ret
        (V.bool
          ((W4.mk (x.a ^^^ BitVec.ofInt (64 : Nat) (9223372036854775808 : Int)) x.b x.c x.d).lt
            (W4.mk (y.a ^^^ BitVec.ofInt (64 : Nat) (9223372036854775808 : Int)) y.b y.c y.d))),
      [])) := by kernel_rfl
theorem shl_x (n : W4) (x : W4) : Tr.prune (Tr.Sh.any.both Tr.Sh.any)
  (execBF Pr OTW noLoopsT (100 : Nat) Go.Proofs.Tryd.f32 [n.v, x.v] []) =
  Tr.chk true
  (Tr.br (n.lt (W4.small (BitVec.ofInt (64 : Nat) (256 : Int))))
    (Tr.chk (inRange (wrapI IntKind.i64 (↑(n.d &&& BitVec.ofInt (64 : Nat) (255 : Int)).toNat : Int)) && true && true)
      (Tr.leaf
        (Fin.ret
            (V.agg
              [V.u64 (x.shl (wrapI IntKind.i64 (↑(n.d &&& BitVec.ofInt (64 : Nat) (255 : Int)).toNat : Int)).toNat).a,
                V.u64 (x.shl (wrapI IntKind.i64 (↑(n.d &&& BitVec.ofInt (64 : Nat) (255 : Int)).toNat : Int)).toNat).b,
                V.u64 (x.shl (wrapI IntKind.i64 (↑(n.d &&& BitVec.ofInt (64 : Nat) (255 : Int)).toNat : Int)).toNat).c,
                V.u64
                  (x.shl (wrapI IntKind.i64 (↑(n.d &&& BitVec.ofInt (64 : Nat) (255 : Int)).toNat : Int)).toNat).d]),
          [])))
    (Tr.chk true
      (Tr.leaf
        (Fin.ret
            (V.agg
              [V.u64 (BitVec.ofInt (64 : Nat) (0 : Int)), V.u64 (BitVec.ofInt (64 : Nat) (0 : Int)),
                V.u64 (BitVec.ofInt (64 : Nat) (0 : Int)), V.u64 (BitVec.ofInt (64 : Nat) (0 : Int))]),
          [])))) := by kernel_rfl
theorem shr_x (n : W4) (x : W4) : Tr.prune (Tr.Sh.any.both Tr.Sh.any)
  (execBF Pr OTW noLoopsT (100 : Nat) Go.Proofs.Tryd.f34 [n.v, x.v] []) =
  Tr.chk true
  (Tr.br (n.lt (W4.small (BitVec.ofInt (64 : Nat) (256 : Int))))
    (Tr.chk (inRange (wrapI IntKind.i64 (↑(n.d &&& BitVec.ofInt (64 : Nat) (255 : Int)).toNat : Int)) && true && true)
      (Tr.leaf
        (Fin.ret
            (V.agg
              [V.u64 (x.shr (wrapI IntKind.i64 (↑(n.d &&& BitVec.ofInt (64 : Nat) (255 : Int)).toNat : Int)).toNat).a,
                V.u64 (x.shr (wrapI IntKind.i64 (↑(n.d &&& BitVec.ofInt (64 : Nat) (255 : Int)).toNat : Int)).toNat).b,
                V.u64 (x.shr (wrapI IntKind.i64 (↑(n.d &&& BitVec.ofInt (64 : Nat) (255 : Int)).toNat : Int)).toNat).c,
                V.u64
                  (x.shr (wrapI IntKind.i64 (↑(n.d &&& BitVec.ofInt (64 : Nat) (255 : Int)).toNat : Int)).toNat).d]),
          [])))
    (Tr.chk true
      (Tr.leaf
        (Fin.ret
            (V.agg
              [V.u64 (BitVec.ofInt (64 : Nat) (0 : Int)), V.u64 (BitVec.ofInt (64 : Nat) (0 : Int)),
                V.u64 (BitVec.ofInt (64 : Nat) (0 : Int)), V.u64 (BitVec.ofInt (64 : Nat) (0 : Int))]),
          [])))) := by kernel_rfl
theorem bytes_x (x : W4) : Tr.prune (Tr.Sh.any.r.l.l.l.l.l.l.l.l.l.l.l.l.l.l.l.l.l.l.l.l.l.l.l.l.l.l.l.l.l.l.l.l)
  (execBF Pr OTW noLoopsT (100 : Nat) Go.Proofs.Tryd.f15 [x.v] []) =
  Tr.chk true
  (Tr.leaf
    (Fin.ret
        (V.str
          [BitVec.setWidth (8 : Nat) (x.a >>> (56 : Nat)), BitVec.setWidth (8 : Nat) (x.a >>> (48 : Nat)),
            BitVec.setWidth (8 : Nat) (x.a >>> (40 : Nat)), BitVec.setWidth (8 : Nat) (x.a >>> (32 : Nat)),
            BitVec.setWidth (8 : Nat) (x.a >>> (24 : Nat)), BitVec.setWidth (8 : Nat) (x.a >>> (16 : Nat)),
            BitVec.setWidth (8 : Nat) (x.a >>> (8 : Nat)), BitVec.setWidth (8 : Nat) (x.a >>> (0 : Nat)),
            BitVec.setWidth (8 : Nat) (x.b >>> (56 : Nat)), BitVec.setWidth (8 : Nat) (x.b >>> (48 : Nat)),
            BitVec.setWidth (8 : Nat) (x.b >>> (40 : Nat)), BitVec.setWidth (8 : Nat) (x.b >>> (32 : Nat)),
            BitVec.setWidth (8 : Nat) (x.b >>> (24 : Nat)), BitVec.setWidth (8 : Nat) (x.b >>> (16 : Nat)),
            BitVec.setWidth (8 : Nat) (x.b >>> (8 : Nat)), BitVec.setWidth (8 : Nat) (x.b >>> (0 : Nat)),
            BitVec.setWidth (8 : Nat) (x.c >>> (56 : Nat)), BitVec.setWidth (8 : Nat) (x.c >>> (48 : Nat)),
            BitVec.setWidth (8 : Nat) (x.c >>> (40 : Nat)), BitVec.setWidth (8 : Nat) (x.c >>> (32 : Nat)),
            BitVec.setWidth (8 : Nat) (x.c >>> (24 : Nat)), BitVec.setWidth (8 : Nat) (x.c >>> (16 : Nat)),
            BitVec.setWidth (8 : Nat) (x.c >>> (8 : Nat)), BitVec.setWidth (8 : Nat) (x.c >>> (0 : Nat)),
            BitVec.setWidth (8 : Nat) (x.d >>> (56 : Nat)), BitVec.setWidth (8 : Nat) (x.d >>> (48 : Nat)),
            BitVec.setWidth (8 : Nat) (x.d >>> (40 : Nat)), BitVec.setWidth (8 : Nat) (x.d >>> (32 : Nat)),
            BitVec.setWidth (8 : Nat) (x.d >>> (24 : Nat)), BitVec.setWidth (8 : Nat) (x.d >>> (16 : Nat)),
            BitVec.setWidth (8 : Nat) (x.d >>> (8 : Nat)), BitVec.setWidth (8 : Nat) (x.d >>> (0 : Nat))]),
      [])) := by kernel_rfl
theorem and_fn (x y : W4) : LFn Pr 24 [x.v, y.v] [] (.ret (W4.andW x y).v) [] :=
  fnT OTW_sound mixed (by kernel_rfl) LoopsOk.noneT (and_x x y) (wp_chk_true.2 rfl)
theorem xor_fn (x y : W4) : LFn Pr 28 [x.v, y.v] [] (.ret (W4.xorW x y).v) [] :=
  fnT OTW_sound mixed (by kernel_rfl) LoopsOk.noneT (xor_x x y) (wp_chk_true.2 rfl)
theorem not_fn (x : W4) : LFn Pr 30 [x.v] [] (.ret (W4.notW x).v) [] :=
  fnT OTW_sound mixed (by kernel_rfl) LoopsOk.noneT (not_x x) (wp_chk_true.2 rfl)
def isSmall (x : W4) : Bool := x.a ||| x.b ||| x.c == BitVec.ofInt 64 0
theorem small_fn (x : W4) : LFn Pr 75 [x.v] [] (.ret (.tup [.u64 x.d, .bool (isSmall x)])) [] :=
  fnT OTW_sound mixed (by kernel_rfl) LoopsOk.noneT (small_x x) (wp_chk_true.2 rfl)
def flip (x : W4) : W4 := ⟨x.a ^^^ BitVec.ofInt 64 9223372036854775808, x.b, x.c, x.d⟩
def slt (x y : W4) : Bool := (flip x).lt (flip y)
theorem below_fn (x y : W4) : LFn Pr 19 [x.v, y.v] [] (.ret (.bool (slt x y))) [] :=
  fnT OTW_sound mixed (by kernel_rfl) LoopsOk.noneT (below_x x y) (wp_chk_true.2 rfl)
theorem bytes_fn (x : W4) : LFn Pr 15 [x.v] [] (.ret (.str x.bytes)) [] :=
  fnT OTW_sound mixed (by kernel_rfl) LoopsOk.noneT (bytes_x x) (tr1 rfl (by kernel_rfl))
/-- moved by a number -/
def shlW (n x : W4) : W4 := if n.n < 256 then W4.shl x n.n else W4.zero
def shrW (n x : W4) : W4 := if n.n < 256 then W4.shr x n.n else W4.zero
theorem far_n {n : W4} (h : n.lt (W4.small (BitVec.ofInt 64 256)) = true) : n.n < 256 ∧ inRange (wrapI .i64 ((n.d &&& BitVec.ofInt 64 255).toNat : Int)) = true ∧ (wrapI .i64 ((n.d &&& BitVec.ofInt 64 255).toNat : Int)).toNat = n.n := by
  have h : n.n < 256 := W4.lt_iff.1 h
  have ha := n.a.isLt
  have e : n.n = n.d.toNat := by unfold W4.n at h ⊢; omega
  have e2 : (n.d &&& BitVec.ofInt 64 255).toNat = n.n := by
    have : (BitVec.ofInt 64 255).toNat = 2 ^ 8 - 1 := rfl
    rw [BitVec.toNat_and, this, Nat.and_two_pow_sub_one_eq_mod, e]; omega
  rw [e2, wrapI_nat (by omega)]
  exact ⟨h, by simp [inRange]; omega, rfl⟩
theorem shl_fn (n x : W4) : LFn Pr 32 [n.v, x.v] [] (.ret (shlW n x).v) [] := by
  refine fnT OTW_sound mixed (by kernel_rfl) LoopsOk.noneT (shl_x n x) ?_
  rw [wp_chk_true, wp_br]
  refine ⟨fun h => ?_, fun h => ?_⟩
  · obtain ⟨h1, h2, h3⟩ := far_n h
    rw [h2, h3]
    rw [Bool.and_self, Bool.and_self, wp_chk_true, wp_leaf, shlW, if_pos h1]
    rfl
  · have h : 256 ≤ n.n := W4.lt_false.1 h
    rw [wp_chk_true, wp_leaf, shlW, if_neg (by omega)]
    rfl
theorem shr_fn (n x : W4) : LFn Pr 34 [n.v, x.v] [] (.ret (shrW n x).v) [] := by
  refine fnT OTW_sound mixed (by kernel_rfl) LoopsOk.noneT (shr_x n x) ?_
  rw [wp_chk_true, wp_br]
  refine ⟨fun h => ?_, fun h => ?_⟩
  · obtain ⟨h1, h2, h3⟩ := far_n h
    rw [h2, h3]
    rw [Bool.and_self, Bool.and_self, wp_chk_true, wp_leaf, shrW, if_pos h1]
    rfl
  · have h : 256 ≤ n.n := W4.lt_false.1 h
    rw [wp_chk_true, wp_leaf, shrW, if_neg (by omega)]
    rfl
end
end Go.Proofs.YtajbaocfdlopbaaDoor.K
end
section
open Go Go.Lh
namespace Go.Proofs.YtajbaocfdlopbaaDoor.K
noncomputable section
set_option maxRecDepth 100000
theorem shr_en : Enters Pr 34 := Enters.of (fn := Go.Proofs.Tryd.f34) (by kernel_rfl) (by kernel_rfl)
theorem shl_en : Enters Pr 32 := Enters.of (fn := Go.Proofs.Tryd.f32) (by kernel_rfl) (by kernel_rfl)
theorem not_en : Enters Pr 30 := Enters.of (fn := Go.Proofs.Tryd.f30) (by kernel_rfl) (by kernel_rfl)
theorem and_en : Enters Pr 24 := Enters.of (fn := Go.Proofs.Tryd.f24) (by kernel_rfl) (by kernel_rfl)
theorem xor_en : Enters Pr 28 := Enters.of (fn := Go.Proofs.Tryd.f28) (by kernel_rfl) (by kernel_rfl)
theorem small_en : Enters Pr 75 := Enters.of (fn := Go.Proofs.Tryd.f75) (by kernel_rfl) (by kernel_rfl)
theorem below_en : Enters Pr 19 := Enters.of (fn := Go.Proofs.Tryd.f19) (by kernel_rfl) (by kernel_rfl)
theorem bytes_en : Enters Pr 15 := Enters.of (fn := Go.Proofs.Tryd.f15) (by kernel_rfl) (by kernel_rfl)
def shr_g := ctWW (fun x y => (shrW x y).v)
def shl_g := ctWW (fun x y => (shlW x y).v)
def not_g := ctW (fun x => (W4.notW x).v)
def and_g := ctWW (fun x y => (W4.andW x y).v)
def xor_g := ctWW (fun x y => (W4.xorW x y).v)
def small_g := ctW (fun x => .tup [.u64 x.d, .bool (isSmall x)])
def below_g := ctWW (fun x y => .bool (slt x y))
def bytes_g := ctW (fun x => .str x.bytes)
def KW1 : KnownT := (96, old divide_g) :: (34, old shr_g) :: (32, old shl_g) :: (30, old not_g) :: (24, old and_g) :: (28, old xor_g) :: (75, old small_g) :: (19, old below_g) :: (15, old bytes_g) :: KW0
theorem KW1_ok : KOkT Pr KW1 := KOkT.cons divide_en (old_ok (ctWW_ok divide_fn)) (KOkT.cons shr_en (old_ok (ctWW_ok shr_fn)) (KOkT.cons shl_en (old_ok (ctWW_ok shl_fn)) (KOkT.cons not_en (old_ok (ctW_ok not_fn)) (KOkT.cons and_en (old_ok (ctWW_ok and_fn)) (KOkT.cons xor_en (old_ok (ctWW_ok xor_fn))
  (KOkT.cons small_en (old_ok (ctW_ok small_fn)) (KOkT.cons below_en (old_ok (ctWW_ok below_fn)) (KOkT.cons bytes_en (old_ok (ctW_ok bytes_fn)) KW0_ok))))))))
def OT1 : OrcT := autoT Pr ext KW1 [78] 3
theorem OT1_sound : OrcSound Pr OT1.o := autoT_sound mixed ext_ok KW1_ok (by kernel_rfl) 3
theorem mod_x (x : W4) (y : W4) : Tr.prune (Tr.Sh.any)
  (execBF Pr OT1 noLoopsT (100 : Nat) Go.Proofs.Tryd.f45 [x.v, y.v] []) =
  Tr.chk true
  (Tr.leaf
    (Fin.ret (V.agg [V.u64 (divR x y).a, V.u64 (divR x y).b, V.u64 (divR x y).c, V.u64 (divR x y).d]),
      [])) := by kernel_rfl
theorem sar_x (n : W4) (x : W4) : Tr.prune (Tr.Sh.any.both Tr.Sh.any)
  (execBF Pr OT1 noLoopsT (100 : Nat) Go.Proofs.Tryd.f36 [n.v, x.v] []) =
  Tr.chk true
  (Tr.br (x.a >>> (63 : Nat) == BitVec.ofInt (64 : Nat) (0 : Int))
    (Tr.chk true
      (Tr.leaf (Fin.ret (V.agg [V.u64 (shrW n x).a, V.u64 (shrW n x).b, V.u64 (shrW n x).c, V.u64 (shrW n x).d]), [])))
    (Tr.chk true
      (Tr.leaf
        (Fin.ret
            (V.agg
              [V.u64 (shrW n x.notW).notW.a, V.u64 (shrW n x.notW).notW.b, V.u64 (shrW n x.notW).notW.c,
                V.u64 (shrW n x.notW).notW.d]),
          [])))) := by kernel_rfl
theorem byte_x (n : W4) (x : W4) : Tr.prune (Tr.Sh.any.both Tr.Sh.any)
  (execBF Pr OT1 noLoopsT (100 : Nat) Go.Proofs.Tryd.f38 [n.v, x.v] []) =
  Tr.chk true
  (Tr.br (!n.lt (W4.small (BitVec.ofInt (64 : Nat) (32 : Int))))
    (Tr.chk true
      (Tr.leaf
        (Fin.ret
            (V.agg
              [V.u64 (BitVec.ofInt (64 : Nat) (0 : Int)), V.u64 (BitVec.ofInt (64 : Nat) (0 : Int)),
                V.u64 (BitVec.ofInt (64 : Nat) (0 : Int)), V.u64 (BitVec.ofInt (64 : Nat) (0 : Int))]),
          [])))
    (Tr.chk (decide ((↑n.d.toNat : Int) < (↑(32 : Nat) : Int)) && true && true)
      (Tr.leaf
        (Fin.ret
            (V.agg
              [V.u64 (W4.small (BitVec.setWidth (64 : Nat) (x.bytes.getD n.d.toNat (OfNat.ofNat (0 : Nat))))).a,
                V.u64 (W4.small (BitVec.setWidth (64 : Nat) (x.bytes.getD n.d.toNat (OfNat.ofNat (0 : Nat))))).b,
                V.u64 (W4.small (BitVec.setWidth (64 : Nat) (x.bytes.getD n.d.toNat (OfNat.ofNat (0 : Nat))))).c,
                V.u64 (W4.small (BitVec.setWidth (64 : Nat) (x.bytes.getD n.d.toNat (OfNat.ofNat (0 : Nat))))).d]),
          [])))) := by kernel_rfl
theorem mod_fn (x y : W4) : LFn Pr 45 [x.v, y.v] [] (.ret (divR x y).v) [] :=
  fnT OT1_sound mixed (by kernel_rfl) LoopsOk.noneT (mod_x x y) (tr1 rfl rfl)
def sarW (n x : W4) : W4 := if x.a >>> 63 = BitVec.ofInt 64 0 then shrW n x else W4.notW (shrW n (W4.notW x))
theorem sar_fn (n x : W4) : LFn Pr 36 [n.v, x.v] [] (.ret (sarW n x).v) [] := by
  refine fnT OT1_sound mixed (by kernel_rfl) LoopsOk.noneT (sar_x n x) ?_
  rw [wp_chk_true, wp_br, sarW]
  refine ⟨fun h => ?_, fun h => ?_⟩
  · rw [beq_iff_eq] at h
    rw [if_pos h]; exact tr1 rfl rfl
  · rw [beq_eq_false_iff_ne] at h
    rw [if_neg h]; exact tr1 rfl rfl
def byteW (n x : W4) : W4 := if n.n < 32 then W4.small (BitVec.setWidth 64 (x.bytes.getD n.n 0)) else W4.zero
theorem byte_fn (n x : W4) : LFn Pr 38 [n.v, x.v] [] (.ret (byteW n x).v) [] := by
  refine fnT OT1_sound mixed (by kernel_rfl) LoopsOk.noneT (byte_x n x) ?_
  rw [wp_chk_true, wp_br, byteW]
  refine ⟨fun h => ?_, fun h => ?_⟩
  · rw [Bool.not_eq_true', W4.lt_false] at h
    have e : (W4.small (BitVec.ofInt 64 32)).n = 32 := rfl
    rw [if_neg (by omega)]; exact tr1 rfl rfl
  · rw [Bool.not_eq_false', W4.lt_iff] at h
    have e : (W4.small (BitVec.ofInt 64 32)).n = 32 := rfl
    rw [e] at h
    have e2 : n.d.toNat = n.n := by unfold W4.n at h ⊢; omega
    rw [if_pos h, e2]
    exact tr1 (by simp; omega) rfl
structure OfS where
  s : List (BitVec 8)
  w : List (BitVec 64)
  ls : List (BitVec 64)
  m : Int
theorem ofl_x (s : List (BitVec 8)) (w : List (BitVec 64)) (ls : List (BitVec 64)) (m : Int) (i : Nat) : Tr.prune (Tr.Sh.any.both
  Tr.Sh.any)
  (execBN Pr OT1 noLoopsT (100 : Nat) (0 : Nat) [(0 : Nat), (2 : Nat), (4 : Nat), (11 : Nat), (12 : Nat)]
  [(2 : Nat), (4 : Nat)] (loopBody Go.Proofs.Tryd.f16 (0 : Nat))
  [((0 : Nat), V.str s), ((2 : Nat), V.ptr (0 : Nat) (0 : Nat)), ((4 : Nat), V.ptr (1 : Nat) (0 : Nat)),
    ((11 : Nat), V.int IntKind.i64 m), ((12 : Nat), V.int IntKind.i64 (↑i : Int))]
  [Blk.b64 w, Blk.b64 ls]) =
  Tr.chk true
  (Tr.br (decide ((↑i : Int) < m))
    (Tr.chk
      (decide ((0 : Int) ≤ wrapI IntKind.i64 ((↑i : Int).tdiv (8 : Int))) &&
            decide (wrapI IntKind.i64 ((↑i : Int).tdiv (8 : Int)) < (4 : Int)) &&
          (decide ((0 : Nat) + (wrapI IntKind.i64 ((↑i : Int).tdiv (8 : Int))).toNat * (1 : Nat) < ls.length) &&
            (decide ((0 : Int) ≤ wrapI IntKind.i64 (wrapI IntKind.i64 ((↑s.length : Int) - (1 : Int)) - (↑i : Int))) &&
                decide
                  (wrapI IntKind.i64 (wrapI IntKind.i64 ((↑s.length : Int) - (1 : Int)) - (↑i : Int)) <
                    (↑s.length : Int)) &&
              (decide ((0 : Int) ≤ wrapI IntKind.i64 ((↑i : Int).tmod (8 : Int) * (8 : Int))) &&
                (decide ((0 : Int) ≤ wrapI IntKind.i64 ((↑i : Int).tdiv (8 : Int))) &&
                    decide (wrapI IntKind.i64 ((↑i : Int).tdiv (8 : Int)) < (4 : Int)) &&
                  decide
                    ((0 : Nat) + (wrapI IntKind.i64 ((↑i : Int).tdiv (8 : Int))).toNat * (1 : Nat) + (1 : Nat) ≤
                      ls.length))))) &&
        true)
      (Tr.leaf
        (X.normal,
          [((0 : Nat), V.str s), ((2 : Nat), V.ptr (0 : Nat) (0 : Nat)), ((4 : Nat), V.ptr (1 : Nat) (0 : Nat)),
            ((11 : Nat), V.int IntKind.i64 m),
            ((12 : Nat), V.int IntKind.i64 (wrapI IntKind.i64 ((↑i : Int) + (1 : Int))))],
          [Blk.b64 w,
            Blk.b64
              (ls.set ((0 : Nat) + (wrapI IntKind.i64 ((↑i : Int).tdiv (8 : Int))).toNat * (1 : Nat))
                (ls.getD ((0 : Nat) + (wrapI IntKind.i64 ((↑i : Int).tdiv (8 : Int))).toNat * (1 : Nat))
                    (OfNat.ofNat (0 : Nat)) |||
                  BitVec.setWidth (64 : Nat)
                      (s.getD (wrapI IntKind.i64 (wrapI IntKind.i64 ((↑s.length : Int) - (1 : Int)) - (↑i : Int))).toNat
                        (OfNat.ofNat (0 : Nat))) <<<
                    (wrapI IntKind.i64 ((↑i : Int).tmod (8 : Int) * (8 : Int))).toNat))])))
    (Tr.leaf
      (X.exit (0 : Nat), [((2 : Nat), V.ptr (0 : Nat) (0 : Nat)), ((4 : Nat), V.ptr (1 : Nat) (0 : Nat))],
        [Blk.b64 w, Blk.b64 ls]))) := by kernel_rfl
def of_L (a : OfS) (i : Nat) : List (BitVec 64) := if i = 0 then a.ls else W4.ofL a.s i
def of_S (a : OfS) (i : Nat) : Fr × Heap := ([(0,.str a.s),(2,.ptr 0 0),(4,.ptr 1 0),(11,.int .i64 a.m),(12,.int .i64 (i : Nat))], [.b64 a.w, .b64 (of_L a i)])
def of_read : Fr → Heap → Option OfS := fun f h => match f, h with
  | [(0,.str s),(2,.ptr 0 0),(4,.ptr 1 0),(11,.int .i64 m),(12,.int .i64 0)], [.b64 w, .b64 ls] => some ⟨s, w, ls, m⟩
  | _, _ => none
def of_ok (a : OfS) : Bool := decide (a.s.length ≤ 32) && decide (a.m = (a.s.length : Nat)) && decide (a.ls = [0,0,0,0])
def of_E (a : OfS) : Tr (X × Fr × Heap) := .leaf (.exit 0, [(2,.ptr 0 0),(4,.ptr 1 0)], [.b64 a.w, .b64 (W4.ofL a.s a.s.length)])
def of_s : SmT := whT 5 [0,2,4,11,12] of_read of_ok of_E
theorem of_at : SmAtT Pr Go.Proofs.Tryd.f16 0 of_s 0 := by
  refine cntT_x OT1_sound mixed of_S (fun a => a.s.length) (fun a i => ofl_x a.s a.w (of_L a i) a.m i) (by kernel_rfl) (by kernel_rfl) (by kernel_rfl) LoopsOk.noneT ?_ ?_
  · intro f g a h
    unfold of_read at h
    split at h <;> cases h
    rfl
  · rintro ⟨s, w, ls, m⟩ q hok hq i hi
    simp only [of_ok, Bool.and_eq_true, decide_eq_true_eq] at hok
    obtain ⟨⟨h1, rfl⟩, rfl⟩ := hok
    simp only at hi
    rw [of_E, Tr.is_leaf] at hq
    have hL : ∀ j, of_L ⟨s, w, [0,0,0,0], (s.length : Nat)⟩ j = W4.ofL s j := by
      intro j; unfold of_L; split
      · rename_i h; subst h; rfl
      · rfl
    have hl := W4.ofL_length s i
    simp only [wp_chk, wp_leaf, wp_br, hL, decide_eq_true_eq, decide_eq_false_iff_not, true_and]
    refine ⟨fun hlt => ⟨?_, ?_⟩, fun hge => ?_⟩
    · simp (disch := omega) only [tmod_lit, tdiv_lit, mul_lit, add_lit, lit_mul, lit_add, add_nat, mul_nat, sub_lit, lit_sub, sub_nat, wrapI_nat, wrapI_in, Int.toNat_natCast, Nat.mul_one, Nat.zero_add, toNat_lit]
      simp only [Bool.and_eq_true, decide_eq_true_eq]
      (repeat' apply And.intro) <;> first | omega | trivial
    · refine .inl ⟨by omega, ?_⟩
      rw [of_S]
      simp (disch := omega) only [tmod_lit, tdiv_lit, mul_lit, add_lit, lit_mul, lit_add, add_nat, mul_nat, sub_lit, lit_sub, sub_nat, wrapI_nat, wrapI_in, Int.toNat_natCast, Nat.mul_one, Nat.zero_add, toNat_lit, hL, W4.ofL]
    · refine .inr ⟨fun h => (by cases h), ?_⟩
      rw [← hq]
      have : i = s.length := by omega
      rw [this]
theorem of_Ls : LoopsOk Pr Go.Proofs.Tryd.f16 0 (smLT 0 [of_s]).o := LoopsOk.one (by kernel_rfl) of_at
theorem of_x (s : List (BitVec 8)) : Tr.prune (Tr.Sh.any.both Tr.Sh.any)
  (execBF Pr OT1 (smLT (0 : Nat) [of_s]) (100 : Nat) Go.Proofs.Tryd.f16 [V.str s] []) =
  Tr.chk true
  (Tr.br (decide ((↑s.length : Int) > (32 : Int)))
    (Tr.chk true
      (Tr.leaf
        (Fin.ret
            (V.tup
              [V.agg
                  [V.u64 (BitVec.ofInt (64 : Nat) (0 : Int)), V.u64 (BitVec.ofInt (64 : Nat) (0 : Int)),
                    V.u64 (BitVec.ofInt (64 : Nat) (0 : Int)), V.u64 (BitVec.ofInt (64 : Nat) (0 : Int))],
                V.bool false]),
          [])))
    (Tr.chk
      (of_ok
            (OfS.mk s
              [BitVec.ofInt (64 : Nat) (0 : Int), BitVec.ofInt (64 : Nat) (0 : Int), BitVec.ofInt (64 : Nat) (0 : Int),
                BitVec.ofInt (64 : Nat) (0 : Int)]
              [BitVec.ofInt (64 : Nat) (0 : Int), BitVec.ofInt (64 : Nat) (0 : Int), BitVec.ofInt (64 : Nat) (0 : Int),
                BitVec.ofInt (64 : Nat) (0 : Int)]
              (↑s.length : Int)) &&
          (decide ((4 : Nat) ≤ (W4.ofL s s.length).length) && true) &&
        true)
      (Tr.leaf
        (Fin.ret
            (V.tup
              [V.agg
                  [V.u64 ((W4.ofL s s.length).getD (3 : Nat) (OfNat.ofNat (0 : Nat))),
                    V.u64 ((W4.ofL s s.length).getD (2 : Nat) (OfNat.ofNat (0 : Nat))),
                    V.u64 ((W4.ofL s s.length).getD (1 : Nat) (OfNat.ofNat (0 : Nat))),
                    V.u64 ((W4.ofL s s.length).getD (0 : Nat) (OfNat.ofNat (0 : Nat)))],
                V.bool true]),
          [])))) := by kernel_rfl
/-- the number of bytes, if there are not too many -/
def ofV (s : List (BitVec 8)) : V := .tup [(if s.length ≤ 32 then W4.ofBytes s else W4.zero).v, .bool (decide (s.length ≤ 32))]
theorem of_fn (s : List (BitVec 8)) : LFn Pr 16 [.str s] [] (.ret (ofV s)) [] := by
  refine fnT OT1_sound mixed (by kernel_rfl) of_Ls (of_x s) ?_
  rw [wp_chk_true, wp_br, ofV]
  refine ⟨fun h => ?_, fun h => ?_⟩
  · have h : ¬ s.length ≤ 32 := by have := of_decide_eq_true h; omega
    rw [if_neg h, decide_eq_false h]
    exact tr1 rfl rfl
  · have h : s.length ≤ 32 := by have := of_decide_eq_false h; omega
    rw [if_pos h, decide_eq_true h]
    refine tr1 ?_ rfl
    simp only [of_ok, W4.ofL_length, Bool.and_true, Bool.and_eq_true, decide_eq_true_eq]
    refine ⟨⟨⟨h, ?_⟩, ?_⟩, ?_⟩ <;> first | trivial | rfl | omega
theorem of_en : Enters Pr 16 := Enters.of (fn := Go.Proofs.Tryd.f16) (by kernel_rfl) (by kernel_rfl)
theorem mod_en : Enters Pr 45 := Enters.of (fn := Go.Proofs.Tryd.f45) (by kernel_rfl) (by kernel_rfl)
theorem sar_en : Enters Pr 36 := Enters.of (fn := Go.Proofs.Tryd.f36) (by kernel_rfl) (by kernel_rfl)
theorem byte_en : Enters Pr 38 := Enters.of (fn := Go.Proofs.Tryd.f38) (by kernel_rfl) (by kernel_rfl)
def readS : List V → Heap → Option (List (BitVec 8)) := fun args h => match args, h with
  | [.str s], [] => some s
  | _, _ => none
def ctS (f : List (BitVec 8) → V) : List V → Heap → Tr (Fin × Heap) := ctT readS (fun s => .leaf (.ret (f s), []))
theorem ctS_ok {i : FuncId} {f : List (BitVec 8) → V} (hf : ∀ s, LFn Pr i [.str s] [] (.ret (f s)) []) : ∀ args h r, (ctS f args h).is r → LFn Pr i args h r.1 r.2 := by
  refine ctT_ok (fun s => [.str s]) (fun _ => []) ?_ (fun a r h => ?_)
  · intro args h a e
    unfold readS at e
    split at e <;> cases e
    exact ⟨rfl, rfl⟩
  · rw [Tr.is_leaf] at h; subst h; exact hf a
def KW2 : KnownT := (16, ctS ofV) :: (45, old (ctWW (fun x y => (divR x y).v))) :: (36, old (ctWW (fun x y => (sarW x y).v))) :: (38, old (ctWW (fun x y => (byteW x y).v))) :: KW1
theorem KW2_ok : KOkT Pr KW2 := KOkT.cons of_en (ctS_ok of_fn) (KOkT.cons mod_en (old_ok (ctWW_ok mod_fn)) (KOkT.cons sar_en (old_ok (ctWW_ok sar_fn)) (KOkT.cons byte_en (old_ok (ctWW_ok byte_fn)) KW1_ok)))
end
end Go.Proofs.YtajbaocfdlopbaaDoor.K
end
section
open Go Go.Lh
namespace Go.Proofs.YtajbaocfdlopbaaDoor.K
noncomputable section
set_option maxRecDepth 100000
def OT2 : OrcT := autoT Pr ext KW2 [76, 111, 125, 112, 102, 118] 5
theorem OT2_sound : OrcSound Pr OT2.o := autoT_sound mixed ext_ok KW2_ok (by kernel_rfl) 5
theorem wex_fn : LFn Pr 14 [] [] (.ret (.bool true)) [] := fnC (fn := Go.Proofs.Tryd.f14) OT2_sound mixed (fuel := 200) (by kernel_rfl) LoopsOk.noneT (by kernel_rfl)
def wex_g : List V → Heap → Tr (Fin × Heap) := fun args h => match args, h with
  | [], [] => .leaf (.ret (.bool true), [])
  | _, _ => .no
theorem wex_ok : ∀ args h r, (wex_g args h).is r → LFn Pr 14 args h r.1 r.2 := by
  intro args h r e
  unfold wex_g at e
  split at e
  · rw [Tr.is_leaf] at e; subst e; exact wex_fn
  · exact (Tr.is_no.1 e).elim
theorem wex_en : Enters Pr 14 := Enters.of (fn := Go.Proofs.Tryd.f14) (by kernel_rfl) (by kernel_rfl)
def KW3 : KnownT := (14, wex_g) :: KW2
theorem KW3_ok : KOkT Pr KW3 := KOkT.cons wex_en wex_ok KW2_ok
def OT3 : OrcT := autoT Pr ext KW3 [17] 3
theorem OT3_sound : OrcSound Pr OT3.o := autoT_sound mixed ext_ok KW3_ok (by kernel_rfl) 3
end
end Go.Proofs.YtajbaocfdlopbaaDoor.K
end
section
open Go Go.Lh
namespace Go.Proofs.YtajbaocfdlopbaaDoor.K
noncomputable section
set_option maxRecDepth 100000
theorem wdiv_x (a : W4) (b : W4) : Tr.prune (((Tr.Sh.any.l.l.both Tr.Sh.any.r.r).l.l.l.both
    (Tr.Sh.any.l.l.both Tr.Sh.any.r.r).l.l.l.l.l.l.l).r)
  (execBF Pr OT3 noLoopsT (100 : Nat) Go.Proofs.Tryd.f9 [a.v, b.v] []) =
  Tr.chk true
  (Tr.br
    (b.a == BitVec.ofInt (64 : Nat) (0 : Int) &&
      (b.b == BitVec.ofInt (64 : Nat) (0 : Int) &&
        (b.c == BitVec.ofInt (64 : Nat) (0 : Int) && (b.d == BitVec.ofInt (64 : Nat) (0 : Int) && true))))
    (Tr.chk true
      (Tr.br ((divQ a b).a == b.a && ((divQ a b).b == b.b && ((divQ a b).c == b.c && ((divQ a b).d == b.d && true))))
        (Tr.chk true
          (Tr.leaf
            (Fin.ret
                (V.bool
                  ((divR a b).a == b.a &&
                    ((divR a b).b == b.b && ((divR a b).c == b.c && ((divR a b).d == b.d && true))))),
              [])))
        (Tr.chk true (Tr.leaf (Fin.ret (V.bool false), [])))))
    (Tr.chk true
      (Tr.br
        ((((divQ a b).mul b).add (divR a b)).a == a.a &&
          ((((divQ a b).mul b).add (divR a b)).b == a.b &&
            ((((divQ a b).mul b).add (divR a b)).c == a.c && ((((divQ a b).mul b).add (divR a b)).d == a.d && true))))
        (Tr.chk true (Tr.leaf (Fin.ret (V.bool ((divR a b).lt b)), [])))
        (Tr.chk true (Tr.leaf (Fin.ret (V.bool false), [])))))) := by kernel_rfl
theorem wturn_x (a : W4) (b : W4) (c : W4) : Tr.prune (((((Tr.Sh.any.l.l.l.l.l.l.l.l.l.l.both
                                                                              Tr.Sh.any.r.r.r.r.r.r.r.r.r.r).l.l.l.l.l.l.l.l.l.l.l.l.both
                                                  Tr.Sh.any.r.r.r.r.r.r.r.r.r.r.r.r.r.r.r.r.r.r.r.r.r.r.r).l.l.l.l.l.l.both
                                  Tr.Sh.any.r.r.r.r.r.r.r.r.r.r.r.r.r.r.r.r.r.r.r.r.r.r.r.r.r.r.r.r.r.r).l.l.l.l.l.l.both
                  Tr.Sh.any.r.r.r.r.r.r.r.r.r.r.r.r.r.r.r.r.r.r.r.r.r.r.r.r.r.r.r.r.r.r.r.r.r.r.r.r.r).l.l.l.l.l.l.l.r)
  (execBF Pr OT3 noLoopsT (100 : Nat) Go.Proofs.Tryd.f4 [a.v, b.v, c.v] []) =
  Tr.chk true
  (Tr.br
    (((a.add b).sub b).a == a.a &&
      (((a.add b).sub b).b == a.b && (((a.add b).sub b).c == a.c && (((a.add b).sub b).d == a.d && true))))
    (Tr.chk true
      (Tr.br
        ((a.add b).a == (b.add a).a &&
          ((a.add b).b == (b.add a).b && ((a.add b).c == (b.add a).c && ((a.add b).d == (b.add a).d && true))))
        (Tr.chk true
          (Tr.br
            ((a.mul b).a == (b.mul a).a &&
              ((a.mul b).b == (b.mul a).b && ((a.mul b).c == (b.mul a).c && ((a.mul b).d == (b.mul a).d && true))))
            (Tr.chk true
              (Tr.br
                ((a.mul (b.add c)).a == ((a.mul b).add (a.mul c)).a &&
                  ((a.mul (b.add c)).b == ((a.mul b).add (a.mul c)).b &&
                    ((a.mul (b.add c)).c == ((a.mul b).add (a.mul c)).c &&
                      ((a.mul (b.add c)).d == ((a.mul b).add (a.mul c)).d && true))))
                (Tr.chk true
                  (Tr.leaf
                    (Fin.ret
                        (V.bool
                          (((a.mul b).mul c).a == (a.mul (b.mul c)).a &&
                            (((a.mul b).mul c).b == (a.mul (b.mul c)).b &&
                              (((a.mul b).mul c).c == (a.mul (b.mul c)).c &&
                                (((a.mul b).mul c).d == (a.mul (b.mul c)).d && true))))),
                      [])))
                (Tr.chk true (Tr.leaf (Fin.ret (V.bool false), [])))))
            (Tr.chk true (Tr.leaf (Fin.ret (V.bool false), [])))))
        (Tr.chk true (Tr.leaf (Fin.ret (V.bool false), [])))))
    (Tr.chk true (Tr.leaf (Fin.ret (V.bool false), [])))) := by kernel_rfl
theorem wbits_x (a : W4) (b : W4) (n : BitVec 8) : Tr.prune (((((Tr.Sh.any.l.l.l.l.l.l.l.l.l.l.both
                                                                                    Tr.Sh.any.r.r.r.r.r.r.r.r.r.r).l.l.l.l.l.l.l.l.l.l.both
                                                            Tr.Sh.any.r.r.r.r.r.r.r.r.r.r.r.r.r.r.r.r.r.r.r.r.r).l.l.l.l.both
                                                Tr.Sh.any.r.r.r.r.r.r.r.r.r.r.r.r.r.r.r.r.r.r.r.r.r.r.r.r.r.r).l.l.l.l.l.l.l.l.l.both
                          Tr.Sh.any.r.r.r.r.r.r.r.r.r.r.r.r.r.r.r.r.r.r.r.r.r.r.r.r.r.r.r.r.r.r.r.r.r.r.r.r).l.l.l.l.l.l.l.l.l.l.l.r)
  (execBF Pr OT3 noLoopsT (100 : Nat) Go.Proofs.Tryd.f6 [a.v, b.v, V.u8 n] []) =
  Tr.chk true
  (Tr.br
    ((a.xorW b).a == ((a.orW b).sub (a.andW b)).a &&
      ((a.xorW b).b == ((a.orW b).sub (a.andW b)).b &&
        ((a.xorW b).c == ((a.orW b).sub (a.andW b)).c && ((a.xorW b).d == ((a.orW b).sub (a.andW b)).d && true))))
    (Tr.chk true
      (Tr.br
        ((a.andW b).notW.a == (a.notW.orW b.notW).a &&
          ((a.andW b).notW.b == (a.notW.orW b.notW).b &&
            ((a.andW b).notW.c == (a.notW.orW b.notW).c && ((a.andW b).notW.d == (a.notW.orW b.notW).d && true))))
        (Tr.chk true
          (Tr.br
            ((shrW (W4.small (BitVec.setWidth (64 : Nat) n)) (shlW (W4.small (BitVec.setWidth (64 : Nat) n)) a)).a ==
                (a.andW
                    (shrW (W4.small (BitVec.setWidth (64 : Nat) n))
                      (W4.mk (BitVec.ofInt (64 : Nat) (0 : Int)) (BitVec.ofInt (64 : Nat) (0 : Int))
                          (BitVec.ofInt (64 : Nat) (0 : Int)) (BitVec.ofInt (64 : Nat) (0 : Int))).notW)).a &&
              ((shrW (W4.small (BitVec.setWidth (64 : Nat) n)) (shlW (W4.small (BitVec.setWidth (64 : Nat) n)) a)).b ==
                  (a.andW
                      (shrW (W4.small (BitVec.setWidth (64 : Nat) n))
                        (W4.mk (BitVec.ofInt (64 : Nat) (0 : Int)) (BitVec.ofInt (64 : Nat) (0 : Int))
                            (BitVec.ofInt (64 : Nat) (0 : Int)) (BitVec.ofInt (64 : Nat) (0 : Int))).notW)).b &&
                ((shrW (W4.small (BitVec.setWidth (64 : Nat) n))
                        (shlW (W4.small (BitVec.setWidth (64 : Nat) n)) a)).c ==
                    (a.andW
                        (shrW (W4.small (BitVec.setWidth (64 : Nat) n))
                          (W4.mk (BitVec.ofInt (64 : Nat) (0 : Int)) (BitVec.ofInt (64 : Nat) (0 : Int))
                              (BitVec.ofInt (64 : Nat) (0 : Int)) (BitVec.ofInt (64 : Nat) (0 : Int))).notW)).c &&
                  ((shrW (W4.small (BitVec.setWidth (64 : Nat) n))
                          (shlW (W4.small (BitVec.setWidth (64 : Nat) n)) a)).d ==
                      (a.andW
                          (shrW (W4.small (BitVec.setWidth (64 : Nat) n))
                            (W4.mk (BitVec.ofInt (64 : Nat) (0 : Int)) (BitVec.ofInt (64 : Nat) (0 : Int))
                                (BitVec.ofInt (64 : Nat) (0 : Int)) (BitVec.ofInt (64 : Nat) (0 : Int))).notW)).d &&
                    true))))
            (Tr.chk (decide ((↑(n % BitVec.ofInt (8 : Nat) (32 : Int)).toNat : Int) < (↑(32 : Nat) : Int)) && true)
              (Tr.br
                ((byteW (W4.small (BitVec.setWidth (64 : Nat) (n % BitVec.ofInt (8 : Nat) (32 : Int)))) a).a ==
                    (W4.small
                        (BitVec.setWidth (64 : Nat)
                          (a.bytes.getD (n % BitVec.ofInt (8 : Nat) (32 : Int)).toNat (OfNat.ofNat (0 : Nat))))).a &&
                  ((byteW (W4.small (BitVec.setWidth (64 : Nat) (n % BitVec.ofInt (8 : Nat) (32 : Int)))) a).b ==
                      (W4.small
                          (BitVec.setWidth (64 : Nat)
                            (a.bytes.getD (n % BitVec.ofInt (8 : Nat) (32 : Int)).toNat (OfNat.ofNat (0 : Nat))))).b &&
                    ((byteW (W4.small (BitVec.setWidth (64 : Nat) (n % BitVec.ofInt (8 : Nat) (32 : Int)))) a).c ==
                        (W4.small
                            (BitVec.setWidth (64 : Nat)
                              (a.bytes.getD (n % BitVec.ofInt (8 : Nat) (32 : Int)).toNat
                                (OfNat.ofNat (0 : Nat))))).c &&
                      ((byteW (W4.small (BitVec.setWidth (64 : Nat) (n % BitVec.ofInt (8 : Nat) (32 : Int)))) a).d ==
                          (W4.small
                              (BitVec.setWidth (64 : Nat)
                                (a.bytes.getD (n % BitVec.ofInt (8 : Nat) (32 : Int)).toNat
                                  (OfNat.ofNat (0 : Nat))))).d &&
                        true))))
                (Tr.chk true
                  (Tr.leaf
                    (Fin.ret
                        (V.bool
                          (((a.andW b).add (a.orW b)).a == (a.add b).a &&
                            (((a.andW b).add (a.orW b)).b == (a.add b).b &&
                              (((a.andW b).add (a.orW b)).c == (a.add b).c &&
                                (((a.andW b).add (a.orW b)).d == (a.add b).d && true))))),
                      [])))
                (Tr.chk true (Tr.leaf (Fin.ret (V.bool false), [])))))
            (Tr.chk true (Tr.leaf (Fin.ret (V.bool false), [])))))
        (Tr.chk true (Tr.leaf (Fin.ret (V.bool false), [])))))
    (Tr.chk true (Tr.leaf (Fin.ret (V.bool false), [])))) := by kernel_rfl
theorem wshift_x (a : W4) (n : W4) : Tr.prune ((((((((Tr.Sh.any.l.l.l.l.both
                                                                                              Tr.Sh.any.r.r.r.r).l.l.l.l.l.l.l.l.both
                                                                          Tr.Sh.any.r.r.r.r.r.r.r.r.r.r.r.r.r).l.l.l.l.both
                                                              Tr.Sh.any.r.r.r.r.r.r.r.r.r.r.r.r.r.r.r.r.r.r).l.l.l.l.both
                                                  Tr.Sh.any.r.r.r.r.r.r.r.r.r.r.r.r.r.r.r.r.r.r.r.r.r.r.r).l.l.l.l.both
                                      Tr.Sh.any.r.r.r.r.r.r.r.r.r.r.r.r.r.r.r.r.r.r.r.r.r.r.r.r.r.r.r.r).l.l.l.l.l.l.both
                      Tr.Sh.any.r.r.r.r.r.r.r.r.r.r.r.r.r.r.r.r.r.r.r.r.r.r.r.r.r.r.r.r.r.r.r.r.r.r.r).l.l.l.l.l.l.l.both
    ((((((Tr.Sh.any.l.l.l.l.both Tr.Sh.any.r.r.r.r).l.l.l.l.l.l.l.l.both
                                                                        Tr.Sh.any.r.r.r.r.r.r.r.r.r.r.r.r.r).l.l.l.l.both
                                                            Tr.Sh.any.r.r.r.r.r.r.r.r.r.r.r.r.r.r.r.r.r.r).l.l.l.l.both
                                                Tr.Sh.any.r.r.r.r.r.r.r.r.r.r.r.r.r.r.r.r.r.r.r.r.r.r.r).l.l.l.l.both
                                    Tr.Sh.any.r.r.r.r.r.r.r.r.r.r.r.r.r.r.r.r.r.r.r.r.r.r.r.r.r.r.r.r).l.l.l.l.l.l.both
                    Tr.Sh.any.r.r.r.r.r.r.r.r.r.r.r.r.r.r.r.r.r.r.r.r.r.r.r.r.r.r.r.r.r.r.r.r.r.r.r).l.l.l.l.l.l.l).r)
  (execBF Pr OT3 noLoopsT (100 : Nat) Go.Proofs.Tryd.f7 [a.v, n.v] []) =
  Tr.chk true
  (Tr.br
    (slt a
      (W4.mk (BitVec.ofInt (64 : Nat) (0 : Int)) (BitVec.ofInt (64 : Nat) (0 : Int)) (BitVec.ofInt (64 : Nat) (0 : Int))
        (BitVec.ofInt (64 : Nat) (0 : Int))))
    (Tr.chk true
      (Tr.br
        ((shlW (W4.small (BitVec.ofInt (64 : Nat) (1 : Int))) a).a == (a.add a).a &&
          ((shlW (W4.small (BitVec.ofInt (64 : Nat) (1 : Int))) a).b == (a.add a).b &&
            ((shlW (W4.small (BitVec.ofInt (64 : Nat) (1 : Int))) a).c == (a.add a).c &&
              ((shlW (W4.small (BitVec.ofInt (64 : Nat) (1 : Int))) a).d == (a.add a).d && true))))
        (Tr.chk true
          (Tr.br
            ((shrW (W4.small (BitVec.ofInt (64 : Nat) (1 : Int))) a).a ==
                (divQ a (W4.small (BitVec.ofInt (64 : Nat) (2 : Int)))).a &&
              ((shrW (W4.small (BitVec.ofInt (64 : Nat) (1 : Int))) a).b ==
                  (divQ a (W4.small (BitVec.ofInt (64 : Nat) (2 : Int)))).b &&
                ((shrW (W4.small (BitVec.ofInt (64 : Nat) (1 : Int))) a).c ==
                    (divQ a (W4.small (BitVec.ofInt (64 : Nat) (2 : Int)))).c &&
                  ((shrW (W4.small (BitVec.ofInt (64 : Nat) (1 : Int))) a).d ==
                      (divQ a (W4.small (BitVec.ofInt (64 : Nat) (2 : Int)))).d &&
                    true))))
            (Tr.chk true
              (Tr.br
                ((shlW (n.orW (W4.small (BitVec.ofInt (64 : Nat) (256 : Int)))) a).a ==
                    BitVec.ofInt (64 : Nat) (0 : Int) &&
                  ((shlW (n.orW (W4.small (BitVec.ofInt (64 : Nat) (256 : Int)))) a).b ==
                      BitVec.ofInt (64 : Nat) (0 : Int) &&
                    ((shlW (n.orW (W4.small (BitVec.ofInt (64 : Nat) (256 : Int)))) a).c ==
                        BitVec.ofInt (64 : Nat) (0 : Int) &&
                      ((shlW (n.orW (W4.small (BitVec.ofInt (64 : Nat) (256 : Int)))) a).d ==
                          BitVec.ofInt (64 : Nat) (0 : Int) &&
                        true))))
                (Tr.chk true
                  (Tr.br
                    ((shrW (n.orW (W4.small (BitVec.ofInt (64 : Nat) (256 : Int)))) a).a ==
                        BitVec.ofInt (64 : Nat) (0 : Int) &&
                      ((shrW (n.orW (W4.small (BitVec.ofInt (64 : Nat) (256 : Int)))) a).b ==
                          BitVec.ofInt (64 : Nat) (0 : Int) &&
                        ((shrW (n.orW (W4.small (BitVec.ofInt (64 : Nat) (256 : Int)))) a).c ==
                            BitVec.ofInt (64 : Nat) (0 : Int) &&
                          ((shrW (n.orW (W4.small (BitVec.ofInt (64 : Nat) (256 : Int)))) a).d ==
                              BitVec.ofInt (64 : Nat) (0 : Int) &&
                            true))))
                    (Tr.chk true
                      (Tr.br
                        ((sarW (n.orW (W4.small (BitVec.ofInt (64 : Nat) (256 : Int)))) a).a ==
                            (W4.mk (BitVec.ofInt (64 : Nat) (0 : Int)) (BitVec.ofInt (64 : Nat) (0 : Int))
                                  (BitVec.ofInt (64 : Nat) (0 : Int)) (BitVec.ofInt (64 : Nat) (0 : Int))).notW.a &&
                          ((sarW (n.orW (W4.small (BitVec.ofInt (64 : Nat) (256 : Int)))) a).b ==
                              (W4.mk (BitVec.ofInt (64 : Nat) (0 : Int)) (BitVec.ofInt (64 : Nat) (0 : Int))
                                    (BitVec.ofInt (64 : Nat) (0 : Int)) (BitVec.ofInt (64 : Nat) (0 : Int))).notW.b &&
                            ((sarW (n.orW (W4.small (BitVec.ofInt (64 : Nat) (256 : Int)))) a).c ==
                                (W4.mk (BitVec.ofInt (64 : Nat) (0 : Int)) (BitVec.ofInt (64 : Nat) (0 : Int))
                                      (BitVec.ofInt (64 : Nat) (0 : Int)) (BitVec.ofInt (64 : Nat) (0 : Int))).notW.c &&
                              ((sarW (n.orW (W4.small (BitVec.ofInt (64 : Nat) (256 : Int)))) a).d ==
                                  (W4.mk (BitVec.ofInt (64 : Nat) (0 : Int)) (BitVec.ofInt (64 : Nat) (0 : Int))
                                        (BitVec.ofInt (64 : Nat) (0 : Int))
                                        (BitVec.ofInt (64 : Nat) (0 : Int))).notW.d &&
                                true))))
                        (Tr.chk true
                          (Tr.br
                            (slt (sarW (W4.small (BitVec.ofInt (64 : Nat) (1 : Int))) a)
                                (W4.mk (BitVec.ofInt (64 : Nat) (0 : Int)) (BitVec.ofInt (64 : Nat) (0 : Int))
                                  (BitVec.ofInt (64 : Nat) (0 : Int)) (BitVec.ofInt (64 : Nat) (0 : Int))) ==
                              slt a
                                (W4.mk (BitVec.ofInt (64 : Nat) (0 : Int)) (BitVec.ofInt (64 : Nat) (0 : Int))
                                  (BitVec.ofInt (64 : Nat) (0 : Int)) (BitVec.ofInt (64 : Nat) (0 : Int))))
                            (Tr.chk true
                              (Tr.leaf
                                (Fin.ret
                                    (V.bool
                                      ((sarW
                                              (W4.mk (BitVec.ofInt (64 : Nat) (0 : Int))
                                                (BitVec.ofInt (64 : Nat) (0 : Int)) (BitVec.ofInt (64 : Nat) (0 : Int))
                                                (BitVec.ofInt (64 : Nat) (0 : Int)))
                                              a).a ==
                                          a.a &&
                                        ((sarW
                                                (W4.mk (BitVec.ofInt (64 : Nat) (0 : Int))
                                                  (BitVec.ofInt (64 : Nat) (0 : Int))
                                                  (BitVec.ofInt (64 : Nat) (0 : Int))
                                                  (BitVec.ofInt (64 : Nat) (0 : Int)))
                                                a).b ==
                                            a.b &&
                                          ((sarW
                                                  (W4.mk (BitVec.ofInt (64 : Nat) (0 : Int))
                                                    (BitVec.ofInt (64 : Nat) (0 : Int))
                                                    (BitVec.ofInt (64 : Nat) (0 : Int))
                                                    (BitVec.ofInt (64 : Nat) (0 : Int)))
                                                  a).c ==
                                              a.c &&
                                            ((sarW
                                                    (W4.mk (BitVec.ofInt (64 : Nat) (0 : Int))
                                                      (BitVec.ofInt (64 : Nat) (0 : Int))
                                                      (BitVec.ofInt (64 : Nat) (0 : Int))
                                                      (BitVec.ofInt (64 : Nat) (0 : Int)))
                                                    a).d ==
                                                a.d &&
                                              true))))),
                                  [])))
                            (Tr.chk true (Tr.leaf (Fin.ret (V.bool false), [])))))
                        (Tr.chk true (Tr.leaf (Fin.ret (V.bool false), [])))))
                    (Tr.chk true (Tr.leaf (Fin.ret (V.bool false), [])))))
                (Tr.chk true (Tr.leaf (Fin.ret (V.bool false), [])))))
            (Tr.chk true (Tr.leaf (Fin.ret (V.bool false), [])))))
        (Tr.chk true (Tr.leaf (Fin.ret (V.bool false), [])))))
    (Tr.chk true
      (Tr.br
        ((shlW (W4.small (BitVec.ofInt (64 : Nat) (1 : Int))) a).a == (a.add a).a &&
          ((shlW (W4.small (BitVec.ofInt (64 : Nat) (1 : Int))) a).b == (a.add a).b &&
            ((shlW (W4.small (BitVec.ofInt (64 : Nat) (1 : Int))) a).c == (a.add a).c &&
              ((shlW (W4.small (BitVec.ofInt (64 : Nat) (1 : Int))) a).d == (a.add a).d && true))))
        (Tr.chk true
          (Tr.br
            ((shrW (W4.small (BitVec.ofInt (64 : Nat) (1 : Int))) a).a ==
                (divQ a (W4.small (BitVec.ofInt (64 : Nat) (2 : Int)))).a &&
              ((shrW (W4.small (BitVec.ofInt (64 : Nat) (1 : Int))) a).b ==
                  (divQ a (W4.small (BitVec.ofInt (64 : Nat) (2 : Int)))).b &&
                ((shrW (W4.small (BitVec.ofInt (64 : Nat) (1 : Int))) a).c ==
                    (divQ a (W4.small (BitVec.ofInt (64 : Nat) (2 : Int)))).c &&
                  ((shrW (W4.small (BitVec.ofInt (64 : Nat) (1 : Int))) a).d ==
                      (divQ a (W4.small (BitVec.ofInt (64 : Nat) (2 : Int)))).d &&
                    true))))
            (Tr.chk true
              (Tr.br
                ((shlW (n.orW (W4.small (BitVec.ofInt (64 : Nat) (256 : Int)))) a).a ==
                    BitVec.ofInt (64 : Nat) (0 : Int) &&
                  ((shlW (n.orW (W4.small (BitVec.ofInt (64 : Nat) (256 : Int)))) a).b ==
                      BitVec.ofInt (64 : Nat) (0 : Int) &&
                    ((shlW (n.orW (W4.small (BitVec.ofInt (64 : Nat) (256 : Int)))) a).c ==
                        BitVec.ofInt (64 : Nat) (0 : Int) &&
                      ((shlW (n.orW (W4.small (BitVec.ofInt (64 : Nat) (256 : Int)))) a).d ==
                          BitVec.ofInt (64 : Nat) (0 : Int) &&
                        true))))
                (Tr.chk true
                  (Tr.br
                    ((shrW (n.orW (W4.small (BitVec.ofInt (64 : Nat) (256 : Int)))) a).a ==
                        BitVec.ofInt (64 : Nat) (0 : Int) &&
                      ((shrW (n.orW (W4.small (BitVec.ofInt (64 : Nat) (256 : Int)))) a).b ==
                          BitVec.ofInt (64 : Nat) (0 : Int) &&
                        ((shrW (n.orW (W4.small (BitVec.ofInt (64 : Nat) (256 : Int)))) a).c ==
                            BitVec.ofInt (64 : Nat) (0 : Int) &&
                          ((shrW (n.orW (W4.small (BitVec.ofInt (64 : Nat) (256 : Int)))) a).d ==
                              BitVec.ofInt (64 : Nat) (0 : Int) &&
                            true))))
                    (Tr.chk true
                      (Tr.br
                        ((sarW (n.orW (W4.small (BitVec.ofInt (64 : Nat) (256 : Int)))) a).a ==
                            BitVec.ofInt (64 : Nat) (0 : Int) &&
                          ((sarW (n.orW (W4.small (BitVec.ofInt (64 : Nat) (256 : Int)))) a).b ==
                              BitVec.ofInt (64 : Nat) (0 : Int) &&
                            ((sarW (n.orW (W4.small (BitVec.ofInt (64 : Nat) (256 : Int)))) a).c ==
                                BitVec.ofInt (64 : Nat) (0 : Int) &&
                              ((sarW (n.orW (W4.small (BitVec.ofInt (64 : Nat) (256 : Int)))) a).d ==
                                  BitVec.ofInt (64 : Nat) (0 : Int) &&
                                true))))
                        (Tr.chk true
                          (Tr.br
                            (slt (sarW (W4.small (BitVec.ofInt (64 : Nat) (1 : Int))) a)
                                (W4.mk (BitVec.ofInt (64 : Nat) (0 : Int)) (BitVec.ofInt (64 : Nat) (0 : Int))
                                  (BitVec.ofInt (64 : Nat) (0 : Int)) (BitVec.ofInt (64 : Nat) (0 : Int))) ==
                              slt a
                                (W4.mk (BitVec.ofInt (64 : Nat) (0 : Int)) (BitVec.ofInt (64 : Nat) (0 : Int))
                                  (BitVec.ofInt (64 : Nat) (0 : Int)) (BitVec.ofInt (64 : Nat) (0 : Int))))
                            (Tr.chk true
                              (Tr.leaf
                                (Fin.ret
                                    (V.bool
                                      ((sarW
                                              (W4.mk (BitVec.ofInt (64 : Nat) (0 : Int))
                                                (BitVec.ofInt (64 : Nat) (0 : Int)) (BitVec.ofInt (64 : Nat) (0 : Int))
                                                (BitVec.ofInt (64 : Nat) (0 : Int)))
                                              a).a ==
                                          a.a &&
                                        ((sarW
                                                (W4.mk (BitVec.ofInt (64 : Nat) (0 : Int))
                                                  (BitVec.ofInt (64 : Nat) (0 : Int))
                                                  (BitVec.ofInt (64 : Nat) (0 : Int))
                                                  (BitVec.ofInt (64 : Nat) (0 : Int)))
                                                a).b ==
                                            a.b &&
                                          ((sarW
                                                  (W4.mk (BitVec.ofInt (64 : Nat) (0 : Int))
                                                    (BitVec.ofInt (64 : Nat) (0 : Int))
                                                    (BitVec.ofInt (64 : Nat) (0 : Int))
                                                    (BitVec.ofInt (64 : Nat) (0 : Int)))
                                                  a).c ==
                                              a.c &&
                                            ((sarW
                                                    (W4.mk (BitVec.ofInt (64 : Nat) (0 : Int))
                                                      (BitVec.ofInt (64 : Nat) (0 : Int))
                                                      (BitVec.ofInt (64 : Nat) (0 : Int))
                                                      (BitVec.ofInt (64 : Nat) (0 : Int)))
                                                    a).d ==
                                                a.d &&
                                              true))))),
                                  [])))
                            (Tr.chk true (Tr.leaf (Fin.ret (V.bool false), [])))))
                        (Tr.chk true (Tr.leaf (Fin.ret (V.bool false), [])))))
                    (Tr.chk true (Tr.leaf (Fin.ret (V.bool false), [])))))
                (Tr.chk true (Tr.leaf (Fin.ret (V.bool false), [])))))
            (Tr.chk true (Tr.leaf (Fin.ret (V.bool false), [])))))
        (Tr.chk true (Tr.leaf (Fin.ret (V.bool false), [])))))) := by kernel_rfl
theorem wback_x (a : W4) (b : W4) : Tr.prune ((((Tr.Sh.any.l.l.l.l.both Tr.Sh.any.r.r.r.r).l.l.l.l.l.l.l.l.l.both
                    Tr.Sh.any.r.r.r.r.r.r.r.r.r.r.r.r.r.r).l.l.l.l.l.l.both
    ((Tr.Sh.any.l.l.l.l.both Tr.Sh.any.r.r.r.r).l.l.l.l.l.l.l.l.l.both
                  Tr.Sh.any.r.r.r.r.r.r.r.r.r.r.r.r.r.r).l.l.l.l.l.l).r)
  (execBF Pr OT3 noLoopsT (100 : Nat) Go.Proofs.Tryd.f3 [a.v, b.v] []) =
  Tr.chk true
  (Tr.br
    (!decide (BitVec.ofInt (8 : Nat) (128 : Int) ≤ a.byteAt (31 : Nat)) ==
        decide (BitVec.ofInt (8 : Nat) (128 : Int) ≤ b.byteAt (31 : Nat)))
    (Tr.chk true
      (Tr.br
        ((W4.ofBytes a.bytes).a == a.a &&
          ((W4.ofBytes a.bytes).b == a.b && ((W4.ofBytes a.bytes).c == a.c && ((W4.ofBytes a.bytes).d == a.d && true))))
        (Tr.chk true
          (Tr.br (a.lt b == ltB a.bytes b.bytes)
            (Tr.chk true
              (Tr.leaf
                (Fin.ret (V.bool (slt a b == decide (BitVec.ofInt (8 : Nat) (128 : Int) ≤ a.byteAt (31 : Nat)))), [])))
            (Tr.chk true (Tr.leaf (Fin.ret (V.bool false), [])))))
        (Tr.chk true (Tr.leaf (Fin.ret (V.bool false), [])))))
    (Tr.chk true
      (Tr.br
        ((W4.ofBytes a.bytes).a == a.a &&
          ((W4.ofBytes a.bytes).b == a.b && ((W4.ofBytes a.bytes).c == a.c && ((W4.ofBytes a.bytes).d == a.d && true))))
        (Tr.chk true
          (Tr.br (a.lt b == ltB a.bytes b.bytes)
            (Tr.chk true (Tr.leaf (Fin.ret (V.bool (slt a b == ltB a.bytes b.bytes)), [])))
            (Tr.chk true (Tr.leaf (Fin.ret (V.bool false), [])))))
        (Tr.chk true (Tr.leaf (Fin.ret (V.bool false), [])))))) := by kernel_rfl
end
end Go.Proofs.YtajbaocfdlopbaaDoor.K
end
section
open Go Go.Lh
namespace Go.Proofs.YtajbaocfdlopbaaDoor.K
noncomputable section
set_option maxRecDepth 100000
theorem divQ_n (x y : W4) : (divQ x y).n = x.n / y.n := by
  have := x.n_lt
  rw [divQ, W4.of_toNat, BitVec.toNat_ofNat, Nat.mod_eq_of_lt (Nat.lt_of_le_of_lt (Nat.div_le_self _ _) this)]
theorem divR_n {x y : W4} (h : y.n ≠ 0) : (divR x y).n = x.n % y.n := by
  have := x.n_lt
  rw [divR, if_neg h, W4.of_toNat, BitVec.toNat_ofNat, Nat.mod_eq_of_lt (Nat.lt_of_le_of_lt (Nat.mod_le _ _) this)]
theorem z64 : BitVec.ofInt 64 0 = 0#64 := rfl
theorem wordDivides_fn (a b : W4) : LFn Pr 9 [a.v, b.v] [] (.ret (.bool true)) [] := by
  refine fnT OT3_sound mixed (by kernel_rfl) LoopsOk.noneT (wdiv_x a b) ?_
  simp only [wp_chk_true, wp_leaf, wp_br, ret_bool, z64, Bool.and_true, W4.eqT', W4.zeroT', decide_eq_true_eq, decide_eq_false_iff_not, and_true, Bool.false_eq_true, W4.lt_iff]
  have hq := divQ_n a b
  refine ⟨fun h0 => ?_, fun h0 => ?_⟩
  · rw [h0, Nat.div_zero] at hq
    have hr : (divR a b).n = 0 := by rw [divR, if_pos h0]; rfl
    refine ⟨fun _ => by omega, fun h => by omega⟩
  · have hr := divR_n (x := a) h0
    have hd := Nat.div_add_mod a.n b.n
    have ha := a.n_lt
    have hm : (divQ a b).n * b.n ≤ a.n := by rw [hq]; exact Nat.div_mul_le_self _ _
    have h1 := W4.mul_n' (x := divQ a b) (y := b) (by omega)
    rw [hq, Nat.mul_comm] at h1
    have h2 := W4.add_n' (x := (divQ a b).mul b) (y := divR a b) (by omega)
    have hlt := Nat.mod_lt a.n (Nat.pos_of_ne_zero h0)
    refine ⟨fun _ => by omega, fun h => by omega⟩
theorem wordTurns_fn (a b c : W4) : LFn Pr 4 [a.v, b.v, c.v] [] (.ret (.bool true)) [] := by
  refine fnT OT3_sound mixed (by kernel_rfl) LoopsOk.noneT (wturn_x a b c) ?_
  simp only [wp_chk_true, wp_leaf, wp_br, ret_bool, Bool.and_true, W4.eqT', W4.add_sub, W4.add_comm b a, W4.mul_comm b a, W4.mul_add a b c, W4.mul_assoc, decide_true, and_true, true_implies, Bool.true_eq_false, false_implies]
end
end Go.Proofs.YtajbaocfdlopbaaDoor.K
end
section
open Go Go.Lh
namespace Go.Proofs.YtajbaocfdlopbaaDoor.K
noncomputable section
set_option maxRecDepth 100000
theorem xor63 (x : BitVec 64) : (x ^^^ BitVec.ofInt 64 9223372036854775808).toNat = if x.toNat < 2 ^ 63 then x.toNat + 2 ^ 63 else x.toNat - 2 ^ 63 := by
  have hs : BitVec.ofInt 64 9223372036854775808 = BitVec.ofNat 64 (2 ^ 63) := rfl
  rw [hs, BitVec.toNat_xor, BitVec.toNat_ofNat, Nat.mod_eq_of_lt (by decide)]
  have hx := x.isLt
  generalize x.toNat = n at *
  split
  · next h =>
    have : n ^^^ 2 ^ 63 = 2 ^ 63 * 1 + n := by
      rw [Nat.two_pow_add_eq_or_of_lt h 1]
      apply Nat.eq_of_testBit_eq
      intro i
      rw [Nat.testBit_xor, Nat.testBit_or, Nat.mul_one, Nat.testBit_two_pow]
      by_cases e : 63 = i
      · subst e; rw [Nat.testBit_lt_two_pow h]; rfl
      · simp [e]
    omega
  · next h =>
    have h2 : n - 2 ^ 63 < 2 ^ 63 := by omega
    have e : n = 2 ^ 63 * 1 + (n - 2 ^ 63) := by omega
    generalize n - 2 ^ 63 = m at *
    rw [Nat.two_pow_add_eq_or_of_lt h2 1, Nat.mul_one] at e
    subst e
    apply Nat.eq_of_testBit_eq
    intro i
    rw [Nat.testBit_xor, Nat.testBit_or, Nat.testBit_two_pow]
    by_cases e : 63 = i
    · subst e; rw [Nat.testBit_lt_two_pow h2]; rfl
    · simp [e]
theorem flip_n (x : W4) : (flip x).n = if x.n < 2 ^ 255 then x.n + 2 ^ 255 else x.n - 2 ^ 255 := by
  have h := xor63 x.a
  have hb := x.b.isLt
  have hc := x.c.isLt
  have hd := x.d.isLt
  have hf : (flip x).n = 2 ^ 192 * (x.a ^^^ BitVec.ofInt 64 9223372036854775808).toNat + (2 ^ 128 * x.b.toNat + (2 ^ 64 * x.c.toNat + x.d.toNat)) := rfl
  have hn : x.n = 2 ^ 192 * x.a.toNat + (2 ^ 128 * x.b.toNat + (2 ^ 64 * x.c.toNat + x.d.toNat)) := rfl
  rw [hf, h]
  by_cases h1 : x.a.toNat < 2 ^ 63
  · rw [if_pos h1, if_pos (by omega)]; omega
  · rw [if_neg h1, if_neg (by omega)]; omega
theorem slt_iff (x y : W4) : slt x y = decide ((if x.n < 2 ^ 255 then x.n + 2 ^ 255 else x.n - 2 ^ 255) < (if y.n < 2 ^ 255 then y.n + 2 ^ 255 else y.n - 2 ^ 255)) := by
  rw [Bool.eq_iff_iff, decide_eq_true_iff, slt, W4.lt_iff, flip_n, flip_n]
theorem slt_sign (x y : W4) : slt x y = decide ((2 ^ 255 ≤ x.n ∧ ¬ 2 ^ 255 ≤ y.n) ∨ ((2 ^ 255 ≤ x.n ↔ 2 ^ 255 ≤ y.n) ∧ x.n < y.n)) := by
  rw [slt_iff, Bool.eq_iff_iff, decide_eq_true_iff, decide_eq_true_iff]
  have hx := x.n_lt
  have hy := y.n_lt
  by_cases h1 : x.n < 2 ^ 255
  · by_cases h2 : y.n < 2 ^ 255
    · rw [if_pos h1, if_pos h2]; omega
    · rw [if_pos h1, if_neg h2]; omega
  · by_cases h2 : y.n < 2 ^ 255
    · rw [if_neg h1, if_pos h2]; omega
    · rw [if_neg h1, if_neg h2]; omega
theorem slt_zero (x : W4) : slt x W4.zero = decide (2 ^ 255 ≤ x.n) := by
  rw [slt_iff, Bool.eq_iff_iff, decide_eq_true_iff, decide_eq_true_iff, W4.zero_n]
  have := x.n_lt
  split <;> simp <;> omega
theorem top_iff (x : W4) : (decide (BitVec.ofInt 8 128 ≤ x.byteAt 31)) = decide (2 ^ 255 ≤ x.n) := by
  have h := W4.byteAt_n x (k := 31) (by decide)
  have := x.n_lt
  rw [Bool.eq_iff_iff, decide_eq_true_iff, decide_eq_true_iff, BitVec.le_def, h]
  have e : (BitVec.ofInt 8 128).toNat = 128 := rfl
  rw [e]
  omega
theorem sign_iff (x : W4) : x.a >>> 63 = BitVec.ofInt 64 0 ↔ x.n < 2 ^ 255 := by
  have ha := x.a.isLt
  have hb := x.b.isLt
  have hc := x.c.isLt
  have hd := x.d.isLt
  rw [← BitVec.toNat_inj, BitVec.toNat_ushiftRight, Nat.shiftRight_eq_div_pow, show (BitVec.ofInt 64 0).toNat = 0 from rfl]
  simp only [W4.n]
  omega
theorem sarW_pos {n x : W4} (h : x.n < 2 ^ 255) : sarW n x = shrW n x := by rw [sarW, if_pos ((sign_iff x).2 h)]
theorem sarW_neg {n x : W4} (h : ¬ x.n < 2 ^ 255) : sarW n x = W4.notW (shrW n (W4.notW x)) := by rw [sarW, if_neg (fun e => h ((sign_iff x).1 e))]
theorem zero_mk : (W4.mk (BitVec.ofInt 64 0) (BitVec.ofInt 64 0) (BitVec.ofInt 64 0) (BitVec.ofInt 64 0)) = W4.zero := rfl
theorem zero_mk' : (W4.mk 0#64 0#64 0#64 0#64) = W4.zero := rfl
theorem small_nn (k : BitVec 64) : (W4.small k).n = k.toNat := by simp [W4.small, W4.n]
theorem far_or (n : W4) : 256 ≤ (W4.orW n (W4.small (BitVec.ofInt 64 256))).n := by
  rw [W4.orW_nn, small_nn]
  have e : (BitVec.ofInt 64 256).toNat = 256 := rfl
  rw [e]
  exact Nat.right_le_or
theorem far_shl (n x : W4) : shlW (W4.orW n (W4.small (BitVec.ofInt 64 256))) x = W4.zero := by
  have := far_or n; rw [shlW, if_neg (by omega)]
theorem far_shr (n x : W4) : shrW (W4.orW n (W4.small (BitVec.ofInt 64 256))) x = W4.zero := by
  have := far_or n; rw [shrW, if_neg (by omega)]
theorem one_shl (x : W4) : shlW (W4.small (BitVec.ofInt 64 1)) x = x.add x := by
  rw [shlW, small_nn, if_pos (by decide)]; exact W4.shl_one x
theorem one_shr (x : W4) : shrW (W4.small (BitVec.ofInt 64 1)) x = W4.shr x 1 := by
  rw [shrW, small_nn, if_pos (by decide)]; rfl
theorem half (x : W4) : W4.shr x 1 = divQ x (W4.small (BitVec.ofInt 64 2)) := by
  apply W4.ext_n; rw [divQ_n, small_nn, W4.shr_n]; rfl
theorem sar_zero (x : W4) : sarW W4.zero x = x := by
  have e : ∀ y, shrW W4.zero y = y := fun y => by rw [shrW, if_pos (by decide)]; exact W4.shr_zero y
  by_cases h : x.n < 2 ^ 255
  · rw [sarW_pos h, e]
  · rw [sarW_neg h, e, W4.not_not]
theorem sar_far (n x : W4) : sarW (W4.orW n (W4.small (BitVec.ofInt 64 256))) x = if x.n < 2 ^ 255 then W4.zero else W4.notW W4.zero := by
  by_cases h : x.n < 2 ^ 255
  · rw [sarW_pos h, far_shr, if_pos h]
  · rw [sarW_neg h, far_shr, if_neg h]
theorem sar_sign (x : W4) : slt (sarW (W4.small (BitVec.ofInt 64 1)) x) W4.zero = slt x W4.zero := by
  rw [slt_zero, slt_zero, Bool.eq_iff_iff, decide_eq_true_iff, decide_eq_true_iff]
  have := x.n_lt
  by_cases h : x.n < 2 ^ 255
  · rw [sarW_pos h, one_shr, W4.shr_n]; omega
  · rw [sarW_neg h, one_shr, W4.not_n, W4.shr_n, W4.not_n]; omega
theorem sar_sign' (x : W4) : decide (2 ^ 255 ≤ (sarW (W4.small (BitVec.ofInt 64 1)) x).n) = decide (2 ^ 255 ≤ x.n) := by
  have := sar_sign x; rwa [slt_zero, slt_zero] at this
theorem byte_eq (n : BitVec 8) (a : W4) : byteW (W4.small (BitVec.setWidth 64 (n % BitVec.ofInt 8 32))) a = W4.small (BitVec.setWidth 64 (a.bytes.getD (n % BitVec.ofInt 8 32).toNat (OfNat.ofNat 0))) := by
  have e : (n % BitVec.ofInt 8 32).toNat < 32 := by
    rw [BitVec.toNat_umod]; exact Nat.mod_lt _ (by decide)
  have e2 : (W4.small (BitVec.setWidth 64 (n % BitVec.ofInt 8 32))).n = (n % BitVec.ofInt 8 32).toNat := by
    rw [small_nn, BitVec.toNat_setWidth, Nat.mod_eq_of_lt (by omega)]
  rw [byteW, e2, if_pos e]
theorem lo_eq (n : BitVec 8) (a : W4) : shrW (W4.small (BitVec.setWidth 64 n)) (shlW (W4.small (BitVec.setWidth 64 n)) a) = W4.andW a (shrW (W4.small (BitVec.setWidth 64 n)) (W4.notW W4.zero)) := by
  have h := n.isLt
  have e2 : (W4.small (BitVec.setWidth 64 n)).n = n.toNat := by
    rw [small_nn, BitVec.toNat_setWidth, Nat.mod_eq_of_lt (by omega)]
  rw [shrW, shlW, shrW, e2, if_pos (by omega), if_pos (by omega), if_pos (by omega)]
  exact W4.shl_shr a _ (by omega)
theorem wordBits_fn (a b : W4) (n : BitVec 8) : LFn Pr 6 [a.v, b.v, .u8 n] [] (.ret (.bool true)) [] := by
  refine fnT OT3_sound mixed (by kernel_rfl) LoopsOk.noneT (wbits_x a b n) ?_
  have e : (n % BitVec.ofInt 8 32).toNat < 32 := by
    rw [BitVec.toNat_umod]; exact Nat.mod_lt _ (by decide)
  simp only [zero_mk, zero_mk', z64, true_and, wp_chk_true, wp_chk, wp_leaf, wp_br, ret_bool, Bool.and_true, W4.eqT', W4.xor_eq, W4.not_and, lo_eq, byte_eq, W4.and_or_add, decide_true, and_true, true_implies, Bool.true_eq_false, false_implies, decide_eq_true_eq]
  rw [show (BitVec.ofInt 8 32 : BitVec 8) = 32#8 from rfl] at *
  omega
theorem wordShifts_fn (a n : W4) : LFn Pr 7 [a.v, n.v] [] (.ret (.bool true)) [] := by
  refine fnT OT3_sound mixed (by kernel_rfl) LoopsOk.noneT (wshift_x a n) ?_
  simp only [zero_mk, zero_mk', z64, true_and, wp_chk_true, wp_chk, wp_leaf, wp_br, ret_bool, Bool.and_true, W4.eqT', W4.zeroT', one_shl, one_shr, half, far_shl, far_shr, sar_far, sar_zero, sar_sign, W4.zero_n, decide_true, and_true, true_implies, Bool.true_eq_false, false_implies, decide_eq_true_eq, slt_zero, sar_sign', beq_self_eq_true, implies_true, decide_eq_false_iff_not]
  refine ⟨fun h => ?_, fun h => ?_⟩
  · rw [if_neg (by omega)]; exact fun h => (h rfl).elim
  · rw [if_pos (by omega)]; exact fun h => (h rfl).elim
theorem wordBack_fn (a b : W4) : LFn Pr 3 [a.v, b.v] [] (.ret (.bool true)) [] := by
  refine fnT OT3_sound mixed (by kernel_rfl) LoopsOk.noneT (wback_x a b) ?_
  simp only [zero_mk, zero_mk', z64, true_and, wp_chk_true, wp_chk, wp_leaf, wp_br, ret_bool, Bool.and_true, W4.eqT', W4.ofBytes_bytes, W4.ltB_bytes, decide_true, and_true, true_implies, Bool.true_eq_false, false_implies, decide_eq_true_eq, top_iff, slt_sign, beq_self_eq_true, beq_iff_eq, bne_iff_ne]
  refine ⟨fun h => ?_, fun h => ?_⟩
  · rw [Bool.eq_iff_iff, decide_eq_true_iff, decide_eq_true_iff]
    have h : ¬ (2 ^ 255 ≤ a.n ↔ 2 ^ 255 ≤ b.n) := fun e => by simp [e] at h
    omega
  · rw [Bool.eq_iff_iff, decide_eq_true_iff, W4.lt_iff]
    have h : (2 ^ 255 ≤ a.n ↔ 2 ^ 255 ≤ b.n) := by
      by_cases h1 : 2 ^ 255 ≤ a.n <;> by_cases h2 : 2 ^ 255 ≤ b.n <;> simp [h1, h2] at h ⊢
    omega
end
end Go.Proofs.YtajbaocfdlopbaaDoor.K
end
section
open Go Go.Lh
namespace Go.Proofs.YtajbaocfdlopbaaDoor.K
noncomputable section
set_option maxRecDepth 100000
def OM0 : OrcT := autoT Pr ext KW2 [] 5
theorem OM0_sound : OrcSound Pr OM0.o := autoT_sound mixed ext_ok KW2_ok (by kernel_rfl) 5
theorem turn_x (a : W4) (y : Bool) : Tr.prune (Tr.Sh.any.both Tr.Sh.any)
  (execBF Pr OM0 noLoopsT (100 : Nat) Go.Proofs.Tryd.f109 [a.v, V.bool y] []) =
  Tr.chk true
  (Tr.br y
    (Tr.chk true
      (Tr.leaf
        (Fin.ret
            (V.agg
              [V.u64
                  ((W4.mk (BitVec.ofInt (64 : Nat) (0 : Int)) (BitVec.ofInt (64 : Nat) (0 : Int))
                          (BitVec.ofInt (64 : Nat) (0 : Int)) (BitVec.ofInt (64 : Nat) (0 : Int))).sub
                      a).a,
                V.u64
                  ((W4.mk (BitVec.ofInt (64 : Nat) (0 : Int)) (BitVec.ofInt (64 : Nat) (0 : Int))
                          (BitVec.ofInt (64 : Nat) (0 : Int)) (BitVec.ofInt (64 : Nat) (0 : Int))).sub
                      a).b,
                V.u64
                  ((W4.mk (BitVec.ofInt (64 : Nat) (0 : Int)) (BitVec.ofInt (64 : Nat) (0 : Int))
                          (BitVec.ofInt (64 : Nat) (0 : Int)) (BitVec.ofInt (64 : Nat) (0 : Int))).sub
                      a).c,
                V.u64
                  ((W4.mk (BitVec.ofInt (64 : Nat) (0 : Int)) (BitVec.ofInt (64 : Nat) (0 : Int))
                          (BitVec.ofInt (64 : Nat) (0 : Int)) (BitVec.ofInt (64 : Nat) (0 : Int))).sub
                      a).d]),
          [])))
    (Tr.chk true (Tr.leaf (Fin.ret (V.agg [V.u64 a.a, V.u64 a.b, V.u64 a.c, V.u64 a.d]), [])))) := by kernel_rfl
theorem minus_x (a : W4) : Tr.prune (Tr.Sh.any)
  (execBF Pr OM0 noLoopsT (100 : Nat) Go.Proofs.Tryd.f110 [a.v] []) =
  Tr.chk true
  (Tr.leaf (Fin.ret (V.bool (a.a >>> (63 : Nat) == BitVec.ofInt (64 : Nat) (1 : Int))), [])) := by kernel_rfl
theorem sext_x (k : W4) (a : W4) : Tr.prune (Tr.Sh.any.both Tr.Sh.any)
  (execBF Pr OM0 noLoopsT (100 : Nat) Go.Proofs.Tryd.f74 [k.v, a.v] []) =
  Tr.chk true
  (Tr.br (!k.lt (W4.small (BitVec.ofInt (64 : Nat) (31 : Int))))
    (Tr.chk true (Tr.leaf (Fin.ret (V.agg [V.u64 a.a, V.u64 a.b, V.u64 a.c, V.u64 a.d]), [])))
    (Tr.chk true
      (Tr.leaf
        (Fin.ret
            (V.agg
              [V.u64
                  (sarW (W4.small (BitVec.ofInt (64 : Nat) (8 : Int) * (BitVec.ofInt (64 : Nat) (31 : Int) - k.d)))
                      (shlW (W4.small (BitVec.ofInt (64 : Nat) (8 : Int) * (BitVec.ofInt (64 : Nat) (31 : Int) - k.d)))
                        a)).a,
                V.u64
                  (sarW (W4.small (BitVec.ofInt (64 : Nat) (8 : Int) * (BitVec.ofInt (64 : Nat) (31 : Int) - k.d)))
                      (shlW (W4.small (BitVec.ofInt (64 : Nat) (8 : Int) * (BitVec.ofInt (64 : Nat) (31 : Int) - k.d)))
                        a)).b,
                V.u64
                  (sarW (W4.small (BitVec.ofInt (64 : Nat) (8 : Int) * (BitVec.ofInt (64 : Nat) (31 : Int) - k.d)))
                      (shlW (W4.small (BitVec.ofInt (64 : Nat) (8 : Int) * (BitVec.ofInt (64 : Nat) (31 : Int) - k.d)))
                        a)).c,
                V.u64
                  (sarW (W4.small (BitVec.ofInt (64 : Nat) (8 : Int) * (BitVec.ofInt (64 : Nat) (31 : Int) - k.d)))
                      (shlW (W4.small (BitVec.ofInt (64 : Nat) (8 : Int) * (BitVec.ofInt (64 : Nat) (31 : Int) - k.d)))
                        a)).d]),
          [])))) := by kernel_rfl
theorem tlb_x (s : List (BitVec 8)) (c : BitVec 8) : Tr.prune ((Tr.Sh.any.both Tr.Sh.any).l.l.l.both
  Tr.Sh.any.r.r.r.r)
  (execBN Pr OM0 noLoopsT (100 : Nat) (0 : Nat) [(0 : Nat), (1 : Nat)] [(0 : Nat)] (loopBody Go.Proofs.Tryd.f118 (0 : Nat))
  [((0 : Nat), V.str s), ((1 : Nat), V.u8 c)] []) =
  Tr.chk true
  (Tr.br (decide ((↑s.length : Int) > (0 : Int)))
    (Tr.chk (decide ((0 : Int) < (↑s.length : Int)) && true)
      (Tr.br (s.getD (0 : Nat) (OfNat.ofNat (0 : Nat)) == c)
        (Tr.chk
          (decide ((1 : Int) ≤ none.getD (↑s.length : Int)) &&
              decide (none.getD (↑s.length : Int) ≤ (↑s.length : Int)) &&
            true)
          (Tr.leaf
            (X.normal,
              [((0 : Nat), V.str (List.drop (1 : Nat) (List.take (none.getD (↑s.length : Int)).toNat s))),
                ((1 : Nat), V.u8 c)],
              [])))
        (Tr.leaf (X.exit (0 : Nat), [((0 : Nat), V.str s)], []))))
    (Tr.chk true (Tr.leaf (X.exit (0 : Nat), [((0 : Nat), V.str s)], [])))) := by kernel_rfl
def turnW (a : W4) (y : Bool) : W4 := if y then W4.zero.sub a else a
def sgW (a : W4) : Bool := decide (2 ^ 255 ≤ a.n)
theorem sg_eq (x : W4) : (x.a >>> 63 == BitVec.ofInt 64 1) = sgW x := by
  have := x.a.isLt
  have h := sign_iff x
  rw [sgW, Bool.eq_iff_iff, beq_iff_eq, decide_eq_true_iff]
  rw [← BitVec.toNat_inj, BitVec.toNat_ushiftRight, Nat.shiftRight_eq_div_pow, show (BitVec.ofInt 64 0).toNat = 0 from rfl] at h
  rw [← BitVec.toNat_inj, BitVec.toNat_ushiftRight, Nat.shiftRight_eq_div_pow, show (BitVec.ofInt 64 1).toNat = 1 from rfl]
  omega
theorem turn_fn (a : W4) (y : Bool) : LFn Pr 109 [a.v, .bool y] [] (.ret (turnW a y).v) [] := by
  refine fnT OM0_sound mixed (by kernel_rfl) LoopsOk.noneT (turn_x a y) ?_
  rw [wp_chk_true, wp_br]
  refine ⟨fun h => ?_, fun h => ?_⟩ <;> subst h <;> exact tr1 rfl rfl
theorem minus_fn (a : W4) : LFn Pr 110 [a.v] [] (.ret (.bool (sgW a))) [] := by
  refine fnT OM0_sound mixed (by kernel_rfl) LoopsOk.noneT (minus_x a) (tr1 rfl ?_)
  rw [sg_eq]
structure TlS where
  s : List (BitVec 8)
  c : BitVec 8
def tl_S (a : TlS) : Fr × Heap := ([(0,.str a.s),(1,.u8 a.c)], [])
def tl_read : Fr → Heap → Option TlS := fun f h => match f, h with
  | [(0,.str s),(1,.u8 c)], [] => some ⟨s, c⟩
  | _, _ => none
def tl_E (a : TlS) : Tr (X × Fr × Heap) := .leaf (.exit 0, [(0,.str (trL a.c a.s))], [])
def tl_s : SmT := whT 1 [0,1] tl_read (fun _ => true) tl_E
theorem tl_at : SmAtT Pr Go.Proofs.Tryd.f118 0 tl_s 0 := by
  refine whT_x OM0_sound mixed tl_S (fun a => a.s.length) (fun a => tlb_x a.s a.c) (by kernel_rfl) (by kernel_rfl) (by kernel_rfl) LoopsOk.noneT ?_ ?_
  · intro f g a h
    unfold tl_read at h
    split at h <;> cases h
    rfl
  · rintro ⟨s, c⟩ q _ hq
    rw [tl_E, Tr.is_leaf] at hq
    simp only at hq ⊢
    simp only [wp_chk, wp_leaf, wp_br, decide_eq_true_eq, decide_eq_false_iff_not, true_and, Option.getD_none, Bool.and_true, Bool.and_eq_true]
    cases s with
    | nil =>
      refine ⟨fun h => absurd h (by simp), fun _ => .inr ⟨fun h => (by cases h), ?_⟩⟩
      rw [← hq]; rfl
    | cons x r =>
      refine ⟨fun _ => ⟨by simp only [List.length_cons]; omega, fun h => ⟨by simp only [List.length_cons]; omega, .inl ⟨⟨r, c⟩, ?_, ?_, ?_⟩⟩, fun h => .inr ⟨fun h => (by cases h), ?_⟩⟩, fun h => absurd (show ((x :: r).length : Int) > 0 by simp only [List.length_cons]; omega) h⟩
      · rw [tl_S, Int.toNat_natCast, List.take_length]; rfl
      · show r.length < (x :: r).length
        exact Nat.lt_succ_self _
      · rw [tl_E, Tr.is_leaf, ← hq]
        have e : x = c := by simpa using h
        simp only [trL, e, if_true]
      · rw [← hq]
        have e : ¬ x = c := by simpa using h
        simp only [trL, e, if_false]
theorem tl_Ls : LoopsOk Pr Go.Proofs.Tryd.f118 0 (smLT 0 [tl_s]).o := LoopsOk.one (by kernel_rfl) tl_at
theorem tlf_x (s : List (BitVec 8)) (c : BitVec 8) : Tr.prune (Tr.Sh.any)
  (execBF Pr OM0 (smLT (0 : Nat) [tl_s]) (100 : Nat) Go.Proofs.Tryd.f118 [V.str s, V.u8 c] []) =
  Tr.chk true (Tr.leaf (Fin.ret (V.str (trL c s)), [])) := by kernel_rfl
theorem tlf_fn (s : List (BitVec 8)) (c : BitVec 8) : LFn Pr 118 [.str s, .u8 c] [] (.ret (.str (trL c s))) [] :=
  fnT OM0_sound mixed (by kernel_rfl) tl_Ls (tlf_x s c) (tr1 rfl rfl)
theorem turn_en : Enters Pr 109 := Enters.of (fn := Go.Proofs.Tryd.f109) (by kernel_rfl) (by kernel_rfl)
theorem minus_en : Enters Pr 110 := Enters.of (fn := Go.Proofs.Tryd.f110) (by kernel_rfl) (by kernel_rfl)
theorem tlf_en : Enters Pr 118 := Enters.of (fn := Go.Proofs.Tryd.f118) (by kernel_rfl) (by kernel_rfl)
def readTu : List V → Heap → Option (W4 × Bool) := fun args h => match args, h with
  | [.agg [.u64 a, .u64 b, .u64 c, .u64 d], .bool y], [] => some (⟨a, b, c, d⟩, y)
  | _, _ => none
def turn_g : List V → Heap → Tr (Fin × Heap) := ctT readTu (fun a => .leaf (.ret (turnW a.1 a.2).v, []))
theorem turn_ok : ∀ args h r, (turn_g args h).is r → LFn Pr 109 args h r.1 r.2 := by
  refine ctT_ok (fun a => [a.1.v, .bool a.2]) (fun _ => []) ?_ (fun a r h => ?_)
  · intro args h a e
    unfold readTu at e
    split at e <;> cases e
    exact ⟨rfl, rfl⟩
  · rw [Tr.is_leaf] at h; subst h; exact turn_fn a.1 a.2
def readSb : List V → Heap → Option (List (BitVec 8) × BitVec 8) := fun args h => match args, h with
  | [.str s, .u8 c], [] => some (s, c)
  | _, _ => none
def tlf_g : List V → Heap → Tr (Fin × Heap) := ctT readSb (fun a => .leaf (.ret (.str (trL a.2 a.1)), []))
theorem tlf_ok : ∀ args h r, (tlf_g args h).is r → LFn Pr 118 args h r.1 r.2 := by
  refine ctT_ok (fun a => [.str a.1, .u8 a.2]) (fun _ => []) ?_ (fun a r h => ?_)
  · intro args h a e
    unfold readSb at e
    split at e <;> cases e
    exact ⟨rfl, rfl⟩
  · rw [Tr.is_leaf] at h; subst h; exact tlf_fn a.1 a.2
def KM1 : KnownT := (109, turn_g) :: (110, old (ctW fun x => .bool (sgW x))) :: (118, tlf_g) :: KW2
theorem KM1_ok : KOkT Pr KM1 := KOkT.cons turn_en turn_ok (KOkT.cons minus_en (old_ok (ctW_ok minus_fn)) (KOkT.cons tlf_en tlf_ok KW2_ok))
def OM1 : OrcT := autoT Pr ext KM1 [102] 3
theorem OM1_sound : OrcSound Pr OM1.o := autoT_sound mixed ext_ok KM1_ok (by kernel_rfl) 3
theorem sdiv_x (a : W4) (b : W4) : Tr.prune (Tr.Sh.any)
  (execBF Pr OM1 noLoopsT (100 : Nat) Go.Proofs.Tryd.f72 [a.v, b.v] []) =
  Tr.chk true
  (Tr.leaf
    (Fin.ret
        (V.agg
          [V.u64 (turnW (divQ (turnW a (sgW a)) (turnW b (sgW b))) !sgW a == sgW b).a,
            V.u64 (turnW (divQ (turnW a (sgW a)) (turnW b (sgW b))) !sgW a == sgW b).b,
            V.u64 (turnW (divQ (turnW a (sgW a)) (turnW b (sgW b))) !sgW a == sgW b).c,
            V.u64 (turnW (divQ (turnW a (sgW a)) (turnW b (sgW b))) !sgW a == sgW b).d]),
      [])) := by kernel_rfl
theorem smod_x (a : W4) (b : W4) : Tr.prune (Tr.Sh.any)
  (execBF Pr OM1 noLoopsT (100 : Nat) Go.Proofs.Tryd.f73 [a.v, b.v] []) =
  Tr.chk true
  (Tr.leaf
    (Fin.ret
        (V.agg
          [V.u64 (turnW (divR (turnW a (sgW a)) (turnW b (sgW b))) (sgW a)).a,
            V.u64 (turnW (divR (turnW a (sgW a)) (turnW b (sgW b))) (sgW a)).b,
            V.u64 (turnW (divR (turnW a (sgW a)) (turnW b (sgW b))) (sgW a)).c,
            V.u64 (turnW (divR (turnW a (sgW a)) (turnW b (sgW b))) (sgW a)).d]),
      [])) := by kernel_rfl
theorem size_x (a : W4) : Tr.prune (Tr.Sh.any.l.l.l.l.r.r.r)
  (execBF Pr OM1 noLoopsT (100 : Nat) Go.Proofs.Tryd.f50 [a.v] []) =
  Tr.chk true
  (Tr.leaf
    (Fin.ret (V.int IntKind.i64 (↑(trL (UInt8.toBitVec (OfNat.ofNat (0 : Nat))) a.bytes).length : Int)),
      [])) := by kernel_rfl
end
end Go.Proofs.YtajbaocfdlopbaaDoor.K
end
section
open Go Go.Lh
namespace Go.Proofs.YtajbaocfdlopbaaDoor.K
noncomputable section
set_option maxRecDepth 100000
def sdivW (a b : W4) : W4 := turnW (divQ (turnW a (sgW a)) (turnW b (sgW b))) (!sgW a == sgW b)
def smodW (a b : W4) : W4 := turnW (divR (turnW a (sgW a)) (turnW b (sgW b))) (sgW a)
def sextW (k a : W4) : W4 := if k.n < 31 then sarW (W4.small (BitVec.ofNat 64 (8 * (31 - k.n)))) (shlW (W4.small (BitVec.ofNat 64 (8 * (31 - k.n)))) a) else a
theorem sdiv_fn (a b : W4) : LFn Pr 72 [a.v, b.v] [] (.ret (sdivW a b).v) [] :=
  fnT OM1_sound mixed (by kernel_rfl) LoopsOk.noneT (sdiv_x a b) (tr1 rfl rfl)
theorem smod_fn (a b : W4) : LFn Pr 73 [a.v, b.v] [] (.ret (smodW a b).v) [] :=
  fnT OM1_sound mixed (by kernel_rfl) LoopsOk.noneT (smod_x a b) (tr1 rfl rfl)
theorem size_fn (a : W4) : LFn Pr 50 [a.v] [] (.ret (.int .i64 (W4.sz a : Nat))) [] :=
  fnT OM1_sound mixed (by kernel_rfl) LoopsOk.noneT (size_x a) (tr1 rfl rfl)
theorem sext_fn (k a : W4) : LFn Pr 74 [k.v, a.v] [] (.ret (sextW k a).v) [] := by
  refine fnT OM0_sound mixed (by kernel_rfl) LoopsOk.noneT (sext_x k a) ?_
  have e31 : (W4.small (BitVec.ofInt 64 31)).n = 31 := rfl
  rw [wp_chk_true, wp_br, Bool.not_eq_true', Bool.not_eq_false', W4.lt_iff, W4.lt_false, e31]
  refine ⟨fun h => ?_, fun h => ?_⟩
  · rw [sextW, if_neg (by omega)]; exact tr1 rfl rfl
  · have hk : k.d.toNat = k.n := by
      have ha := k.a.isLt
      have e1 : k.n = 2 ^ 192 * k.a.toNat + (2 ^ 128 * k.b.toNat + (2 ^ 64 * k.c.toNat + k.d.toNat)) := rfl
      omega
    have e : BitVec.ofInt 64 8 * (BitVec.ofInt 64 31 - k.d) = BitVec.ofNat 64 (8 * (31 - k.n)) := by
      apply BitVec.eq_of_toNat_eq
      rw [BitVec.toNat_mul, BitVec.toNat_sub, hk, BitVec.toNat_ofNat, show (BitVec.ofInt 64 8).toNat = 8 from rfl, show (BitVec.ofInt 64 31).toNat = 31 from rfl]
      omega
    rw [e, sextW, if_pos h]; exact tr1 rfl rfl
theorem sdiv_en : Enters Pr 72 := Enters.of (fn := Go.Proofs.Tryd.f72) (by kernel_rfl) (by kernel_rfl)
theorem smod_en : Enters Pr 73 := Enters.of (fn := Go.Proofs.Tryd.f73) (by kernel_rfl) (by kernel_rfl)
theorem size_en : Enters Pr 50 := Enters.of (fn := Go.Proofs.Tryd.f50) (by kernel_rfl) (by kernel_rfl)
theorem sext_en : Enters Pr 74 := Enters.of (fn := Go.Proofs.Tryd.f74) (by kernel_rfl) (by kernel_rfl)
def KM2 : KnownT := (72, old (ctWW fun a b => (sdivW a b).v)) :: (73, old (ctWW fun a b => (smodW a b).v)) :: (50, old (ctW fun a => .int .i64 (W4.sz a : Nat))) :: (74, old (ctWW fun k a => (sextW k a).v)) :: KM1
theorem KM2_ok : KOkT Pr KM2 := KOkT.cons sdiv_en (old_ok (ctWW_ok sdiv_fn)) (KOkT.cons smod_en (old_ok (ctWW_ok smod_fn)) (KOkT.cons size_en (old_ok (ctW_ok size_fn)) (KOkT.cons sext_en (old_ok (ctWW_ok sext_fn)) KM1_ok)))
def OM2 : OrcT := autoT Pr ext KM2 [101, 115, 127, 116, 117] 5
theorem OM2_sound : OrcSound Pr OM2.o := autoT_sound mixed ext_ok KM2_ok (by kernel_rfl) 5
theorem mex_fn : LFn Pr 49 [] [] (.ret (.bool true)) [] := fnC (fn := Go.Proofs.Tryd.f49) OM2_sound mixed (fuel := 400) (by kernel_rfl) LoopsOk.noneT (by kernel_rfl)
end
end Go.Proofs.YtajbaocfdlopbaaDoor.K
end
section
open Go Go.Lh
namespace Go.Proofs.YtajbaocfdlopbaaDoor.K
noncomputable section
set_option maxRecDepth 100000
def OR0 : OrcT := autoT Pr ext KW3 [113] 3
theorem OR0_sound : OrcSound Pr OR0.o := autoT_sound mixed ext_ok KW3_ok (by kernel_rfl) 3
theorem dig_x (a : W4) : Tr.prune (Tr.Sh.any.r.l.l.l.l.l.l.l.l.l.l.l.l.l.l.l.l.l.l.l.l.l.l.l.l.l.l.l.l.l.l.l.l.r.r.l.l.l.l.l.l.l.l.l.r.l.l.l.l.l.l.l.l.l.r.l.l.l.l.l.l.l.l.l.r.l.l.l.l.l.l.l.l.l)
  (execBF Pr OR0 noLoopsT (100 : Nat) Go.Proofs.Tryd.f95 [a.v] []) =
  Tr.chk true
  (Tr.leaf
    (Fin.ret (V.sl (0 : Nat) (0 : Nat) (1 : Nat) (32 : Nat) none),
      [Blk.ints
          [(wrapI IntKind.i64
                  ((wrapI IntKind.i64 (↑(a.d >>> (0 : Nat)).toNat : Int)).tmod (256 : Int) + (256 : Int))).tmod
              (256 : Int),
            (wrapI IntKind.i64
                  ((wrapI IntKind.i64 (↑(a.d >>> (8 : Nat)).toNat : Int)).tmod (256 : Int) + (256 : Int))).tmod
              (256 : Int),
            (wrapI IntKind.i64
                  ((wrapI IntKind.i64 (↑(a.d >>> (16 : Nat)).toNat : Int)).tmod (256 : Int) + (256 : Int))).tmod
              (256 : Int),
            (wrapI IntKind.i64
                  ((wrapI IntKind.i64 (↑(a.d >>> (24 : Nat)).toNat : Int)).tmod (256 : Int) + (256 : Int))).tmod
              (256 : Int),
            (wrapI IntKind.i64
                  ((wrapI IntKind.i64 (↑(a.d >>> (32 : Nat)).toNat : Int)).tmod (256 : Int) + (256 : Int))).tmod
              (256 : Int),
            (wrapI IntKind.i64
                  ((wrapI IntKind.i64 (↑(a.d >>> (40 : Nat)).toNat : Int)).tmod (256 : Int) + (256 : Int))).tmod
              (256 : Int),
            (wrapI IntKind.i64
                  ((wrapI IntKind.i64 (↑(a.d >>> (48 : Nat)).toNat : Int)).tmod (256 : Int) + (256 : Int))).tmod
              (256 : Int),
            (wrapI IntKind.i64
                  ((wrapI IntKind.i64 (↑(a.d >>> (56 : Nat)).toNat : Int)).tmod (256 : Int) + (256 : Int))).tmod
              (256 : Int),
            (wrapI IntKind.i64
                  ((wrapI IntKind.i64 (↑(a.c >>> (0 : Nat)).toNat : Int)).tmod (256 : Int) + (256 : Int))).tmod
              (256 : Int),
            (wrapI IntKind.i64
                  ((wrapI IntKind.i64 (↑(a.c >>> (8 : Nat)).toNat : Int)).tmod (256 : Int) + (256 : Int))).tmod
              (256 : Int),
            (wrapI IntKind.i64
                  ((wrapI IntKind.i64 (↑(a.c >>> (16 : Nat)).toNat : Int)).tmod (256 : Int) + (256 : Int))).tmod
              (256 : Int),
            (wrapI IntKind.i64
                  ((wrapI IntKind.i64 (↑(a.c >>> (24 : Nat)).toNat : Int)).tmod (256 : Int) + (256 : Int))).tmod
              (256 : Int),
            (wrapI IntKind.i64
                  ((wrapI IntKind.i64 (↑(a.c >>> (32 : Nat)).toNat : Int)).tmod (256 : Int) + (256 : Int))).tmod
              (256 : Int),
            (wrapI IntKind.i64
                  ((wrapI IntKind.i64 (↑(a.c >>> (40 : Nat)).toNat : Int)).tmod (256 : Int) + (256 : Int))).tmod
              (256 : Int),
            (wrapI IntKind.i64
                  ((wrapI IntKind.i64 (↑(a.c >>> (48 : Nat)).toNat : Int)).tmod (256 : Int) + (256 : Int))).tmod
              (256 : Int),
            (wrapI IntKind.i64
                  ((wrapI IntKind.i64 (↑(a.c >>> (56 : Nat)).toNat : Int)).tmod (256 : Int) + (256 : Int))).tmod
              (256 : Int),
            (wrapI IntKind.i64
                  ((wrapI IntKind.i64 (↑(a.b >>> (0 : Nat)).toNat : Int)).tmod (256 : Int) + (256 : Int))).tmod
              (256 : Int),
            (wrapI IntKind.i64
                  ((wrapI IntKind.i64 (↑(a.b >>> (8 : Nat)).toNat : Int)).tmod (256 : Int) + (256 : Int))).tmod
              (256 : Int),
            (wrapI IntKind.i64
                  ((wrapI IntKind.i64 (↑(a.b >>> (16 : Nat)).toNat : Int)).tmod (256 : Int) + (256 : Int))).tmod
              (256 : Int),
            (wrapI IntKind.i64
                  ((wrapI IntKind.i64 (↑(a.b >>> (24 : Nat)).toNat : Int)).tmod (256 : Int) + (256 : Int))).tmod
              (256 : Int),
            (wrapI IntKind.i64
                  ((wrapI IntKind.i64 (↑(a.b >>> (32 : Nat)).toNat : Int)).tmod (256 : Int) + (256 : Int))).tmod
              (256 : Int),
            (wrapI IntKind.i64
                  ((wrapI IntKind.i64 (↑(a.b >>> (40 : Nat)).toNat : Int)).tmod (256 : Int) + (256 : Int))).tmod
              (256 : Int),
            (wrapI IntKind.i64
                  ((wrapI IntKind.i64 (↑(a.b >>> (48 : Nat)).toNat : Int)).tmod (256 : Int) + (256 : Int))).tmod
              (256 : Int),
            (wrapI IntKind.i64
                  ((wrapI IntKind.i64 (↑(a.b >>> (56 : Nat)).toNat : Int)).tmod (256 : Int) + (256 : Int))).tmod
              (256 : Int),
            (wrapI IntKind.i64
                  ((wrapI IntKind.i64 (↑(a.a >>> (0 : Nat)).toNat : Int)).tmod (256 : Int) + (256 : Int))).tmod
              (256 : Int),
            (wrapI IntKind.i64
                  ((wrapI IntKind.i64 (↑(a.a >>> (8 : Nat)).toNat : Int)).tmod (256 : Int) + (256 : Int))).tmod
              (256 : Int),
            (wrapI IntKind.i64
                  ((wrapI IntKind.i64 (↑(a.a >>> (16 : Nat)).toNat : Int)).tmod (256 : Int) + (256 : Int))).tmod
              (256 : Int),
            (wrapI IntKind.i64
                  ((wrapI IntKind.i64 (↑(a.a >>> (24 : Nat)).toNat : Int)).tmod (256 : Int) + (256 : Int))).tmod
              (256 : Int),
            (wrapI IntKind.i64
                  ((wrapI IntKind.i64 (↑(a.a >>> (32 : Nat)).toNat : Int)).tmod (256 : Int) + (256 : Int))).tmod
              (256 : Int),
            (wrapI IntKind.i64
                  ((wrapI IntKind.i64 (↑(a.a >>> (40 : Nat)).toNat : Int)).tmod (256 : Int) + (256 : Int))).tmod
              (256 : Int),
            (wrapI IntKind.i64
                  ((wrapI IntKind.i64 (↑(a.a >>> (48 : Nat)).toNat : Int)).tmod (256 : Int) + (256 : Int))).tmod
              (256 : Int),
            (wrapI IntKind.i64
                  ((wrapI IntKind.i64 (↑(a.a >>> (56 : Nat)).toNat : Int)).tmod (256 : Int) + (256 : Int))).tmod
              (256 : Int)]])) := by kernel_rfl
theorem join_x (f : Nat → Int) (c : Option Nat) : Tr.prune (Tr.Sh.any.r.r.r.r.r.l.l.l.l.l.l.l.l.l.l.l.l.l.l.l.l.l.l.l.l.l.l.l.l.l.l.l.l.l.l.l.l.l.l.l.l.l.l.l.l.l.l.l.l.l.l.l.l.l.l.l.l.l.l.l.l.l.l.l.l.l.l.l.l.l.l.l.l.l.l.l.l.l.l.l.l.l.l.l.l.l.l.l.l.l.l.l.l.l.l.l.l.l.l.l.l.l.l.l.l.l.l.l.l.l.l.l.l.l.l.l.l.l.l.l.l.l.l.l.l.l.l.l.l.l.l.l.l.l.l.l.l.l.l.l.l.l.l.l.l.l.l.l.l.l.l.l.l.l.l.l.l.l.l.l.l.l.l.l.l)
  (execBF Pr OR0 noLoopsT (100 : Nat) Go.Proofs.Tryd.f97 [V.sl (0 : Nat) (0 : Nat) (1 : Nat) (32 : Nat) c]
  [Blk.ints (List.map f (List.range (32 : Nat)))]) =
  Tr.chk true
  (Tr.leaf
    (Fin.ret
        (V.agg
          [V.u64
              (BitVec.ofInt (64 : Nat) (0 : Int) ||| BitVec.ofInt (64 : Nat) (f (24 : Nat)) <<< (0 : Nat) |||
                            BitVec.ofInt (64 : Nat) (f (25 : Nat)) <<< (8 : Nat) |||
                          BitVec.ofInt (64 : Nat) (f (26 : Nat)) <<< (16 : Nat) |||
                        BitVec.ofInt (64 : Nat) (f (27 : Nat)) <<< (24 : Nat) |||
                      BitVec.ofInt (64 : Nat) (f (28 : Nat)) <<< (32 : Nat) |||
                    BitVec.ofInt (64 : Nat) (f (29 : Nat)) <<< (40 : Nat) |||
                  BitVec.ofInt (64 : Nat) (f (30 : Nat)) <<< (48 : Nat) |||
                BitVec.ofInt (64 : Nat) (f (31 : Nat)) <<< (56 : Nat)),
            V.u64
              (BitVec.ofInt (64 : Nat) (0 : Int) ||| BitVec.ofInt (64 : Nat) (f (16 : Nat)) <<< (0 : Nat) |||
                            BitVec.ofInt (64 : Nat) (f (17 : Nat)) <<< (8 : Nat) |||
                          BitVec.ofInt (64 : Nat) (f (18 : Nat)) <<< (16 : Nat) |||
                        BitVec.ofInt (64 : Nat) (f (19 : Nat)) <<< (24 : Nat) |||
                      BitVec.ofInt (64 : Nat) (f (20 : Nat)) <<< (32 : Nat) |||
                    BitVec.ofInt (64 : Nat) (f (21 : Nat)) <<< (40 : Nat) |||
                  BitVec.ofInt (64 : Nat) (f (22 : Nat)) <<< (48 : Nat) |||
                BitVec.ofInt (64 : Nat) (f (23 : Nat)) <<< (56 : Nat)),
            V.u64
              (BitVec.ofInt (64 : Nat) (0 : Int) ||| BitVec.ofInt (64 : Nat) (f (8 : Nat)) <<< (0 : Nat) |||
                            BitVec.ofInt (64 : Nat) (f (9 : Nat)) <<< (8 : Nat) |||
                          BitVec.ofInt (64 : Nat) (f (10 : Nat)) <<< (16 : Nat) |||
                        BitVec.ofInt (64 : Nat) (f (11 : Nat)) <<< (24 : Nat) |||
                      BitVec.ofInt (64 : Nat) (f (12 : Nat)) <<< (32 : Nat) |||
                    BitVec.ofInt (64 : Nat) (f (13 : Nat)) <<< (40 : Nat) |||
                  BitVec.ofInt (64 : Nat) (f (14 : Nat)) <<< (48 : Nat) |||
                BitVec.ofInt (64 : Nat) (f (15 : Nat)) <<< (56 : Nat)),
            V.u64
              (BitVec.ofInt (64 : Nat) (0 : Int) ||| BitVec.ofInt (64 : Nat) (f (0 : Nat)) <<< (0 : Nat) |||
                            BitVec.ofInt (64 : Nat) (f (1 : Nat)) <<< (8 : Nat) |||
                          BitVec.ofInt (64 : Nat) (f (2 : Nat)) <<< (16 : Nat) |||
                        BitVec.ofInt (64 : Nat) (f (3 : Nat)) <<< (24 : Nat) |||
                      BitVec.ofInt (64 : Nat) (f (4 : Nat)) <<< (32 : Nat) |||
                    BitVec.ofInt (64 : Nat) (f (5 : Nat)) <<< (40 : Nat) |||
                  BitVec.ofInt (64 : Nat) (f (6 : Nat)) <<< (48 : Nat) |||
                BitVec.ofInt (64 : Nat) (f (7 : Nat)) <<< (56 : Nat))]),
      [Blk.ints (List.map f (List.range (32 : Nat)))])) := by kernel_rfl
theorem joind_x (f : Nat → Int) (c : Option Nat) : Tr.prune (Tr.Sh.any.r.r.r.r.r.l.l.l.l.l.l.l.l.l.l.l.l.l.l.l.l.l.l.l.l.l.l.l.l.l.l.l.l.l.l.l.l.l.l.l.l.l.l.l.l.l.l.l.l.l.l.l.l.l.l.l.l.l.l.l.l.l.l.l.l.l.l.l.l.l.l.l.l.l.l.l.l.l.l.l.l.l.l.l.l.l.l.l.l.l.l.l.l.l.l.l.l.l.l.l.l.l.l.l.l.l.l.l.l.l.l.l.l.l.l.l.l.l.l.l.l.l.l.l.l.l.l.l.l.l.l.l.l.l.l.l.l.l.l.l.l.l.l.l.l.l.l.l.l.l.l.l.l.l.l.l.l.l.l.l.l.l.l.l.l)
  (execBF Pr OR0 noLoopsT (100 : Nat) Go.Proofs.Tryd.f97 [V.sl (0 : Nat) (0 : Nat) (1 : Nat) (64 : Nat) c]
  [Blk.ints (List.map f (List.range (64 : Nat)))]) =
  Tr.chk true
  (Tr.leaf
    (Fin.ret
        (V.agg
          [V.u64
              (BitVec.ofInt (64 : Nat) (0 : Int) ||| BitVec.ofInt (64 : Nat) (f (24 : Nat)) <<< (0 : Nat) |||
                            BitVec.ofInt (64 : Nat) (f (25 : Nat)) <<< (8 : Nat) |||
                          BitVec.ofInt (64 : Nat) (f (26 : Nat)) <<< (16 : Nat) |||
                        BitVec.ofInt (64 : Nat) (f (27 : Nat)) <<< (24 : Nat) |||
                      BitVec.ofInt (64 : Nat) (f (28 : Nat)) <<< (32 : Nat) |||
                    BitVec.ofInt (64 : Nat) (f (29 : Nat)) <<< (40 : Nat) |||
                  BitVec.ofInt (64 : Nat) (f (30 : Nat)) <<< (48 : Nat) |||
                BitVec.ofInt (64 : Nat) (f (31 : Nat)) <<< (56 : Nat)),
            V.u64
              (BitVec.ofInt (64 : Nat) (0 : Int) ||| BitVec.ofInt (64 : Nat) (f (16 : Nat)) <<< (0 : Nat) |||
                            BitVec.ofInt (64 : Nat) (f (17 : Nat)) <<< (8 : Nat) |||
                          BitVec.ofInt (64 : Nat) (f (18 : Nat)) <<< (16 : Nat) |||
                        BitVec.ofInt (64 : Nat) (f (19 : Nat)) <<< (24 : Nat) |||
                      BitVec.ofInt (64 : Nat) (f (20 : Nat)) <<< (32 : Nat) |||
                    BitVec.ofInt (64 : Nat) (f (21 : Nat)) <<< (40 : Nat) |||
                  BitVec.ofInt (64 : Nat) (f (22 : Nat)) <<< (48 : Nat) |||
                BitVec.ofInt (64 : Nat) (f (23 : Nat)) <<< (56 : Nat)),
            V.u64
              (BitVec.ofInt (64 : Nat) (0 : Int) ||| BitVec.ofInt (64 : Nat) (f (8 : Nat)) <<< (0 : Nat) |||
                            BitVec.ofInt (64 : Nat) (f (9 : Nat)) <<< (8 : Nat) |||
                          BitVec.ofInt (64 : Nat) (f (10 : Nat)) <<< (16 : Nat) |||
                        BitVec.ofInt (64 : Nat) (f (11 : Nat)) <<< (24 : Nat) |||
                      BitVec.ofInt (64 : Nat) (f (12 : Nat)) <<< (32 : Nat) |||
                    BitVec.ofInt (64 : Nat) (f (13 : Nat)) <<< (40 : Nat) |||
                  BitVec.ofInt (64 : Nat) (f (14 : Nat)) <<< (48 : Nat) |||
                BitVec.ofInt (64 : Nat) (f (15 : Nat)) <<< (56 : Nat)),
            V.u64
              (BitVec.ofInt (64 : Nat) (0 : Int) ||| BitVec.ofInt (64 : Nat) (f (0 : Nat)) <<< (0 : Nat) |||
                            BitVec.ofInt (64 : Nat) (f (1 : Nat)) <<< (8 : Nat) |||
                          BitVec.ofInt (64 : Nat) (f (2 : Nat)) <<< (16 : Nat) |||
                        BitVec.ofInt (64 : Nat) (f (3 : Nat)) <<< (24 : Nat) |||
                      BitVec.ofInt (64 : Nat) (f (4 : Nat)) <<< (32 : Nat) |||
                    BitVec.ofInt (64 : Nat) (f (5 : Nat)) <<< (40 : Nat) |||
                  BitVec.ofInt (64 : Nat) (f (6 : Nat)) <<< (48 : Nat) |||
                BitVec.ofInt (64 : Nat) (f (7 : Nat)) <<< (56 : Nat))]),
      [Blk.ints (List.map f (List.range (64 : Nat)))])) := by kernel_rfl
theorem digits_fn (a : W4) : LFn Pr 95 [a.v] [] (.ret (.sl 0 0 1 32 none)) [.ints (W4.dg 32 a.n)] := by
  refine fnT OR0_sound mixed (by kernel_rfl) LoopsOk.noneT (dig_x a) (tr1 rfl ?_)
  have ha := a.a.isLt
  have hb := a.b.isLt
  have hc := a.c.isLt
  have hd := a.d.isLt
  simp only [W4.dig_el]
  simp only [BitVec.toNat_ushiftRight, Nat.shiftRight_eq_div_pow]
  have e : W4.dg 32 a.n = (List.range 32).map fun i => ((a.n / 256 ^ i % 256 : Nat) : Int) := rfl
  rw [e, show List.range 32 = [0,1,2,3,4,5,6,7,8,9,10,11,12,13,14,15,16,17,18,19,20,21,22,23,24,25,26,27,28,29,30,31] from rfl]
  simp only [List.map_cons, List.map_nil]
  have hn : a.n = 2 ^ 192 * a.a.toNat + (2 ^ 128 * a.b.toNat + (2 ^ 64 * a.c.toNat + a.d.toNat)) := rfl
  refine congrArg (fun l => (Fin.ret (V.sl 0 0 1 32 none), [Blk.ints l])) ?_
  (repeat' apply List.cons_eq_cons.2 ⟨?_, ?_⟩) <;> first | rfl | omega
theorem join_fn (m : Nat) (c : Option Nat) : LFn Pr 97 [.sl 0 0 1 32 c] [.ints (W4.dg 32 m)] (.ret (W4.ofN m).v) [.ints (W4.dg 32 m)] := by
  refine fnT OR0_sound mixed (by kernel_rfl) LoopsOk.noneT (join_x (fun i => ((m / 256 ^ i % 256 : Nat) : Int)) c) (tr1 rfl ?_)
  have h0 := W4.limb_dg m 0
  have h1 := W4.limb_dg m 1
  have h2 := W4.limb_dg m 2
  have h3 := W4.limb_dg m 3
  refine congrArg (fun v => (Fin.ret v, [Blk.ints (W4.dg 32 m)])) ?_
  rw [W4.v, W4.ofN, ← h0, ← h1, ← h2, ← h3]
theorem joind_fn (m : Nat) (c : Option Nat) : LFn Pr 97 [.sl 0 0 1 64 c] [.ints (W4.dg 64 m)] (.ret (W4.ofN m).v) [.ints (W4.dg 64 m)] := by
  refine fnT OR0_sound mixed (by kernel_rfl) LoopsOk.noneT (joind_x (fun i => ((m / 256 ^ i % 256 : Nat) : Int)) c) (tr1 rfl ?_)
  have h0 := W4.limb_dg m 0
  have h1 := W4.limb_dg m 1
  have h2 := W4.limb_dg m 2
  have h3 := W4.limb_dg m 3
  refine congrArg (fun v => (Fin.ret v, [Blk.ints (W4.dg 64 m)])) ?_
  rw [W4.v, W4.ofN, ← h0, ← h1, ← h2, ← h3]
theorem digits_en : Enters Pr 95 := Enters.of (fn := Go.Proofs.Tryd.f95) (by kernel_rfl) (by kernel_rfl)
theorem join_en : Enters Pr 97 := Enters.of (fn := Go.Proofs.Tryd.f97) (by kernel_rfl) (by kernel_rfl)
def readWd : List V → Heap → Option W4 := fun args h => match args, h with
  | [.agg [.u64 a, .u64 b, .u64 c, .u64 d]], [] => some ⟨a, b, c, d⟩
  | _, _ => none
def digits_g : List V → Heap → Tr (Fin × Heap) := ctT readWd (fun a => .leaf (.ret (.sl 0 0 1 32 none), [.ints (W4.dg 32 a.n)]))
theorem digits_ok : ∀ args h r, (digits_g args h).is r → LFn Pr 95 args h r.1 r.2 := by
  refine ctT_ok (fun a => [a.v]) (fun _ => []) ?_ (fun a r h => ?_)
  · intro args h a e
    unfold readWd at e
    split at e <;> cases e
    exact ⟨rfl, rfl⟩
  · rw [Tr.is_leaf] at h; subst h; exact digits_fn a
def readSl : List V → Heap → Option (Nat × Option Nat × List Int) := fun args h => match args, h with
  | [.sl 0 0 1 n c], [.ints xs] => some (n, c, xs)
  | _, _ => none
def join_g : List V → Heap → Tr (Fin × Heap) := ctT readSl (fun a => .chk ((decide (a.1 = 32) || decide (a.1 = 64)) && W4.isD a.1 a.2.2) (.leaf (.ret (W4.ofN (W4.valI a.2.2)).v, [.ints a.2.2])))
theorem join_ok : ∀ args h r, (join_g args h).is r → LFn Pr 97 args h r.1 r.2 := by
  refine ctT_ok (fun a => [.sl 0 0 1 a.1 a.2.1]) (fun a => [.ints a.2.2]) ?_ (fun a r h => ?_)
  · intro args h a e
    unfold readSl at e
    split at e <;> cases e
    exact ⟨rfl, rfl⟩
  · obtain ⟨n, c, xs⟩ := a
    rw [Tr.is_chk, Tr.is_leaf] at h
    obtain ⟨h, rfl⟩ := h
    simp only [Bool.and_eq_true, Bool.or_eq_true, decide_eq_true_eq, W4.isD_iff] at h
    obtain ⟨h1, h2⟩ := h
    have hj := join_fn (W4.valI xs) c
    have hd := joind_fn (W4.valI xs) c
    rcases h1 with rfl | rfl
    · rw [← h2] at hj; exact hj
    · rw [← h2] at hd; exact hd
def KR1 : KnownT := (95, digits_g) :: (97, join_g) :: KW3
theorem KR1_ok : KOkT Pr KR1 := KOkT.cons digits_en digits_ok (KOkT.cons join_en join_ok KW3_ok)
def OR1 : OrcT := autoT Pr ext KR1 [113] 3
theorem OR1_sound : OrcSound Pr OR1.o := autoT_sound mixed ext_ok KR1_ok (by kernel_rfl) 3
structure MvS where
  w : List (BitVec 64)
  d : List Int
  o : List Int
  n : Int
  fill : Int
theorem mvl_x (w : List (BitVec 64)) (d : List Int) (o : List Int) (n : Int) (fill : Int) (i : Nat) : Tr.prune (((Tr.Sh.any.both
                Tr.Sh.any).l.l.l.both
      Tr.Sh.any.r.r.r.r).both
  Tr.Sh.any)
  (execBN Pr OR1 noLoopsT (100 : Nat) (0 : Nat) [(1 : Nat), (2 : Nat), (6 : Nat), (7 : Nat), (8 : Nat), (9 : Nat)]
  [(6 : Nat), (7 : Nat), (8 : Nat)] (loopBody Go.Proofs.Tryd.f90 (0 : Nat))
  [((1 : Nat), V.int IntKind.i64 n), ((2 : Nat), V.int IntKind.i64 fill), ((6 : Nat), V.ptr (0 : Nat) (0 : Nat)),
    ((7 : Nat), V.sl (1 : Nat) (0 : Nat) (1 : Nat) (32 : Nat) none),
    ((8 : Nat), V.sl (2 : Nat) (0 : Nat) (1 : Nat) (32 : Nat) (some (32 : Nat))),
    ((9 : Nat), V.int IntKind.i64 (↑i : Int))]
  [Blk.b64 w, Blk.ints d, Blk.ints o]) =
  Tr.chk true
  (Tr.br (decide ((↑i : Int) < (256 : Int)))
    (Tr.chk true
      (Tr.br (decide (wrapI IntKind.i64 ((↑i : Int) + n) ≥ (0 : Int)))
        (Tr.chk true
          (Tr.br (decide (wrapI IntKind.i64 ((↑i : Int) + n) < (256 : Int)))
            (Tr.chk
              (decide ((0 : Int) ≤ wrapI IntKind.i64 ((wrapI IntKind.i64 ((↑i : Int) + n)).tdiv (8 : Int))) &&
                          decide
                            (wrapI IntKind.i64 ((wrapI IntKind.i64 ((↑i : Int) + n)).tdiv (8 : Int)) < (32 : Int)) &&
                        (decide
                            ((0 : Nat) +
                                (wrapI IntKind.i64 ((wrapI IntKind.i64 ((↑i : Int) + n)).tdiv (8 : Int))).toNat *
                                  (1 : Nat) <
                              d.length) &&
                          (decide ((0 : Int) ≤ (wrapI IntKind.i64 ((↑i : Int) + n)).tmod (8 : Int)) && true)) &&
                      true &&
                    true &&
                  (decide ((0 : Int) ≤ wrapI IntKind.i64 ((↑i : Int).tdiv (8 : Int))) &&
                      decide (wrapI IntKind.i64 ((↑i : Int).tdiv (8 : Int)) < (32 : Int)) &&
                    (decide
                        ((0 : Nat) + (wrapI IntKind.i64 ((↑i : Int).tdiv (8 : Int))).toNat * (1 : Nat) < o.length) &&
                      (decide ((0 : Int) ≤ wrapI IntKind.i64 ((↑i : Int).tdiv (8 : Int))) &&
                          decide (wrapI IntKind.i64 ((↑i : Int).tdiv (8 : Int)) < (32 : Int)) &&
                        decide
                          ((0 : Nat) + (wrapI IntKind.i64 ((↑i : Int).tdiv (8 : Int))).toNat * (1 : Nat) + (1 : Nat) ≤
                            o.length)))) &&
                true)
              (Tr.leaf
                (X.normal,
                  [((1 : Nat), V.int IntKind.i64 n), ((2 : Nat), V.int IntKind.i64 fill),
                    ((6 : Nat), V.ptr (0 : Nat) (0 : Nat)),
                    ((7 : Nat), V.sl (1 : Nat) (0 : Nat) (1 : Nat) (32 : Nat) none),
                    ((8 : Nat), V.sl (2 : Nat) (0 : Nat) (1 : Nat) (32 : Nat) (some (32 : Nat))),
                    ((9 : Nat), V.int IntKind.i64 (wrapI IntKind.i64 ((↑i : Int) + (1 : Int))))],
                  [Blk.b64 w, Blk.ints d,
                    Blk.ints
                      (o.set ((0 : Nat) + (wrapI IntKind.i64 ((↑i : Int).tdiv (8 : Int))).toNat * (1 : Nat))
                        (wrapI IntKind.i64
                          (↑(BitVec.ofInt (64 : Nat)
                                    (o.getD
                                      ((0 : Nat) + (wrapI IntKind.i64 ((↑i : Int).tdiv (8 : Int))).toNat * (1 : Nat))
                                      (0 : Int)) |||
                                  BitVec.ofInt (64 : Nat)
                                    (wrapI IntKind.i64
                                      (wrapI IntKind.i64
                                          (↑(BitVec.ofInt (64 : Nat)
                                                    ((d.getD
                                                          ((0 : Nat) +
                                                            (wrapI IntKind.i64
                                                                  ((wrapI IntKind.i64 ((↑i : Int) + n)).tdiv
                                                                    (8 : Int))).toNat *
                                                              (1 : Nat))
                                                          (0 : Int)).fdiv
                                                      ((2 : Int) ^
                                                        min ((wrapI IntKind.i64 ((↑i : Int) + n)).tmod (8 : Int)).toNat
                                                          (64 : Nat))) &&&
                                                  BitVec.ofInt (64 : Nat) (1 : Int)).toNat :
                                            Int) *
                                        (2 : Int) ^ min ((↑i : Int).tmod (8 : Int)).toNat (64 : Nat)))).toNat :
                            Int)))])))
            (Tr.chk
              (decide ((0 : Int) ≤ wrapI IntKind.i64 ((↑i : Int).tdiv (8 : Int))) &&
                    decide (wrapI IntKind.i64 ((↑i : Int).tdiv (8 : Int)) < (32 : Int)) &&
                  (decide ((0 : Nat) + (wrapI IntKind.i64 ((↑i : Int).tdiv (8 : Int))).toNat * (1 : Nat) < o.length) &&
                    (decide ((0 : Int) ≤ wrapI IntKind.i64 ((↑i : Int).tdiv (8 : Int))) &&
                        decide (wrapI IntKind.i64 ((↑i : Int).tdiv (8 : Int)) < (32 : Int)) &&
                      decide
                        ((0 : Nat) + (wrapI IntKind.i64 ((↑i : Int).tdiv (8 : Int))).toNat * (1 : Nat) + (1 : Nat) ≤
                          o.length))) &&
                true)
              (Tr.leaf
                (X.normal,
                  [((1 : Nat), V.int IntKind.i64 n), ((2 : Nat), V.int IntKind.i64 fill),
                    ((6 : Nat), V.ptr (0 : Nat) (0 : Nat)),
                    ((7 : Nat), V.sl (1 : Nat) (0 : Nat) (1 : Nat) (32 : Nat) none),
                    ((8 : Nat), V.sl (2 : Nat) (0 : Nat) (1 : Nat) (32 : Nat) (some (32 : Nat))),
                    ((9 : Nat), V.int IntKind.i64 (wrapI IntKind.i64 ((↑i : Int) + (1 : Int))))],
                  [Blk.b64 w, Blk.ints d,
                    Blk.ints
                      (o.set ((0 : Nat) + (wrapI IntKind.i64 ((↑i : Int).tdiv (8 : Int))).toNat * (1 : Nat))
                        (wrapI IntKind.i64
                          (↑(BitVec.ofInt (64 : Nat)
                                    (o.getD
                                      ((0 : Nat) + (wrapI IntKind.i64 ((↑i : Int).tdiv (8 : Int))).toNat * (1 : Nat))
                                      (0 : Int)) |||
                                  BitVec.ofInt (64 : Nat)
                                    (wrapI IntKind.i64
                                      (fill * (2 : Int) ^ min ((↑i : Int).tmod (8 : Int)).toNat (64 : Nat)))).toNat :
                            Int)))])))))
        (Tr.chk
          (decide ((0 : Int) ≤ wrapI IntKind.i64 ((↑i : Int).tdiv (8 : Int))) &&
                decide (wrapI IntKind.i64 ((↑i : Int).tdiv (8 : Int)) < (32 : Int)) &&
              (decide ((0 : Nat) + (wrapI IntKind.i64 ((↑i : Int).tdiv (8 : Int))).toNat * (1 : Nat) < o.length) &&
                (decide ((0 : Int) ≤ wrapI IntKind.i64 ((↑i : Int).tdiv (8 : Int))) &&
                    decide (wrapI IntKind.i64 ((↑i : Int).tdiv (8 : Int)) < (32 : Int)) &&
                  decide
                    ((0 : Nat) + (wrapI IntKind.i64 ((↑i : Int).tdiv (8 : Int))).toNat * (1 : Nat) + (1 : Nat) ≤
                      o.length))) &&
            true)
          (Tr.leaf
            (X.normal,
              [((1 : Nat), V.int IntKind.i64 n), ((2 : Nat), V.int IntKind.i64 fill),
                ((6 : Nat), V.ptr (0 : Nat) (0 : Nat)), ((7 : Nat), V.sl (1 : Nat) (0 : Nat) (1 : Nat) (32 : Nat) none),
                ((8 : Nat), V.sl (2 : Nat) (0 : Nat) (1 : Nat) (32 : Nat) (some (32 : Nat))),
                ((9 : Nat), V.int IntKind.i64 (wrapI IntKind.i64 ((↑i : Int) + (1 : Int))))],
              [Blk.b64 w, Blk.ints d,
                Blk.ints
                  (o.set ((0 : Nat) + (wrapI IntKind.i64 ((↑i : Int).tdiv (8 : Int))).toNat * (1 : Nat))
                    (wrapI IntKind.i64
                      (↑(BitVec.ofInt (64 : Nat)
                                (o.getD ((0 : Nat) + (wrapI IntKind.i64 ((↑i : Int).tdiv (8 : Int))).toNat * (1 : Nat))
                                  (0 : Int)) |||
                              BitVec.ofInt (64 : Nat)
                                (wrapI IntKind.i64
                                  (fill * (2 : Int) ^ min ((↑i : Int).tmod (8 : Int)).toNat (64 : Nat)))).toNat :
                        Int)))])))))
    (Tr.leaf
      (X.exit (0 : Nat),
        [((6 : Nat), V.ptr (0 : Nat) (0 : Nat)), ((7 : Nat), V.sl (1 : Nat) (0 : Nat) (1 : Nat) (32 : Nat) none),
          ((8 : Nat), V.sl (2 : Nat) (0 : Nat) (1 : Nat) (32 : Nat) (some (32 : Nat)))],
        [Blk.b64 w, Blk.ints d, Blk.ints o]))) := by kernel_rfl
def mv_O (a : MvS) (i : Nat) : List Int := if i = 0 then a.o else W4.dg 32 (W4.bitsN (W4.mvB (W4.valI a.d) a.n a.fill) i)
def mv_S (a : MvS) (i : Nat) : Fr × Heap := ([(1,.int .i64 a.n),(2,.int .i64 a.fill),(6,.ptr 0 0),(7,.sl 1 0 1 32 none),(8,.sl 2 0 1 32 (some 32)),(9,.int .i64 (i : Nat))], [.b64 a.w, .ints a.d, .ints (mv_O a i)])
def mv_read : Fr → Heap → Option MvS := fun f h => match f, h with
  | [(1,.int .i64 n),(2,.int .i64 fill),(6,.ptr 0 0),(7,.sl 1 0 1 32 none),(8,.sl 2 0 1 32 (some 32)),(9,.int .i64 0)], [.b64 w, .ints d, .ints o] => some ⟨w, d, o, n, fill⟩
  | _, _ => none
def mv_ok (a : MvS) : Bool := W4.isD 32 a.d && (W4.is0 32 a.o && (decide (-256 ≤ a.n) && (decide (a.n ≤ 256) && (decide (a.fill = 0) || decide (a.fill = 1)))))
def mv_E (a : MvS) : Tr (X × Fr × Heap) := .leaf (.exit 0, [(6,.ptr 0 0),(7,.sl 1 0 1 32 none),(8,.sl 2 0 1 32 (some 32))], [.b64 a.w, .ints a.d, .ints (W4.dg 32 (W4.mvN (W4.valI a.d) a.n a.fill))])
def mv_s : SmT := whT 4 [1,2,6,7,8,9] mv_read mv_ok mv_E
theorem moved_x (a : W4) (n : Int) (fill : Int) : Tr.prune (Tr.Sh.any)
  (execBF Pr OR1 (smLT (0 : Nat) [mv_s]) (100 : Nat) Go.Proofs.Tryd.f90 [a.v, V.int IntKind.i64 n, V.int IntKind.i64 fill]
  []) =
  Tr.chk
  (mv_ok
        (MvS.mk
          [BitVec.ofInt (64 : Nat) (0 : Int), BitVec.ofInt (64 : Nat) (0 : Int), BitVec.ofInt (64 : Nat) (0 : Int),
            BitVec.ofInt (64 : Nat) (0 : Int)]
          (W4.dg (32 : Nat) a.n) (List.replicate (32 : Nat) (0 : Int)) n fill) &&
      ((true || false) && W4.isD (32 : Nat) (W4.dg (32 : Nat) (W4.mvN (W4.valI (W4.dg (32 : Nat) a.n)) n fill)) &&
        true) &&
    true)
  (Tr.leaf
    (Fin.ret
        (V.agg
          [V.u64 (W4.ofN (W4.valI (W4.dg (32 : Nat) (W4.mvN (W4.valI (W4.dg (32 : Nat) a.n)) n fill)))).a,
            V.u64 (W4.ofN (W4.valI (W4.dg (32 : Nat) (W4.mvN (W4.valI (W4.dg (32 : Nat) a.n)) n fill)))).b,
            V.u64 (W4.ofN (W4.valI (W4.dg (32 : Nat) (W4.mvN (W4.valI (W4.dg (32 : Nat) a.n)) n fill)))).c,
            V.u64 (W4.ofN (W4.valI (W4.dg (32 : Nat) (W4.mvN (W4.valI (W4.dg (32 : Nat) a.n)) n fill)))).d]),
      [])) := by kernel_rfl
end
end Go.Proofs.YtajbaocfdlopbaaDoor.K
end
section
open Go Go.Lh
namespace Go.Proofs.YtajbaocfdlopbaaDoor.K
noncomputable section
set_option maxRecDepth 100000
def szI (xs : List Int) : Nat → Nat
  | 0 => 0
  | n + 1 => if xs.getD n 0 = 0 then szI xs n else n + 1
structure SzS where
  xs : List Int
  k : Int
theorem szb_x (xs : List Int) (k : Int) : Tr.prune ((Tr.Sh.any.both Tr.Sh.any).l.l.l.l.l.both
  Tr.Sh.any.r.r.r.r.r.r)
  (execBN Pr OM0 noLoopsT (100 : Nat) (0 : Nat) [(3 : Nat), (4 : Nat)] [(4 : Nat)] (loopBody Go.Proofs.Tryd.f107 (0 : Nat))
  [((3 : Nat), V.sl (0 : Nat) (0 : Nat) (1 : Nat) (32 : Nat) none), ((4 : Nat), V.int IntKind.i64 k)] [Blk.ints xs]) =
  Tr.chk true
  (Tr.br (decide (k > (0 : Int)))
    (Tr.chk
      (decide ((0 : Int) ≤ wrapI IntKind.i64 (k - (1 : Int))) &&
          decide (wrapI IntKind.i64 (k - (1 : Int)) < (32 : Int)) &&
        (decide ((0 : Nat) + (wrapI IntKind.i64 (k - (1 : Int))).toNat * (1 : Nat) < xs.length) && true))
      (Tr.br (xs.getD ((0 : Nat) + (wrapI IntKind.i64 (k - (1 : Int))).toNat * (1 : Nat)) (0 : Int) == (0 : Int))
        (Tr.chk true
          (Tr.leaf
            (X.normal,
              [((3 : Nat), V.sl (0 : Nat) (0 : Nat) (1 : Nat) (32 : Nat) none),
                ((4 : Nat), V.int IntKind.i64 (wrapI IntKind.i64 (k - (1 : Int))))],
              [Blk.ints xs])))
        (Tr.leaf (X.exit (0 : Nat), [((4 : Nat), V.int IntKind.i64 k)], []))))
    (Tr.chk true (Tr.leaf (X.exit (0 : Nat), [((4 : Nat), V.int IntKind.i64 k)], [])))) := by kernel_rfl
def sz_S (a : SzS) : Fr × Heap := ([(3,.sl 0 0 1 32 none),(4,.int .i64 a.k)], [.ints a.xs])
def sz_read : Fr → Heap → Option SzS := fun f h => match f, h with
  | [(3,.sl 0 0 1 32 none),(4,.int .i64 k)], [.ints xs] => some ⟨xs, k⟩
  | _, _ => none
def sz_P (a : SzS) : Prop := 0 ≤ a.k ∧ a.k ≤ 32 ∧ a.xs.length = 32
def sz_ok (a : SzS) : Bool := @decide (sz_P a) (Classical.propDecidable _)
theorem sz_ok_iff {a : SzS} : sz_ok a = true ↔ sz_P a := by simp [sz_ok]
def sz_E (a : SzS) : Tr (X × Fr × Heap) := .leaf (.exit 0, [(4,.int .i64 (szI a.xs a.k.toNat : Nat))], [])
def sz_s : SmT := whT 3 [3,4] sz_read sz_ok sz_E
theorem sz_at : SmAtT Pr Go.Proofs.Tryd.f107 0 sz_s 0 := by
  refine whT_x OM0_sound mixed sz_S (fun a => a.k.toNat) (fun a => szb_x a.xs a.k) (by kernel_rfl) (by kernel_rfl) (by kernel_rfl) LoopsOk.noneT ?_ ?_
  · intro f g a h
    unfold sz_read at h
    split at h <;> cases h
    rfl
  · rintro ⟨xs, k⟩ q hok hq
    obtain ⟨h1, h2, h3⟩ := sz_ok_iff.1 hok
    rw [sz_E, Tr.is_leaf] at hq
    simp only at h1 h2 h3 hq ⊢
    by_cases hk : 0 < k
    · obtain ⟨n, rfl⟩ : ∃ n : Nat, k = (n : Int) + 1 := ⟨(k - 1).toNat, by omega⟩
      have e1 : wrapI .i64 ((n : Int) + 1 - 1) = (n : Int) := by rw [show ((n : Int) + 1 - 1) = ((n : Nat) : Int) by omega, wrapI_nat (by omega)]
      have e2 : ((n : Int) + 1).toNat = n + 1 := by omega
      simp only [e1, e2, h3, szI, wp_chk, wp_leaf, wp_br, decide_eq_true_eq, decide_eq_false_iff_not, true_and, Bool.and_true, Bool.and_eq_true, beq_iff_eq, beq_eq_false_iff_ne, ne_eq, Int.toNat_natCast, Nat.zero_add, Nat.mul_one] at hq ⊢
      refine ⟨fun _ => ⟨by omega, fun h => .inl ⟨⟨xs, (n : Int)⟩, by rw [sz_S], sz_ok_iff.2 ⟨by show (0 : Int) ≤ n; omega, by show (n : Int) ≤ 32; omega, h3⟩, by show n < _; omega, ?_⟩, fun h => .inr ⟨fun e => (by cases e), ?_⟩⟩, fun h => absurd hk (by omega)⟩
      · rw [sz_E, Tr.is_leaf, ← hq, if_pos h]; rfl
      · rw [← hq, if_neg h]; rfl
    · obtain rfl : k = 0 := by omega
      simp only [szI, wp_chk, wp_leaf, wp_br, decide_eq_true_eq, decide_eq_false_iff_not, true_and, Bool.and_true, Int.toNat_zero] at hq ⊢
      exact ⟨fun h => absurd h (by omega), fun _ => .inr ⟨fun e => (by cases e), hq⟩⟩
theorem sz_Ls : LoopsOk Pr Go.Proofs.Tryd.f107 0 (smLT 0 [sz_s]).o := LoopsOk.one (by kernel_rfl) sz_at
def KG0 : KnownT := (95, digits_g) :: KM2
theorem KG0_ok : KOkT Pr KG0 := KOkT.cons digits_en digits_ok KM2_ok
def OG0 : OrcT := autoT Pr ext KG0 [103, 122, 123, 68, 104, 124, 60, 52, 105, 75, 131] 5
theorem OG0_sound : OrcSound Pr OG0.o := autoT_sound mixed ext_ok KG0_ok (by kernel_rfl) 5
theorem gex_fn : LFn Pr 51 [] [] (.ret (.bool true)) [] := fnC (fn := Go.Proofs.Tryd.f51) OG0_sound mixed (fuel := 400) (by kernel_rfl) LoopsOk.noneT (by kernel_rfl)
theorem rsz_x (a : W4) : Tr.prune (Tr.Sh.any)
  (execBF Pr OG0 (smLT (0 : Nat) [sz_s]) (100 : Nat) Go.Proofs.Tryd.f107 [a.v] []) =
  Tr.chk (sz_ok (SzS.mk (W4.dg (32 : Nat) a.n) (32 : Int)) && true && true)
  (Tr.leaf
    (Fin.ret (V.int IntKind.i64 (↑(szI (W4.dg (32 : Nat) a.n) (Int.toNat (32 : Int))) : Int)), [])) := by kernel_rfl
end
end Go.Proofs.YtajbaocfdlopbaaDoor.K
end
section
open Go Go.Lh
namespace Go.Proofs.YtajbaocfdlopbaaDoor.K
noncomputable section
set_option maxRecDepth 100000
theorem szI_le (n : Nat) : ∀ (m : Nat), n < 256 ^ m → m ≤ 32 → ∀ k, szI (W4.dg 32 n) m ≤ k ↔ n < 256 ^ k
  | 0, h, _, k => by
    simp only [Nat.pow_zero] at h
    have : n = 0 := by omega
    subst this
    simp only [szI, Nat.zero_le, true_iff]
    exact Nat.pow_pos (by decide)
  | m + 1, h, hm, k => by
    rw [szI, W4.dg_get (by omega)]
    have hd : n / 256 ^ m < 256 := by
      rw [Nat.div_lt_iff_lt_mul (Nat.pow_pos (by decide))]
      rw [Nat.pow_succ] at h; omega
    rw [Nat.mod_eq_of_lt hd]
    by_cases h0 : n / 256 ^ m = 0
    · rw [if_pos (by rw [h0]; rfl)]
      refine szI_le n m ?_ (by omega) k
      exact (Nat.div_eq_zero_iff_lt (Nat.pow_pos (by decide))).1 h0
    · rw [if_neg (by omega)]
      have h1 : 256 ^ m ≤ n := by
        rcases Nat.lt_or_ge n (256 ^ m) with h2 | h2
        · exact (h0 (Nat.div_eq_of_lt h2)).elim
        · exact h2
      constructor
      · intro h2
        exact Nat.lt_of_lt_of_le h (Nat.pow_le_pow_right (by decide) h2)
      · intro h2
        apply Decidable.byContradiction
        intro h3
        have : 256 ^ k ≤ 256 ^ m := Nat.pow_le_pow_right (by decide) (by omega)
        omega
theorem szI_eq (a : W4) : szI (W4.dg 32 a.n) 32 = W4.sz a := by
  have h1 := szI_le a.n 32 a.n_lt (Nat.le_refl _)
  exact Nat.le_antisymm ((h1 _).2 ((W4.sz_le a _).1 (Nat.le_refl _))) ((W4.sz_le a _).2 ((h1 _).1 (Nat.le_refl _)))
theorem rsize_fn (a : W4) : LFn Pr 107 [a.v] [] (.ret (.int .i64 (W4.sz a : Nat))) [] := by
  refine fnT OG0_sound mixed (by kernel_rfl) sz_Ls (rsz_x a) (tr1 ?_ ?_)
  · rw [Bool.and_true, Bool.and_true]
    exact sz_ok_iff.2 ⟨by show (0 : Int) ≤ 32; decide, by show (32 : Int) ≤ 32; decide, W4.dg_length 32 _⟩
  · rw [show Int.toNat (32 : Int) = 32 from rfl, szI_eq]
theorem rsize_en : Enters Pr 107 := Enters.of (fn := Go.Proofs.Tryd.f107) (by kernel_rfl) (by kernel_rfl)
def gex_g : List V → Heap → Tr (Fin × Heap) := fun args h => match args, h with
  | [], [] => .leaf (.ret (.bool true), [])
  | _, _ => .no
theorem gex_ok : ∀ args h r, (gex_g args h).is r → LFn Pr 51 args h r.1 r.2 := by
  intro args h r e
  unfold gex_g at e
  split at e
  · rw [Tr.is_leaf] at e; subst e; exact gex_fn
  · exact (Tr.is_no.1 e).elim
theorem gex_en : Enters Pr 51 := Enters.of (fn := Go.Proofs.Tryd.f51) (by kernel_rfl) (by kernel_rfl)
def KG1 : KnownT := (51, gex_g) :: (107, old (ctW fun a => .int .i64 (W4.sz a : Nat))) :: KG0
theorem KG1_ok : KOkT Pr KG1 := KOkT.cons gex_en gex_ok (KOkT.cons rsize_en (old_ok (ctW_ok rsize_fn)) KG0_ok)
def OG1 : OrcT := autoT Pr ext KG1 [75, 108] 5
theorem OG1_sound : OrcSound Pr OG1.o := autoT_sound mixed ext_ok KG1_ok (by kernel_rfl) 5
theorem tou_x (cold : Bool) : Tr.prune (Tr.Sh.any.both Tr.Sh.any)
  (execBF Pr OG1 noLoopsT (100 : Nat) Go.Proofs.Tryd.f66 [V.bool cold] []) =
  Tr.chk true
  (Tr.br cold (Tr.chk true (Tr.leaf (Fin.ret (V.u64 (BitVec.ofInt (64 : Nat) (2600 : Int))), [])))
    (Tr.chk true (Tr.leaf (Fin.ret (V.u64 (BitVec.ofInt (64 : Nat) (100 : Int))), [])))) := by kernel_rfl
theorem rtou_x (cold : Bool) : Tr.prune (Tr.Sh.any.both Tr.Sh.any)
  (execBF Pr OG1 noLoopsT (100 : Nat) Go.Proofs.Tryd.f67 [V.bool cold] []) =
  Tr.chk true
  (Tr.br cold (Tr.chk true (Tr.leaf (Fin.ret (V.u64 (BitVec.ofInt (64 : Nat) (2600 : Int))), [])))
    (Tr.chk true (Tr.leaf (Fin.ret (V.u64 (BitVec.ofInt (64 : Nat) (100 : Int))), [])))) := by kernel_rfl
theorem cal_x (left : BitVec 64) (n : W4) : Tr.prune (Tr.Sh.any.both Tr.Sh.any)
  (execBF Pr OG1 noLoopsT (100 : Nat) Go.Proofs.Tryd.f68 [V.u64 left, n.v] []) =
  Tr.chk true
  (Tr.br (isSmall n)
    (Tr.chk true
      (Tr.leaf
        (Fin.ret
            (V.u64
              (if left - left / BitVec.ofInt (64 : Nat) (64 : Int) < n.d then
                left - left / BitVec.ofInt (64 : Nat) (64 : Int)
              else n.d)),
          [])))
    (Tr.chk true (Tr.leaf (Fin.ret (V.u64 (left - left / BitVec.ofInt (64 : Nat) (64 : Int))), [])))) := by kernel_rfl
theorem rcal_x (left : BitVec 64) (n : W4) : Tr.prune (((Tr.Sh.any.both Tr.Sh.any).l.l.both
          Tr.Sh.any.r.r.r).l.l.both
  Tr.Sh.any.r.r.r.r.r.r)
  (execBF Pr OG1 noLoopsT (100 : Nat) Go.Proofs.Tryd.f69 [V.u64 left, n.v] []) =
  Tr.chk true
  (Tr.br (n.a == BitVec.ofInt (64 : Nat) (0 : Int))
    (Tr.chk true
      (Tr.br (n.b == BitVec.ofInt (64 : Nat) (0 : Int))
        (Tr.chk true
          (Tr.br (n.c == BitVec.ofInt (64 : Nat) (0 : Int))
            (Tr.chk true
              (Tr.leaf
                (Fin.ret
                    (V.u64
                      (if n.d < left - left / BitVec.ofInt (64 : Nat) (64 : Int) then n.d
                      else left - left / BitVec.ofInt (64 : Nat) (64 : Int))),
                  [])))
            (Tr.chk true (Tr.leaf (Fin.ret (V.u64 (left - left / BitVec.ofInt (64 : Nat) (64 : Int))), [])))))
        (Tr.chk true (Tr.leaf (Fin.ret (V.u64 (left - left / BitVec.ofInt (64 : Nat) (64 : Int))), [])))))
    (Tr.chk true (Tr.leaf (Fin.ret (V.u64 (left - left / BitVec.ofInt (64 : Nat) (64 : Int))), [])))) := by kernel_rfl
theorem rfd_x (used : BitVec 64) (refund : Int) : Tr.prune (Tr.Sh.any)
  (execBF Pr OG1 noLoopsT (100 : Nat) Go.Proofs.Tryd.f70 [V.u64 used, V.int IntKind.i64 refund] []) =
  Tr.chk true
  (Tr.leaf
    (Fin.ret
        (V.u64
          (if
              used / BitVec.ofInt (64 : Nat) (5 : Int) <
                BitVec.ofInt (64 : Nat) (if (0 : Int) > refund then (0 : Int) else refund) then
            used / BitVec.ofInt (64 : Nat) (5 : Int)
          else BitVec.ofInt (64 : Nat) (if (0 : Int) > refund then (0 : Int) else refund))),
      [])) := by kernel_rfl
theorem rrfd_x (used : BitVec 64) (refund : Int) : Tr.prune (Tr.Sh.any.both Tr.Sh.any)
  (execBF Pr OG1 noLoopsT (100 : Nat) Go.Proofs.Tryd.f71 [V.u64 used, V.int IntKind.i64 refund] []) =
  Tr.chk true
  (Tr.br (decide (refund < (0 : Int))) (Tr.chk true (Tr.leaf (Fin.ret (V.u64 (BitVec.ofInt (64 : Nat) (0 : Int))), [])))
    (Tr.chk true
      (Tr.leaf
        (Fin.ret
            (V.u64
              (if used / BitVec.ofInt (64 : Nat) (5 : Int) < BitVec.ofInt (64 : Nat) refund then
                used / BitVec.ofInt (64 : Nat) (5 : Int)
              else BitVec.ofInt (64 : Nat) refund)),
          [])))) := by kernel_rfl
end
end Go.Proofs.YtajbaocfdlopbaaDoor.K
end
section
open Go Go.Lh
namespace Go.Proofs.YtajbaocfdlopbaaDoor.K
noncomputable section
set_option maxRecDepth 100000
def touV (c : Bool) : BitVec 64 := bif c then BitVec.ofInt 64 2600 else BitVec.ofInt 64 100
def calV (l : BitVec 64) (n : W4) : BitVec 64 := bif isSmall n then (if l - l / BitVec.ofInt 64 64 < n.d then l - l / BitVec.ofInt 64 64 else n.d) else l - l / BitVec.ofInt 64 64
def rfdV (u : BitVec 64) (r : Int) : BitVec 64 := if u / BitVec.ofInt 64 5 < BitVec.ofInt 64 (if (0 : Int) > r then 0 else r) then u / BitVec.ofInt 64 5 else BitVec.ofInt 64 (if (0 : Int) > r then 0 else r)
theorem tou_fn (c : Bool) : LFn Pr 66 [.bool c] [] (.ret (.u64 (touV c))) [] := by
  refine fnT OG1_sound mixed (by kernel_rfl) LoopsOk.noneT (tou_x c) ?_
  cases c <;> simp [wp_chk, wp_leaf, wp_br, touV]
theorem rtou_fn (c : Bool) : LFn Pr 67 [.bool c] [] (.ret (.u64 (touV c))) [] := by
  refine fnT OG1_sound mixed (by kernel_rfl) LoopsOk.noneT (rtou_x c) ?_
  cases c <;> simp [wp_chk, wp_leaf, wp_br, touV]
theorem cal_fn (l : BitVec 64) (n : W4) : LFn Pr 68 [.u64 l, n.v] [] (.ret (.u64 (calV l n))) [] := by
  refine fnT OG1_sound mixed (by kernel_rfl) LoopsOk.noneT (cal_x l n) ?_
  unfold calV
  cases isSmall n <;> simp [wp_chk, wp_leaf, wp_br]
theorem bv_min (x y : BitVec 64) : (if x < y then x else y) = (if y < x then y else x) := by
  apply BitVec.eq_of_toNat_eq
  split <;> split <;> rename_i h1 h2 <;> rw [BitVec.lt_def] at h1 h2 <;> omega
theorem rcal_fn (l : BitVec 64) (n : W4) : LFn Pr 69 [.u64 l, n.v] [] (.ret (.u64 (calV l n))) [] := by
  refine fnT OG1_sound mixed (by kernel_rfl) LoopsOk.noneT (rcal_x l n) ?_
  have e : isSmall n = (n.a == BitVec.ofInt 64 0 && (n.b == BitVec.ofInt 64 0 && n.c == BitVec.ofInt 64 0)) := by
    unfold isSmall
    rw [Bool.eq_iff_iff]
    simp only [Bool.and_eq_true, beq_iff_eq]
    constructor
    · intro h
      have h1 := congrArg BitVec.toNat h
      refine ⟨?_, ?_, ?_⟩ <;> apply BitVec.eq_of_toNat_eq <;> apply Nat.eq_of_testBit_eq <;> intro i <;> have h2 := congrArg (fun z : BitVec 64 => z.getLsbD i) h <;> simp at h2 ⊢ <;> simp [← BitVec.testBit_toNat] at h2 ⊢ <;> simp [h2]
    · rintro ⟨h1, h2, h3⟩; rw [h1, h2, h3]; rfl
  unfold calV
  rw [bv_min, e]
  cases ha : n.a == BitVec.ofInt 64 0 <;> cases hb : n.b == BitVec.ofInt 64 0 <;> cases hc : n.c == BitVec.ofInt 64 0 <;>
    simp [wp_chk, wp_leaf, wp_br]
theorem rfd_fn (u : BitVec 64) (r : Int) : LFn Pr 70 [.u64 u, .int .i64 r] [] (.ret (.u64 (rfdV u r))) [] :=
  fnT OG1_sound mixed (by kernel_rfl) LoopsOk.noneT (rfd_x u r) (tr1 rfl rfl)
theorem rrfd_fn (u : BitVec 64) (r : Int) : LFn Pr 71 [.u64 u, .int .i64 r] [] (.ret (.u64 (rfdV u r))) [] := by
  refine fnT OG1_sound mixed (by kernel_rfl) LoopsOk.noneT (rrfd_x u r) ?_
  unfold rfdV
  simp only [wp_chk, wp_leaf, wp_br, true_and, decide_eq_true_eq, decide_eq_false_iff_not]
  refine ⟨fun h => ?_, fun h => ?_⟩
  · rw [if_pos (show (0 : Int) > r from h)]
    have : ¬ u / BitVec.ofInt 64 5 < BitVec.ofInt 64 0 := by rw [BitVec.lt_def]; exact Nat.not_lt_zero _
    rw [if_neg this]
  · rw [if_neg (show ¬ (0 : Int) > r from fun e => h e)]
def readB1 : List V → Heap → Option Bool := fun args h => match args, h with
  | [.bool c], [] => some c
  | _, _ => none
def readUW : List V → Heap → Option (BitVec 64 × W4) := fun args h => match args, h with
  | [.u64 l, .agg [.u64 a, .u64 b, .u64 c, .u64 d]], [] => some (l, ⟨a, b, c, d⟩)
  | _, _ => none
def readUI : List V → Heap → Option (BitVec 64 × Int) := fun args h => match args, h with
  | [.u64 l, .int .i64 r], [] => some (l, r)
  | _, _ => none
def b1_g (v : Bool → V) : List V → Heap → Tr (Fin × Heap) := ctT readB1 fun c => .leaf (.ret (v c), [])
def uw_g (v : BitVec 64 → W4 → V) : List V → Heap → Tr (Fin × Heap) := ctT readUW fun c => .leaf (.ret (v c.1 c.2), [])
def ui_g (v : BitVec 64 → Int → V) : List V → Heap → Tr (Fin × Heap) := ctT readUI fun c => .leaf (.ret (v c.1 c.2), [])
theorem b1_ok {i : FuncId} {v : Bool → V} (hf : ∀ c, LFn Pr i [.bool c] [] (.ret (v c)) []) : ∀ args h r, (b1_g v args h).is r → LFn Pr i args h r.1 r.2 := by
  refine ctT_ok (fun a => [.bool a]) (fun _ => []) ?_ (fun a r h => ?_)
  · intro args h a e
    unfold readB1 at e
    split at e <;> cases e
    exact ⟨rfl, rfl⟩
  · rw [Tr.is_leaf] at h; subst h; exact hf a
theorem uw_ok {i : FuncId} {v : BitVec 64 → W4 → V} (hf : ∀ l n, LFn Pr i [.u64 l, n.v] [] (.ret (v l n)) []) : ∀ args h r, (uw_g v args h).is r → LFn Pr i args h r.1 r.2 := by
  refine ctT_ok (fun a => [.u64 a.1, a.2.v]) (fun _ => []) ?_ (fun a r h => ?_)
  · intro args h a e
    unfold readUW at e
    split at e <;> cases e
    exact ⟨rfl, rfl⟩
  · rw [Tr.is_leaf] at h; subst h; exact hf a.1 a.2
theorem ui_ok {i : FuncId} {v : BitVec 64 → Int → V} (hf : ∀ l n, LFn Pr i [.u64 l, .int .i64 n] [] (.ret (v l n)) []) : ∀ args h r, (ui_g v args h).is r → LFn Pr i args h r.1 r.2 := by
  refine ctT_ok (fun a => [.u64 a.1, .int .i64 a.2]) (fun _ => []) ?_ (fun a r h => ?_)
  · intro args h a e
    unfold readUI at e
    split at e <;> cases e
    exact ⟨rfl, rfl⟩
  · rw [Tr.is_leaf] at h; subst h; exact hf a.1 a.2
theorem tou_en : Enters Pr 66 := Enters.of (fn := Go.Proofs.Tryd.f66) (by kernel_rfl) (by kernel_rfl)
theorem rtou_en : Enters Pr 67 := Enters.of (fn := Go.Proofs.Tryd.f67) (by kernel_rfl) (by kernel_rfl)
theorem cal_en : Enters Pr 68 := Enters.of (fn := Go.Proofs.Tryd.f68) (by kernel_rfl) (by kernel_rfl)
theorem rcal_en : Enters Pr 69 := Enters.of (fn := Go.Proofs.Tryd.f69) (by kernel_rfl) (by kernel_rfl)
theorem rfd_en : Enters Pr 70 := Enters.of (fn := Go.Proofs.Tryd.f70) (by kernel_rfl) (by kernel_rfl)
theorem rrfd_en : Enters Pr 71 := Enters.of (fn := Go.Proofs.Tryd.f71) (by kernel_rfl) (by kernel_rfl)
def KG2 : KnownT := (66, b1_g fun c => .u64 (touV c)) :: (67, b1_g fun c => .u64 (touV c)) :: (68, uw_g fun l n => .u64 (calV l n)) :: (69, uw_g fun l n => .u64 (calV l n)) :: (70, ui_g fun l n => .u64 (rfdV l n)) :: (71, ui_g fun l n => .u64 (rfdV l n)) :: KG1
theorem KG2_ok : KOkT Pr KG2 := KOkT.cons tou_en (b1_ok tou_fn) (KOkT.cons rtou_en (b1_ok rtou_fn) (KOkT.cons cal_en (uw_ok cal_fn) (KOkT.cons rcal_en (uw_ok rcal_fn) (KOkT.cons rfd_en (ui_ok rfd_fn) (KOkT.cons rrfd_en (ui_ok rrfd_fn) KG1_ok)))))
def OG2 : OrcT := autoT Pr ext KG2 [52, 53, 54, 55, 56, 57, 58, 59, 60, 61, 62, 63, 64, 65, 105, 106] 5
theorem OG2_sound : OrcSound Pr OG2.o := autoT_sound mixed ext_ok KG2_ok (by kernel_rfl) 5
theorem gc_x (size : BitVec 64) (n : W4) (cold : Bool) (left : BitVec 64) (used : BitVec 64) (refund : Int) : Tr.prune ((((((((((Tr.Sh.any.l.l.l.l.l.l.both
                                                                                                                  Tr.Sh.any.r.r.r.r.r.r).l.l.l.l.l.l.both
                                                                                                  Tr.Sh.any.r.r.r.r.r.r.r.r.r.r.r.r.r).l.l.l.l.both
                                                                                      Tr.Sh.any.r.r.r.r.r.r.r.r.r.r.r.r.r.r.r.r.r.r).l.l.l.l.both
                                                                          Tr.Sh.any.r.r.r.r.r.r.r.r.r.r.r.r.r.r.r.r.r.r.r.r.r.r.r).l.l.l.l.both
                                                              Tr.Sh.any.r.r.r.r.r.r.r.r.r.r.r.r.r.r.r.r.r.r.r.r.r.r.r.r.r.r.r.r).l.l.l.l.both
                                                  Tr.Sh.any.r.r.r.r.r.r.r.r.r.r.r.r.r.r.r.r.r.r.r.r.r.r.r.r.r.r.r.r.r.r.r.r.r).l.l.l.l.both
                                      Tr.Sh.any.r.r.r.r.r.r.r.r.r.r.r.r.r.r.r.r.r.r.r.r.r.r.r.r.r.r.r.r.r.r.r.r.r.r.r.r.r.r).l.l.l.l.both
                          Tr.Sh.any.r.r.r.r.r.r.r.r.r.r.r.r.r.r.r.r.r.r.r.r.r.r.r.r.r.r.r.r.r.r.r.r.r.r.r.r.r.r.r.r.r.r.r).l.l.l.l.both
              Tr.Sh.any.r.r.r.r.r.r.r.r.r.r.r.r.r.r.r.r.r.r.r.r.r.r.r.r.r.r.r.r.r.r.r.r.r.r.r.r.r.r.r.r.r.r.r.r.r.r.r.r).l.l.l.l.l.r)
  (execBF Pr OG2 noLoopsT (100 : Nat) Go.Proofs.Tryd.f11
  [V.u64 size, n.v, V.bool cold, V.u64 left, V.u64 used, V.int IntKind.i64 refund] []) =
  Tr.chk true
  (Tr.br
    (((if BitVec.ofInt (64 : Nat) (4294967296 : Int) < size then BitVec.ofInt (64 : Nat) (4294967296 : Int) else size) +
          BitVec.ofInt (64 : Nat) (31 : Int)) /
        BitVec.ofInt (64 : Nat) (32 : Int) ==
      ((if BitVec.ofInt (64 : Nat) (4294967296 : Int) < size then BitVec.ofInt (64 : Nat) (4294967296 : Int)
          else size) +
          BitVec.ofInt (64 : Nat) (31 : Int)) /
        BitVec.ofInt (64 : Nat) (32 : Int))
    (Tr.chk true
      (Tr.br
        (BitVec.ofInt (64 : Nat) (3 : Int) *
            (((if BitVec.ofInt (64 : Nat) (4294967296 : Int) < size then BitVec.ofInt (64 : Nat) (4294967296 : Int)
                else size) +
                BitVec.ofInt (64 : Nat) (31 : Int)) /
              BitVec.ofInt (64 : Nat) (32 : Int)) ==
          BitVec.ofInt (64 : Nat) (3 : Int) *
            (((if BitVec.ofInt (64 : Nat) (4294967296 : Int) < size then BitVec.ofInt (64 : Nat) (4294967296 : Int)
                else size) +
                BitVec.ofInt (64 : Nat) (31 : Int)) /
              BitVec.ofInt (64 : Nat) (32 : Int)))
        (Tr.chk true
          (Tr.br
            (BitVec.ofInt (64 : Nat) (6 : Int) *
                (((if BitVec.ofInt (64 : Nat) (4294967296 : Int) < size then BitVec.ofInt (64 : Nat) (4294967296 : Int)
                    else size) +
                    BitVec.ofInt (64 : Nat) (31 : Int)) /
                  BitVec.ofInt (64 : Nat) (32 : Int)) ==
              BitVec.ofInt (64 : Nat) (6 : Int) *
                (((if BitVec.ofInt (64 : Nat) (4294967296 : Int) < size then BitVec.ofInt (64 : Nat) (4294967296 : Int)
                    else size) +
                    BitVec.ofInt (64 : Nat) (31 : Int)) /
                  BitVec.ofInt (64 : Nat) (32 : Int)))
            (Tr.chk true
              (Tr.br
                ((BitVec.ofInt (64 : Nat) (8 : Int) *
                    if BitVec.ofInt (64 : Nat) (4294967296 : Int) < size then BitVec.ofInt (64 : Nat) (4294967296 : Int)
                    else size) ==
                  BitVec.ofInt (64 : Nat) (8 : Int) *
                    if BitVec.ofInt (64 : Nat) (4294967296 : Int) < size then BitVec.ofInt (64 : Nat) (4294967296 : Int)
                    else size)
                (Tr.chk true
                  (Tr.br
                    (BitVec.ofInt (64 : Nat) (2 : Int) *
                        (((if BitVec.ofInt (64 : Nat) (4294967296 : Int) < size then
                              BitVec.ofInt (64 : Nat) (4294967296 : Int)
                            else size) +
                            BitVec.ofInt (64 : Nat) (31 : Int)) /
                          BitVec.ofInt (64 : Nat) (32 : Int)) ==
                      BitVec.ofInt (64 : Nat) (2 : Int) *
                        (((if BitVec.ofInt (64 : Nat) (4294967296 : Int) < size then
                              BitVec.ofInt (64 : Nat) (4294967296 : Int)
                            else size) +
                            BitVec.ofInt (64 : Nat) (31 : Int)) /
                          BitVec.ofInt (64 : Nat) (32 : Int)))
                    (Tr.chk true
                      (Tr.br
                        ((BitVec.ofInt (64 : Nat) (200 : Int) *
                            if BitVec.ofInt (64 : Nat) (4294967296 : Int) < size then
                              BitVec.ofInt (64 : Nat) (4294967296 : Int)
                            else size) ==
                          BitVec.ofInt (64 : Nat) (200 : Int) *
                            if BitVec.ofInt (64 : Nat) (4294967296 : Int) < size then
                              BitVec.ofInt (64 : Nat) (4294967296 : Int)
                            else size)
                        (Tr.chk true
                          (Tr.br
                            (BitVec.ofInt (64 : Nat) (50 : Int) * BitVec.ofInt (64 : Nat) (↑n.sz : Int) ==
                              BitVec.ofInt (64 : Nat) (50 : Int) * BitVec.ofInt (64 : Nat) (↑n.sz : Int))
                            (Tr.chk true
                              (Tr.br (touV cold == touV cold)
                                (Tr.chk true
                                  (Tr.br (calV left n == calV left n)
                                    (Tr.chk true
                                      (Tr.leaf (Fin.ret (V.bool (rfdV used refund == rfdV used refund)), [])))
                                    (Tr.chk true (Tr.leaf (Fin.ret (V.bool false), [])))))
                                (Tr.chk true (Tr.leaf (Fin.ret (V.bool false), [])))))
                            (Tr.chk true (Tr.leaf (Fin.ret (V.bool false), [])))))
                        (Tr.chk true (Tr.leaf (Fin.ret (V.bool false), [])))))
                    (Tr.chk true (Tr.leaf (Fin.ret (V.bool false), [])))))
                (Tr.chk true (Tr.leaf (Fin.ret (V.bool false), [])))))
            (Tr.chk true (Tr.leaf (Fin.ret (V.bool false), [])))))
        (Tr.chk true (Tr.leaf (Fin.ret (V.bool false), [])))))
    (Tr.chk true (Tr.leaf (Fin.ret (V.bool false), [])))) := by kernel_rfl
end
end Go.Proofs.YtajbaocfdlopbaaDoor.K
end
section
open Go Go.Lh
namespace Go.Proofs.YtajbaocfdlopbaaDoor.K
noncomputable section
set_option maxRecDepth 100000
theorem gasCosts_fn (size : BitVec 64) (n : W4) (cold : Bool) (left used : BitVec 64) (refund : Int) : LFn Pr 11 [.u64 size, n.v, .bool cold, .u64 left, .u64 used, .int .i64 refund] [] (.ret (.bool true)) [] := by
  refine fnT OG2_sound mixed (by kernel_rfl) LoopsOk.noneT (gc_x size n cold left used refund) ?_
  simp only [wp_chk_true, wp_chk, wp_leaf, wp_br, ret_bool, Bool.and_true, beq_self_eq_true, Bool.and_self, and_true, true_and, true_implies, Bool.true_eq_false, false_implies, implies_true]
end
end Go.Proofs.YtajbaocfdlopbaaDoor.K
end
