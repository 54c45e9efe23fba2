/- What a slot costs. -/
import Derived.Test.YtajbaocfdlopbaaG1
set_option linter.unusedSimpArgs false
set_option linter.unusedVariables false
open Go Go.Lh
namespace Go.Proofs.Ytajbaocfdlopbaa.K
noncomputable section
set_option maxRecDepth 100000
def sm4 (b0 b1 b2 b3 : Bool) : Int := (if b0 then -4800 else 0) + (if b1 then 4800 else 0) + (if b2 then 19900 else 0) + (if b3 then 2800 else 0)
theorem sum4_x (b0 b1 b2 b3 : Bool) (cp : Option Nat) : execF Pr noOrc noLoops 100 Go.Proofs.Try.f87 [.sl 0 0 2 4 cp] [.vals [.bool b0, .int .i64 (-4800), .bool b1, .int .i64 4800, .bool b2, .int .i64 19900, .bool b3, .int .i64 2800]] =
    some (true, .ret (.int .i64 (sm4 b0 b1 b2 b3)), [.vals [.bool b0, .int .i64 (-4800), .bool b1, .int .i64 4800, .bool b2, .int .i64 19900, .bool b3, .int .i64 2800]]) := by
  cases b0 <;> cases b1 <;> cases b2 <;> cases b3 <;> kernel_rfl
theorem sum1_x (b : Bool) (cp : Option Nat) : execF Pr noOrc noLoops 100 Go.Proofs.Try.f87 [.sl 0 0 2 1 cp] [.vals [.bool b, .int .i64 4800]] = some (true, .ret (.int .i64 (if b then 4800 else 0)), [.vals [.bool b, .int .i64 4800]]) := by
  cases b <;> kernel_rfl
structure S4 where
  b0 : Bool
  b1 : Bool
  b2 : Bool
  b3 : Bool
  r0 : Int
  r1 : Int
  r2 : Int
  r3 : Int
  cp : Option Nat
def sum4_g := ct (fun (args : List V) (h : Heap) => match args, h with
  | [.sl 0 0 2 4 cp], [.vals [.bool b0, .int .i64 r0, .bool b1, .int .i64 r1, .bool b2, .int .i64 r2, .bool b3, .int .i64 r3]] => some (S4.mk b0 b1 b2 b3 r0 r1 r2 r3 cp)
  | _, _ => none) (fun a => decide (a.r0 = -4800) && decide (a.r1 = 4800) && decide (a.r2 = 19900) && decide (a.r3 = 2800)) (fun a => .ret (.int .i64 (sm4 a.b0 a.b1 a.b2 a.b3)))
  (fun a => [.vals [.bool a.b0, .int .i64 a.r0, .bool a.b1, .int .i64 a.r1, .bool a.b2, .int .i64 a.r2, .bool a.b3, .int .i64 a.r3]])
theorem sum4_ok : ∀ args h fin h', sum4_g args h = some (true, fin, h') → LFn Pr 87 args h fin h' := by
  refine ct_ok (fun a => [.sl 0 0 2 4 a.cp]) (fun a => [.vals [.bool a.b0, .int .i64 a.r0, .bool a.b1, .int .i64 a.r1, .bool a.b2, .int .i64 a.r2, .bool a.b3, .int .i64 a.r3]]) ?_ ?_
  · intro args h a e
    split at e <;> cases e
    exact ⟨rfl, rfl⟩
  · rintro ⟨b0, b1, b2, b3, r0, r1, r2, r3, cp⟩ hok
    simp only [Bool.and_eq_true, decide_eq_true_eq] at hok
    obtain ⟨⟨⟨rfl, rfl⟩, rfl⟩, rfl⟩ := hok
    exact execF_sound (fn := Go.Proofs.Try.f87) (noOrc_sound _) mixed (by kernel_rfl) (fun _ _ _ _ => LoopOk.none) (sum4_x b0 b1 b2 b3 cp)
structure S1 where
  b : Bool
  r : Int
  cp : Option Nat
def sum1_g := ct (fun (args : List V) (h : Heap) => match args, h with
  | [.sl 0 0 2 1 cp], [.vals [.bool b, .int .i64 r]] => some (S1.mk b r cp)
  | _, _ => none) (fun a => decide (a.r = 4800)) (fun a => .ret (.int .i64 (if a.b then 4800 else 0))) (fun a => [.vals [.bool a.b, .int .i64 a.r]])
theorem sum1_ok : ∀ args h fin h', sum1_g args h = some (true, fin, h') → LFn Pr 87 args h fin h' := by
  refine ct_ok (fun a => [.sl 0 0 2 1 a.cp]) (fun a => [.vals [.bool a.b, .int .i64 a.r]]) ?_ ?_
  · intro args h a e
    split at e <;> cases e
    exact ⟨rfl, rfl⟩
  · rintro ⟨b, r, cp⟩ hok
    have : r = 4800 := of_decide_eq_true hok
    subst this
    exact execF_sound (fn := Go.Proofs.Try.f87) (noOrc_sound _) mixed (by kernel_rfl) (fun _ _ _ _ => LoopOk.none) (sum1_x b cp)
theorem sum_en : Enters Pr 87 := Enters.of (fn := Go.Proofs.Try.f87) (by kernel_rfl) (by kernel_rfl)
def OS4 : Orc := auto Pr ext [(87, sum4_g)] [86] 3
theorem OS4_sound : OrcSound Pr OS4 := auto_sound mixed ext_ok (KOk.cons sum_en sum4_ok KOk.nil) (by kernel_rfl) 3
def OS1 : Orc := auto Pr ext [(87, sum1_g)] [86] 3
theorem OS1_sound : OrcSound Pr OS1 := auto_sound mixed ext_ok (KOk.cons sum_en sum1_ok KOk.nil) (by kernel_rfl) 3
def eqB (x y : W4) : Bool := x.a == y.a && (x.b == y.b && (x.c == y.c && (x.d == y.d && true)))
def eqZ (x : W4) : Bool := x.a == BitVec.ofInt 64 0 && (x.b == BitVec.ofInt 64 0 && (x.c == BitVec.ofInt 64 0 && (x.d == BitVec.ofInt 64 0 && true)))
theorem eqB_iff (x y : W4) : eqB x y = decide (x = y) := by
  unfold eqB; rw [Bool.eq_iff_iff]; cases x; cases y; simp
theorem eqZ_iff (x : W4) : eqZ x = decide (x = W4.zero) := by
  rw [← eqB_iff]; rfl
theorem st1t (o : W4) (c : W4) (v : W4) :
  execFD Pr OS1 noLoops [((16 : Nat), true)] (100 : Nat) Go.Proofs.Try.f43 [o.v, c.v, v.v, V.bool true] [] =
  some
  (eqB v c && true && true,
    Fin.ret
      (V.tup
        [V.u64 (BitVec.ofInt (64 : Nat) (2100 : Int) + BitVec.ofInt (64 : Nat) (100 : Int)),
          V.int IntKind.i64 (0 : Int)]),
    []) := by kernel_rfl
theorem st1f (o : W4) (c : W4) (v : W4) :
  execFD Pr OS1 noLoops [((16 : Nat), true)] (100 : Nat) Go.Proofs.Try.f43 [o.v, c.v, v.v, V.bool false] [] =
  some
  (eqB v c && true && true,
    Fin.ret
      (V.tup
        [V.u64 (BitVec.ofInt (64 : Nat) (0 : Int) + BitVec.ofInt (64 : Nat) (100 : Int)), V.int IntKind.i64 (0 : Int)]),
    []) := by kernel_rfl
theorem st2t (o : W4) (c : W4) (v : W4) :
  execFD Pr (withAsm OS1 [((11 : Nat), true)]) noLoops [((16 : Nat), false), ((22 : Nat), true)] (100 : Nat)
  Go.Proofs.Try.f43 [o.v, c.v, v.v, V.bool true] [] =
  some
  (!eqB v c && (eqB c o && true && ((bif true then eqZ o else false) && true)) && true,
    Fin.ret
      (V.tup
        [V.u64 (BitVec.ofInt (64 : Nat) (2100 : Int) + BitVec.ofInt (64 : Nat) (20000 : Int)),
          V.int IntKind.i64 (0 : Int)]),
    []) := by kernel_rfl
theorem st2f (o : W4) (c : W4) (v : W4) :
  execFD Pr (withAsm OS1 [((11 : Nat), true)]) noLoops [((16 : Nat), false), ((22 : Nat), true)] (100 : Nat)
  Go.Proofs.Try.f43 [o.v, c.v, v.v, V.bool false] [] =
  some
  (!eqB v c && (eqB c o && true && ((bif true then eqZ o else false) && true)) && true,
    Fin.ret
      (V.tup
        [V.u64 (BitVec.ofInt (64 : Nat) (0 : Int) + BitVec.ofInt (64 : Nat) (20000 : Int)),
          V.int IntKind.i64 (0 : Int)]),
    []) := by kernel_rfl
theorem st3t (o : W4) (c : W4) (v : W4) :
  execFD Pr (withAsm OS1 [((11 : Nat), true)]) noLoops [((16 : Nat), false), ((22 : Nat), false)] (100 : Nat)
  Go.Proofs.Try.f43 [o.v, c.v, v.v, V.bool true] [] =
  some
  (!eqB v c &&
        (eqB c o && true &&
          ((!bif true then eqZ o else false) &&
            (eqB c o && true &&
              ((fun a ↦ decide (a.r = (4800 : Int))) (S1.mk (eqZ v) (4800 : Int) (some (1 : Nat))) && true &&
                true)))) &&
      true,
    Fin.ret
      (V.tup
        [V.u64 (BitVec.ofInt (64 : Nat) (2100 : Int) + BitVec.ofInt (64 : Nat) (2900 : Int)),
          V.int IntKind.i64
            (if (S1.mk (eqZ v) (4800 : Int) (some (1 : Nat))).b = true then (4800 : Int) else (0 : Int))]),
    []) := by kernel_rfl
theorem st3f (o : W4) (c : W4) (v : W4) :
  execFD Pr (withAsm OS1 [((11 : Nat), true)]) noLoops [((16 : Nat), false), ((22 : Nat), false)] (100 : Nat)
  Go.Proofs.Try.f43 [o.v, c.v, v.v, V.bool false] [] =
  some
  (!eqB v c &&
        (eqB c o && true &&
          ((!bif true then eqZ o else false) &&
            (eqB c o && true &&
              ((fun a ↦ decide (a.r = (4800 : Int))) (S1.mk (eqZ v) (4800 : Int) (some (1 : Nat))) && true &&
                true)))) &&
      true,
    Fin.ret
      (V.tup
        [V.u64 (BitVec.ofInt (64 : Nat) (0 : Int) + BitVec.ofInt (64 : Nat) (2900 : Int)),
          V.int IntKind.i64
            (if (S1.mk (eqZ v) (4800 : Int) (some (1 : Nat))).b = true then (4800 : Int) else (0 : Int))]),
    []) := by kernel_rfl
theorem st4at (o : W4) (c : W4) (v : W4) :
  execFD Pr
  (withAsm OS4 [((11 : Nat), false), ((46 : Nat), false), ((56 : Nat), false), ((71 : Nat), true), ((80 : Nat), true)])
  noLoops [((16 : Nat), false)] (100 : Nat) Go.Proofs.Try.f43 [o.v, c.v, v.v, V.bool true] [] =
  some
  (!eqB v c && (!eqB c o && true && (!eqB c o && true && true)) &&
        (!!eqZ o &&
            (!!eqZ o &&
              (eqB v o &&
                (eqB v o &&
                  ((fun a ↦
                        decide (a.r0 = (-4800 : Int)) && decide (a.r1 = (4800 : Int)) &&
                            decide (a.r2 = (19900 : Int)) &&
                          decide (a.r3 = (2800 : Int)))
                      (S4.mk false false (bif true then eqZ o else false) (bif true then !eqZ o else false)
                        (-4800 : Int) (4800 : Int) (19900 : Int) (2800 : Int) (some (4 : Nat))) &&
                    true)))) &&
          true) &&
      true,
    Fin.ret
      (V.tup
        [V.u64 (BitVec.ofInt (64 : Nat) (2100 : Int) + BitVec.ofInt (64 : Nat) (100 : Int)),
          V.int IntKind.i64
            (sm4
              (S4.mk false false (bif true then eqZ o else false) (bif true then !eqZ o else false) (-4800 : Int)
                  (4800 : Int) (19900 : Int) (2800 : Int) (some (4 : Nat))).b0
              (S4.mk false false (bif true then eqZ o else false) (bif true then !eqZ o else false) (-4800 : Int)
                  (4800 : Int) (19900 : Int) (2800 : Int) (some (4 : Nat))).b1
              (S4.mk false false (bif true then eqZ o else false) (bif true then !eqZ o else false) (-4800 : Int)
                  (4800 : Int) (19900 : Int) (2800 : Int) (some (4 : Nat))).b2
              (S4.mk false false (bif true then eqZ o else false) (bif true then !eqZ o else false) (-4800 : Int)
                  (4800 : Int) (19900 : Int) (2800 : Int) (some (4 : Nat))).b3)]),
    []) := by kernel_rfl
theorem st4af (o : W4) (c : W4) (v : W4) :
  execFD Pr
  (withAsm OS4 [((11 : Nat), false), ((46 : Nat), false), ((56 : Nat), false), ((71 : Nat), true), ((80 : Nat), true)])
  noLoops [((16 : Nat), false)] (100 : Nat) Go.Proofs.Try.f43 [o.v, c.v, v.v, V.bool false] [] =
  some
  (!eqB v c && (!eqB c o && true && (!eqB c o && true && true)) &&
        (!!eqZ o &&
            (!!eqZ o &&
              (eqB v o &&
                (eqB v o &&
                  ((fun a ↦
                        decide (a.r0 = (-4800 : Int)) && decide (a.r1 = (4800 : Int)) &&
                            decide (a.r2 = (19900 : Int)) &&
                          decide (a.r3 = (2800 : Int)))
                      (S4.mk false false (bif true then eqZ o else false) (bif true then !eqZ o else false)
                        (-4800 : Int) (4800 : Int) (19900 : Int) (2800 : Int) (some (4 : Nat))) &&
                    true)))) &&
          true) &&
      true,
    Fin.ret
      (V.tup
        [V.u64 (BitVec.ofInt (64 : Nat) (0 : Int) + BitVec.ofInt (64 : Nat) (100 : Int)),
          V.int IntKind.i64
            (sm4
              (S4.mk false false (bif true then eqZ o else false) (bif true then !eqZ o else false) (-4800 : Int)
                  (4800 : Int) (19900 : Int) (2800 : Int) (some (4 : Nat))).b0
              (S4.mk false false (bif true then eqZ o else false) (bif true then !eqZ o else false) (-4800 : Int)
                  (4800 : Int) (19900 : Int) (2800 : Int) (some (4 : Nat))).b1
              (S4.mk false false (bif true then eqZ o else false) (bif true then !eqZ o else false) (-4800 : Int)
                  (4800 : Int) (19900 : Int) (2800 : Int) (some (4 : Nat))).b2
              (S4.mk false false (bif true then eqZ o else false) (bif true then !eqZ o else false) (-4800 : Int)
                  (4800 : Int) (19900 : Int) (2800 : Int) (some (4 : Nat))).b3)]),
    []) := by kernel_rfl
theorem st4bt (o : W4) (c : W4) (v : W4) :
  execFD Pr
  (withAsm OS4
    [((11 : Nat), false), ((46 : Nat), false), ((56 : Nat), false), ((71 : Nat), false), ((80 : Nat), false)])
  noLoops [((16 : Nat), false)] (100 : Nat) Go.Proofs.Try.f43 [o.v, c.v, v.v, V.bool true] [] =
  some
  (!eqB v c && (!eqB c o && true && (!eqB c o && true && true)) &&
        (!!eqZ o && (!!eqZ o && (!eqB v o && (!eqB v o && true))) && true) &&
      true,
    Fin.ret
      (V.tup
        [V.u64 (BitVec.ofInt (64 : Nat) (2100 : Int) + BitVec.ofInt (64 : Nat) (100 : Int)),
          V.int IntKind.i64 (0 : Int)]),
    []) := by kernel_rfl
theorem st4bf (o : W4) (c : W4) (v : W4) :
  execFD Pr
  (withAsm OS4
    [((11 : Nat), false), ((46 : Nat), false), ((56 : Nat), false), ((71 : Nat), false), ((80 : Nat), false)])
  noLoops [((16 : Nat), false)] (100 : Nat) Go.Proofs.Try.f43 [o.v, c.v, v.v, V.bool false] [] =
  some
  (!eqB v c && (!eqB c o && true && (!eqB c o && true && true)) &&
        (!!eqZ o && (!!eqZ o && (!eqB v o && (!eqB v o && true))) && true) &&
      true,
    Fin.ret
      (V.tup
        [V.u64 (BitVec.ofInt (64 : Nat) (0 : Int) + BitVec.ofInt (64 : Nat) (100 : Int)), V.int IntKind.i64 (0 : Int)]),
    []) := by kernel_rfl
theorem st4ct (o : W4) (c : W4) (v : W4) :
  execFD Pr
  (withAsm OS4
    [((11 : Nat), false), ((46 : Nat), true), ((56 : Nat), true), ((62 : Nat), true), ((71 : Nat), true),
      ((80 : Nat), true)])
  noLoops [((16 : Nat), false)] (100 : Nat) Go.Proofs.Try.f43 [o.v, c.v, v.v, V.bool true] [] =
  some
  (!eqB v c && (!eqB c o && true && (!eqB c o && true && true)) &&
        (!eqZ o &&
            (!eqZ o &&
              ((bif true then !eqZ c else false) &&
                (eqB v o &&
                  (eqB v o &&
                    ((fun a ↦
                          decide (a.r0 = (-4800 : Int)) && decide (a.r1 = (4800 : Int)) &&
                              decide (a.r2 = (19900 : Int)) &&
                            decide (a.r3 = (2800 : Int)))
                        (S4.mk (bif true then eqZ c else false) (bif true then eqZ v else false)
                          (bif true then eqZ o else false) (bif true then !eqZ o else false) (-4800 : Int) (4800 : Int)
                          (19900 : Int) (2800 : Int) (some (4 : Nat))) &&
                      true))))) &&
          true) &&
      true,
    Fin.ret
      (V.tup
        [V.u64 (BitVec.ofInt (64 : Nat) (2100 : Int) + BitVec.ofInt (64 : Nat) (100 : Int)),
          V.int IntKind.i64
            (sm4
              (S4.mk (bif true then eqZ c else false) (bif true then eqZ v else false) (bif true then eqZ o else false)
                  (bif true then !eqZ o else false) (-4800 : Int) (4800 : Int) (19900 : Int) (2800 : Int)
                  (some (4 : Nat))).b0
              (S4.mk (bif true then eqZ c else false) (bif true then eqZ v else false) (bif true then eqZ o else false)
                  (bif true then !eqZ o else false) (-4800 : Int) (4800 : Int) (19900 : Int) (2800 : Int)
                  (some (4 : Nat))).b1
              (S4.mk (bif true then eqZ c else false) (bif true then eqZ v else false) (bif true then eqZ o else false)
                  (bif true then !eqZ o else false) (-4800 : Int) (4800 : Int) (19900 : Int) (2800 : Int)
                  (some (4 : Nat))).b2
              (S4.mk (bif true then eqZ c else false) (bif true then eqZ v else false) (bif true then eqZ o else false)
                  (bif true then !eqZ o else false) (-4800 : Int) (4800 : Int) (19900 : Int) (2800 : Int)
                  (some (4 : Nat))).b3)]),
    []) := by kernel_rfl
theorem st4cf (o : W4) (c : W4) (v : W4) :
  execFD Pr
  (withAsm OS4
    [((11 : Nat), false), ((46 : Nat), true), ((56 : Nat), true), ((62 : Nat), true), ((71 : Nat), true),
      ((80 : Nat), true)])
  noLoops [((16 : Nat), false)] (100 : Nat) Go.Proofs.Try.f43 [o.v, c.v, v.v, V.bool false] [] =
  some
  (!eqB v c && (!eqB c o && true && (!eqB c o && true && true)) &&
        (!eqZ o &&
            (!eqZ o &&
              ((bif true then !eqZ c else false) &&
                (eqB v o &&
                  (eqB v o &&
                    ((fun a ↦
                          decide (a.r0 = (-4800 : Int)) && decide (a.r1 = (4800 : Int)) &&
                              decide (a.r2 = (19900 : Int)) &&
                            decide (a.r3 = (2800 : Int)))
                        (S4.mk (bif true then eqZ c else false) (bif true then eqZ v else false)
                          (bif true then eqZ o else false) (bif true then !eqZ o else false) (-4800 : Int) (4800 : Int)
                          (19900 : Int) (2800 : Int) (some (4 : Nat))) &&
                      true))))) &&
          true) &&
      true,
    Fin.ret
      (V.tup
        [V.u64 (BitVec.ofInt (64 : Nat) (0 : Int) + BitVec.ofInt (64 : Nat) (100 : Int)),
          V.int IntKind.i64
            (sm4
              (S4.mk (bif true then eqZ c else false) (bif true then eqZ v else false) (bif true then eqZ o else false)
                  (bif true then !eqZ o else false) (-4800 : Int) (4800 : Int) (19900 : Int) (2800 : Int)
                  (some (4 : Nat))).b0
              (S4.mk (bif true then eqZ c else false) (bif true then eqZ v else false) (bif true then eqZ o else false)
                  (bif true then !eqZ o else false) (-4800 : Int) (4800 : Int) (19900 : Int) (2800 : Int)
                  (some (4 : Nat))).b1
              (S4.mk (bif true then eqZ c else false) (bif true then eqZ v else false) (bif true then eqZ o else false)
                  (bif true then !eqZ o else false) (-4800 : Int) (4800 : Int) (19900 : Int) (2800 : Int)
                  (some (4 : Nat))).b2
              (S4.mk (bif true then eqZ c else false) (bif true then eqZ v else false) (bif true then eqZ o else false)
                  (bif true then !eqZ o else false) (-4800 : Int) (4800 : Int) (19900 : Int) (2800 : Int)
                  (some (4 : Nat))).b3)]),
    []) := by kernel_rfl
theorem st4dt (o : W4) (c : W4) (v : W4) :
  execFD Pr
  (withAsm OS4
    [((11 : Nat), false), ((46 : Nat), true), ((56 : Nat), true), ((62 : Nat), true), ((71 : Nat), false),
      ((80 : Nat), false)])
  noLoops [((16 : Nat), false)] (100 : Nat) Go.Proofs.Try.f43 [o.v, c.v, v.v, V.bool true] [] =
  some
  (!eqB v c && (!eqB c o && true && (!eqB c o && true && true)) &&
        (!eqZ o &&
            (!eqZ o &&
              ((bif true then !eqZ c else false) &&
                (!eqB v o &&
                  (!eqB v o &&
                    ((fun a ↦
                          decide (a.r0 = (-4800 : Int)) && decide (a.r1 = (4800 : Int)) &&
                              decide (a.r2 = (19900 : Int)) &&
                            decide (a.r3 = (2800 : Int)))
                        (S4.mk (bif true then eqZ c else false) (bif true then eqZ v else false) false false
                          (-4800 : Int) (4800 : Int) (19900 : Int) (2800 : Int) (some (4 : Nat))) &&
                      true))))) &&
          true) &&
      true,
    Fin.ret
      (V.tup
        [V.u64 (BitVec.ofInt (64 : Nat) (2100 : Int) + BitVec.ofInt (64 : Nat) (100 : Int)),
          V.int IntKind.i64
            (sm4
              (S4.mk (bif true then eqZ c else false) (bif true then eqZ v else false) false false (-4800 : Int)
                  (4800 : Int) (19900 : Int) (2800 : Int) (some (4 : Nat))).b0
              (S4.mk (bif true then eqZ c else false) (bif true then eqZ v else false) false false (-4800 : Int)
                  (4800 : Int) (19900 : Int) (2800 : Int) (some (4 : Nat))).b1
              (S4.mk (bif true then eqZ c else false) (bif true then eqZ v else false) false false (-4800 : Int)
                  (4800 : Int) (19900 : Int) (2800 : Int) (some (4 : Nat))).b2
              (S4.mk (bif true then eqZ c else false) (bif true then eqZ v else false) false false (-4800 : Int)
                  (4800 : Int) (19900 : Int) (2800 : Int) (some (4 : Nat))).b3)]),
    []) := by kernel_rfl
theorem st4df (o : W4) (c : W4) (v : W4) :
  execFD Pr
  (withAsm OS4
    [((11 : Nat), false), ((46 : Nat), true), ((56 : Nat), true), ((62 : Nat), true), ((71 : Nat), false),
      ((80 : Nat), false)])
  noLoops [((16 : Nat), false)] (100 : Nat) Go.Proofs.Try.f43 [o.v, c.v, v.v, V.bool false] [] =
  some
  (!eqB v c && (!eqB c o && true && (!eqB c o && true && true)) &&
        (!eqZ o &&
            (!eqZ o &&
              ((bif true then !eqZ c else false) &&
                (!eqB v o &&
                  (!eqB v o &&
                    ((fun a ↦
                          decide (a.r0 = (-4800 : Int)) && decide (a.r1 = (4800 : Int)) &&
                              decide (a.r2 = (19900 : Int)) &&
                            decide (a.r3 = (2800 : Int)))
                        (S4.mk (bif true then eqZ c else false) (bif true then eqZ v else false) false false
                          (-4800 : Int) (4800 : Int) (19900 : Int) (2800 : Int) (some (4 : Nat))) &&
                      true))))) &&
          true) &&
      true,
    Fin.ret
      (V.tup
        [V.u64 (BitVec.ofInt (64 : Nat) (0 : Int) + BitVec.ofInt (64 : Nat) (100 : Int)),
          V.int IntKind.i64
            (sm4
              (S4.mk (bif true then eqZ c else false) (bif true then eqZ v else false) false false (-4800 : Int)
                  (4800 : Int) (19900 : Int) (2800 : Int) (some (4 : Nat))).b0
              (S4.mk (bif true then eqZ c else false) (bif true then eqZ v else false) false false (-4800 : Int)
                  (4800 : Int) (19900 : Int) (2800 : Int) (some (4 : Nat))).b1
              (S4.mk (bif true then eqZ c else false) (bif true then eqZ v else false) false false (-4800 : Int)
                  (4800 : Int) (19900 : Int) (2800 : Int) (some (4 : Nat))).b2
              (S4.mk (bif true then eqZ c else false) (bif true then eqZ v else false) false false (-4800 : Int)
                  (4800 : Int) (19900 : Int) (2800 : Int) (some (4 : Nat))).b3)]),
    []) := by kernel_rfl
theorem st4et (o : W4) (c : W4) (v : W4) :
  execFD Pr
  (withAsm OS4
    [((11 : Nat), false), ((46 : Nat), true), ((56 : Nat), true), ((62 : Nat), false), ((71 : Nat), true),
      ((80 : Nat), true)])
  noLoops [((16 : Nat), false)] (100 : Nat) Go.Proofs.Try.f43 [o.v, c.v, v.v, V.bool true] [] =
  some
  (!eqB v c && (!eqB c o && true && (!eqB c o && true && true)) &&
        (!eqZ o &&
            (!eqZ o &&
              ((!bif true then !eqZ c else false) &&
                (eqB v o &&
                  (eqB v o &&
                    ((fun a ↦
                          decide (a.r0 = (-4800 : Int)) && decide (a.r1 = (4800 : Int)) &&
                              decide (a.r2 = (19900 : Int)) &&
                            decide (a.r3 = (2800 : Int)))
                        (S4.mk (bif true then eqZ c else false) false (bif true then eqZ o else false)
                          (bif true then !eqZ o else false) (-4800 : Int) (4800 : Int) (19900 : Int) (2800 : Int)
                          (some (4 : Nat))) &&
                      true))))) &&
          true) &&
      true,
    Fin.ret
      (V.tup
        [V.u64 (BitVec.ofInt (64 : Nat) (2100 : Int) + BitVec.ofInt (64 : Nat) (100 : Int)),
          V.int IntKind.i64
            (sm4
              (S4.mk (bif true then eqZ c else false) false (bif true then eqZ o else false)
                  (bif true then !eqZ o else false) (-4800 : Int) (4800 : Int) (19900 : Int) (2800 : Int)
                  (some (4 : Nat))).b0
              (S4.mk (bif true then eqZ c else false) false (bif true then eqZ o else false)
                  (bif true then !eqZ o else false) (-4800 : Int) (4800 : Int) (19900 : Int) (2800 : Int)
                  (some (4 : Nat))).b1
              (S4.mk (bif true then eqZ c else false) false (bif true then eqZ o else false)
                  (bif true then !eqZ o else false) (-4800 : Int) (4800 : Int) (19900 : Int) (2800 : Int)
                  (some (4 : Nat))).b2
              (S4.mk (bif true then eqZ c else false) false (bif true then eqZ o else false)
                  (bif true then !eqZ o else false) (-4800 : Int) (4800 : Int) (19900 : Int) (2800 : Int)
                  (some (4 : Nat))).b3)]),
    []) := by kernel_rfl
theorem st4ef (o : W4) (c : W4) (v : W4) :
  execFD Pr
  (withAsm OS4
    [((11 : Nat), false), ((46 : Nat), true), ((56 : Nat), true), ((62 : Nat), false), ((71 : Nat), true),
      ((80 : Nat), true)])
  noLoops [((16 : Nat), false)] (100 : Nat) Go.Proofs.Try.f43 [o.v, c.v, v.v, V.bool false] [] =
  some
  (!eqB v c && (!eqB c o && true && (!eqB c o && true && true)) &&
        (!eqZ o &&
            (!eqZ o &&
              ((!bif true then !eqZ c else false) &&
                (eqB v o &&
                  (eqB v o &&
                    ((fun a ↦
                          decide (a.r0 = (-4800 : Int)) && decide (a.r1 = (4800 : Int)) &&
                              decide (a.r2 = (19900 : Int)) &&
                            decide (a.r3 = (2800 : Int)))
                        (S4.mk (bif true then eqZ c else false) false (bif true then eqZ o else false)
                          (bif true then !eqZ o else false) (-4800 : Int) (4800 : Int) (19900 : Int) (2800 : Int)
                          (some (4 : Nat))) &&
                      true))))) &&
          true) &&
      true,
    Fin.ret
      (V.tup
        [V.u64 (BitVec.ofInt (64 : Nat) (0 : Int) + BitVec.ofInt (64 : Nat) (100 : Int)),
          V.int IntKind.i64
            (sm4
              (S4.mk (bif true then eqZ c else false) false (bif true then eqZ o else false)
                  (bif true then !eqZ o else false) (-4800 : Int) (4800 : Int) (19900 : Int) (2800 : Int)
                  (some (4 : Nat))).b0
              (S4.mk (bif true then eqZ c else false) false (bif true then eqZ o else false)
                  (bif true then !eqZ o else false) (-4800 : Int) (4800 : Int) (19900 : Int) (2800 : Int)
                  (some (4 : Nat))).b1
              (S4.mk (bif true then eqZ c else false) false (bif true then eqZ o else false)
                  (bif true then !eqZ o else false) (-4800 : Int) (4800 : Int) (19900 : Int) (2800 : Int)
                  (some (4 : Nat))).b2
              (S4.mk (bif true then eqZ c else false) false (bif true then eqZ o else false)
                  (bif true then !eqZ o else false) (-4800 : Int) (4800 : Int) (19900 : Int) (2800 : Int)
                  (some (4 : Nat))).b3)]),
    []) := by kernel_rfl
theorem st4ft (o : W4) (c : W4) (v : W4) :
  execFD Pr
  (withAsm OS4
    [((11 : Nat), false), ((46 : Nat), true), ((56 : Nat), true), ((62 : Nat), false), ((71 : Nat), false),
      ((80 : Nat), false)])
  noLoops [((16 : Nat), false)] (100 : Nat) Go.Proofs.Try.f43 [o.v, c.v, v.v, V.bool true] [] =
  some
  (!eqB v c && (!eqB c o && true && (!eqB c o && true && true)) &&
        (!eqZ o &&
            (!eqZ o &&
              ((!bif true then !eqZ c else false) &&
                (!eqB v o &&
                  (!eqB v o &&
                    ((fun a ↦
                          decide (a.r0 = (-4800 : Int)) && decide (a.r1 = (4800 : Int)) &&
                              decide (a.r2 = (19900 : Int)) &&
                            decide (a.r3 = (2800 : Int)))
                        (S4.mk (bif true then eqZ c else false) false false false (-4800 : Int) (4800 : Int)
                          (19900 : Int) (2800 : Int) (some (4 : Nat))) &&
                      true))))) &&
          true) &&
      true,
    Fin.ret
      (V.tup
        [V.u64 (BitVec.ofInt (64 : Nat) (2100 : Int) + BitVec.ofInt (64 : Nat) (100 : Int)),
          V.int IntKind.i64
            (sm4
              (S4.mk (bif true then eqZ c else false) false false false (-4800 : Int) (4800 : Int) (19900 : Int)
                  (2800 : Int) (some (4 : Nat))).b0
              (S4.mk (bif true then eqZ c else false) false false false (-4800 : Int) (4800 : Int) (19900 : Int)
                  (2800 : Int) (some (4 : Nat))).b1
              (S4.mk (bif true then eqZ c else false) false false false (-4800 : Int) (4800 : Int) (19900 : Int)
                  (2800 : Int) (some (4 : Nat))).b2
              (S4.mk (bif true then eqZ c else false) false false false (-4800 : Int) (4800 : Int) (19900 : Int)
                  (2800 : Int) (some (4 : Nat))).b3)]),
    []) := by kernel_rfl
theorem st4ff (o : W4) (c : W4) (v : W4) :
  execFD Pr
  (withAsm OS4
    [((11 : Nat), false), ((46 : Nat), true), ((56 : Nat), true), ((62 : Nat), false), ((71 : Nat), false),
      ((80 : Nat), false)])
  noLoops [((16 : Nat), false)] (100 : Nat) Go.Proofs.Try.f43 [o.v, c.v, v.v, V.bool false] [] =
  some
  (!eqB v c && (!eqB c o && true && (!eqB c o && true && true)) &&
        (!eqZ o &&
            (!eqZ o &&
              ((!bif true then !eqZ c else false) &&
                (!eqB v o &&
                  (!eqB v o &&
                    ((fun a ↦
                          decide (a.r0 = (-4800 : Int)) && decide (a.r1 = (4800 : Int)) &&
                              decide (a.r2 = (19900 : Int)) &&
                            decide (a.r3 = (2800 : Int)))
                        (S4.mk (bif true then eqZ c else false) false false false (-4800 : Int) (4800 : Int)
                          (19900 : Int) (2800 : Int) (some (4 : Nat))) &&
                      true))))) &&
          true) &&
      true,
    Fin.ret
      (V.tup
        [V.u64 (BitVec.ofInt (64 : Nat) (0 : Int) + BitVec.ofInt (64 : Nat) (100 : Int)),
          V.int IntKind.i64
            (sm4
              (S4.mk (bif true then eqZ c else false) false false false (-4800 : Int) (4800 : Int) (19900 : Int)
                  (2800 : Int) (some (4 : Nat))).b0
              (S4.mk (bif true then eqZ c else false) false false false (-4800 : Int) (4800 : Int) (19900 : Int)
                  (2800 : Int) (some (4 : Nat))).b1
              (S4.mk (bif true then eqZ c else false) false false false (-4800 : Int) (4800 : Int) (19900 : Int)
                  (2800 : Int) (some (4 : Nat))).b2
              (S4.mk (bif true then eqZ c else false) false false false (-4800 : Int) (4800 : Int) (19900 : Int)
                  (2800 : Int) (some (4 : Nat))).b3)]),
    []) := by kernel_rfl
/-- what a slot costs, and gives back -/
def stC (o c v : W4) (cold : Bool) : BitVec 64 × Int :=
  let b : BitVec 64 := if cold then 2100#64 else 0#64
  if v = c then (b + 100#64, 0)
  else if c = o then (if o = W4.zero then (b + 20000#64, 0) else (b + 2900#64, if v = W4.zero then 4800 else 0))
  else (b + 100#64, (if ¬ o = W4.zero ∧ c = W4.zero then -4800 else 0) + (if ¬ o = W4.zero ∧ ¬ c = W4.zero ∧ v = W4.zero then 4800 else 0) + (if v = o ∧ o = W4.zero then 19900 else 0) + (if v = o ∧ ¬ o = W4.zero then 2800 else 0))
theorem store_fn (o c v : W4) (cold : Bool) : LFn Pr 43 [o.v, c.v, v.v, .bool cold] [] (.ret (.tup [.u64 (stC o c v cold).1, .int .i64 (stC o c v cold).2])) [] := by
  have b0 : BitVec.ofInt 64 0 = 0#64 := rfl
  by_cases e1 : v = c
  · try have f1 : ¬ v = o := fun h => e1 (h.trans e2.symm)
    try have f2 : ¬ v = W4.zero := fun h => e1 ((h.trans e3.symm).trans e2.symm)
    try have f3 : ¬ c = W4.zero := fun h => e2 (h.trans e3.symm)
    try have f4 : ¬ v = W4.zero := fun h => e1 (h.trans e5.symm)
    try have f5 : ¬ o = c := fun h => e2 h.symm
    try have f6 : ¬ c = W4.zero := fun h => e3 (e2.symm.trans h)
    try have f7 : ¬ W4.zero = c := fun h => e2 (h.symm.trans e3.symm)
    try have f8 : ¬ v = W4.zero := fun h => e4 (h.trans e3.symm)
    try have f9 : ¬ W4.zero = o := fun h => e3 h.symm
    try have fa : ¬ o = W4.zero := fun h => e2 (e5.trans h.symm)
    try have fb : ¬ W4.zero = v := fun h => e1 (h.symm.trans e5.symm)
    cases cold with
    | true =>
      refine execFD_sound (fn := Go.Proofs.Try.f43) OS1_sound mixed (by kernel_rfl) (fun _ _ _ _ => LoopOk.none) ((st1t o c v).trans (stF ?_ ?_ rfl))
      · simp [eqB_iff, eqZ_iff, *]
      · simp [stC, sm4, eqB_iff, eqZ_iff, *]
    | false =>
      refine execFD_sound (fn := Go.Proofs.Try.f43) OS1_sound mixed (by kernel_rfl) (fun _ _ _ _ => LoopOk.none) ((st1f o c v).trans (stF ?_ ?_ rfl))
      · simp [eqB_iff, eqZ_iff, *]
      · simp [stC, sm4, eqB_iff, eqZ_iff, *]
  · by_cases e2 : c = o
    · by_cases e3 : o = W4.zero
      · try have f1 : ¬ v = o := fun h => e1 (h.trans e2.symm)
        try have f2 : ¬ v = W4.zero := fun h => e1 ((h.trans e3.symm).trans e2.symm)
        try have f3 : ¬ c = W4.zero := fun h => e2 (h.trans e3.symm)
        try have f4 : ¬ v = W4.zero := fun h => e1 (h.trans e5.symm)
        try have f5 : ¬ o = c := fun h => e2 h.symm
        try have f6 : ¬ c = W4.zero := fun h => e3 (e2.symm.trans h)
        try have f7 : ¬ W4.zero = c := fun h => e2 (h.symm.trans e3.symm)
        try have f8 : ¬ v = W4.zero := fun h => e4 (h.trans e3.symm)
        try have f9 : ¬ W4.zero = o := fun h => e3 h.symm
        try have fa : ¬ o = W4.zero := fun h => e2 (e5.trans h.symm)
        try have fb : ¬ W4.zero = v := fun h => e1 (h.symm.trans e5.symm)
        cases cold with
        | true =>
          refine execFD_sound (fn := Go.Proofs.Try.f43) (withAsm_sound OS1_sound) mixed (by kernel_rfl) (fun _ _ _ _ => LoopOk.none) ((st2t o c v).trans (stF ?_ ?_ rfl))
          · simp [eqB_iff, eqZ_iff, *]
          · simp [stC, sm4, eqB_iff, eqZ_iff, *]
        | false =>
          refine execFD_sound (fn := Go.Proofs.Try.f43) (withAsm_sound OS1_sound) mixed (by kernel_rfl) (fun _ _ _ _ => LoopOk.none) ((st2f o c v).trans (stF ?_ ?_ rfl))
          · simp [eqB_iff, eqZ_iff, *]
          · simp [stC, sm4, eqB_iff, eqZ_iff, *]
      · try have f1 : ¬ v = o := fun h => e1 (h.trans e2.symm)
        try have f2 : ¬ v = W4.zero := fun h => e1 ((h.trans e3.symm).trans e2.symm)
        try have f3 : ¬ c = W4.zero := fun h => e2 (h.trans e3.symm)
        try have f4 : ¬ v = W4.zero := fun h => e1 (h.trans e5.symm)
        try have f5 : ¬ o = c := fun h => e2 h.symm
        try have f6 : ¬ c = W4.zero := fun h => e3 (e2.symm.trans h)
        try have f7 : ¬ W4.zero = c := fun h => e2 (h.symm.trans e3.symm)
        try have f8 : ¬ v = W4.zero := fun h => e4 (h.trans e3.symm)
        try have f9 : ¬ W4.zero = o := fun h => e3 h.symm
        try have fa : ¬ o = W4.zero := fun h => e2 (e5.trans h.symm)
        try have fb : ¬ W4.zero = v := fun h => e1 (h.symm.trans e5.symm)
        cases cold with
        | true =>
          refine execFD_sound (fn := Go.Proofs.Try.f43) (withAsm_sound OS1_sound) mixed (by kernel_rfl) (fun _ _ _ _ => LoopOk.none) ((st3t o c v).trans (stF ?_ ?_ rfl))
          · simp [eqB_iff, eqZ_iff, *]
          · simp [stC, sm4, eqB_iff, eqZ_iff, *]
        | false =>
          refine execFD_sound (fn := Go.Proofs.Try.f43) (withAsm_sound OS1_sound) mixed (by kernel_rfl) (fun _ _ _ _ => LoopOk.none) ((st3f o c v).trans (stF ?_ ?_ rfl))
          · simp [eqB_iff, eqZ_iff, *]
          · simp [stC, sm4, eqB_iff, eqZ_iff, *]
    · by_cases e3 : o = W4.zero
      · by_cases e4 : v = o
        · try have f1 : ¬ v = o := fun h => e1 (h.trans e2.symm)
          try have f2 : ¬ v = W4.zero := fun h => e1 ((h.trans e3.symm).trans e2.symm)
          try have f3 : ¬ c = W4.zero := fun h => e2 (h.trans e3.symm)
          try have f4 : ¬ v = W4.zero := fun h => e1 (h.trans e5.symm)
          try have f5 : ¬ o = c := fun h => e2 h.symm
          try have f6 : ¬ c = W4.zero := fun h => e3 (e2.symm.trans h)
          try have f7 : ¬ W4.zero = c := fun h => e2 (h.symm.trans e3.symm)
          try have f8 : ¬ v = W4.zero := fun h => e4 (h.trans e3.symm)
          try have f9 : ¬ W4.zero = o := fun h => e3 h.symm
          try have fa : ¬ o = W4.zero := fun h => e2 (e5.trans h.symm)
          try have fb : ¬ W4.zero = v := fun h => e1 (h.symm.trans e5.symm)
          cases cold with
          | true =>
            refine execFD_sound (fn := Go.Proofs.Try.f43) (withAsm_sound OS4_sound) mixed (by kernel_rfl) (fun _ _ _ _ => LoopOk.none) ((st4at o c v).trans (stF ?_ ?_ rfl))
            · simp [eqB_iff, eqZ_iff, *]
            · simp [stC, sm4, eqB_iff, eqZ_iff, *]
          | false =>
            refine execFD_sound (fn := Go.Proofs.Try.f43) (withAsm_sound OS4_sound) mixed (by kernel_rfl) (fun _ _ _ _ => LoopOk.none) ((st4af o c v).trans (stF ?_ ?_ rfl))
            · simp [eqB_iff, eqZ_iff, *]
            · simp [stC, sm4, eqB_iff, eqZ_iff, *]
        · try have f1 : ¬ v = o := fun h => e1 (h.trans e2.symm)
          try have f2 : ¬ v = W4.zero := fun h => e1 ((h.trans e3.symm).trans e2.symm)
          try have f3 : ¬ c = W4.zero := fun h => e2 (h.trans e3.symm)
          try have f4 : ¬ v = W4.zero := fun h => e1 (h.trans e5.symm)
          try have f5 : ¬ o = c := fun h => e2 h.symm
          try have f6 : ¬ c = W4.zero := fun h => e3 (e2.symm.trans h)
          try have f7 : ¬ W4.zero = c := fun h => e2 (h.symm.trans e3.symm)
          try have f8 : ¬ v = W4.zero := fun h => e4 (h.trans e3.symm)
          try have f9 : ¬ W4.zero = o := fun h => e3 h.symm
          try have fa : ¬ o = W4.zero := fun h => e2 (e5.trans h.symm)
          try have fb : ¬ W4.zero = v := fun h => e1 (h.symm.trans e5.symm)
          cases cold with
          | true =>
            refine execFD_sound (fn := Go.Proofs.Try.f43) (withAsm_sound OS4_sound) mixed (by kernel_rfl) (fun _ _ _ _ => LoopOk.none) ((st4bt o c v).trans (stF ?_ ?_ rfl))
            · simp [eqB_iff, eqZ_iff, *]
            · simp [stC, sm4, eqB_iff, eqZ_iff, *]
          | false =>
            refine execFD_sound (fn := Go.Proofs.Try.f43) (withAsm_sound OS4_sound) mixed (by kernel_rfl) (fun _ _ _ _ => LoopOk.none) ((st4bf o c v).trans (stF ?_ ?_ rfl))
            · simp [eqB_iff, eqZ_iff, *]
            · simp [stC, sm4, eqB_iff, eqZ_iff, *]
      · by_cases e5 : c = W4.zero
        · by_cases e4 : v = o
          · try have f1 : ¬ v = o := fun h => e1 (h.trans e2.symm)
            try have f2 : ¬ v = W4.zero := fun h => e1 ((h.trans e3.symm).trans e2.symm)
            try have f3 : ¬ c = W4.zero := fun h => e2 (h.trans e3.symm)
            try have f4 : ¬ v = W4.zero := fun h => e1 (h.trans e5.symm)
            try have f5 : ¬ o = c := fun h => e2 h.symm
            try have f6 : ¬ c = W4.zero := fun h => e3 (e2.symm.trans h)
            try have f7 : ¬ W4.zero = c := fun h => e2 (h.symm.trans e3.symm)
            try have f8 : ¬ v = W4.zero := fun h => e4 (h.trans e3.symm)
            try have f9 : ¬ W4.zero = o := fun h => e3 h.symm
            try have fa : ¬ o = W4.zero := fun h => e2 (e5.trans h.symm)
            try have fb : ¬ W4.zero = v := fun h => e1 (h.symm.trans e5.symm)
            cases cold with
            | true =>
              refine execFD_sound (fn := Go.Proofs.Try.f43) (withAsm_sound OS4_sound) mixed (by kernel_rfl) (fun _ _ _ _ => LoopOk.none) ((st4et o c v).trans (stF ?_ ?_ rfl))
              · simp [eqB_iff, eqZ_iff, *]
              · simp [stC, sm4, eqB_iff, eqZ_iff, *]
            | false =>
              refine execFD_sound (fn := Go.Proofs.Try.f43) (withAsm_sound OS4_sound) mixed (by kernel_rfl) (fun _ _ _ _ => LoopOk.none) ((st4ef o c v).trans (stF ?_ ?_ rfl))
              · simp [eqB_iff, eqZ_iff, *]
              · simp [stC, sm4, eqB_iff, eqZ_iff, *]
          · try have f1 : ¬ v = o := fun h => e1 (h.trans e2.symm)
            try have f2 : ¬ v = W4.zero := fun h => e1 ((h.trans e3.symm).trans e2.symm)
            try have f3 : ¬ c = W4.zero := fun h => e2 (h.trans e3.symm)
            try have f4 : ¬ v = W4.zero := fun h => e1 (h.trans e5.symm)
            try have f5 : ¬ o = c := fun h => e2 h.symm
            try have f6 : ¬ c = W4.zero := fun h => e3 (e2.symm.trans h)
            try have f7 : ¬ W4.zero = c := fun h => e2 (h.symm.trans e3.symm)
            try have f8 : ¬ v = W4.zero := fun h => e4 (h.trans e3.symm)
            try have f9 : ¬ W4.zero = o := fun h => e3 h.symm
            try have fa : ¬ o = W4.zero := fun h => e2 (e5.trans h.symm)
            try have fb : ¬ W4.zero = v := fun h => e1 (h.symm.trans e5.symm)
            cases cold with
            | true =>
              refine execFD_sound (fn := Go.Proofs.Try.f43) (withAsm_sound OS4_sound) mixed (by kernel_rfl) (fun _ _ _ _ => LoopOk.none) ((st4ft o c v).trans (stF ?_ ?_ rfl))
              · simp [eqB_iff, eqZ_iff, *]
              · simp [stC, sm4, eqB_iff, eqZ_iff, *]
            | false =>
              refine execFD_sound (fn := Go.Proofs.Try.f43) (withAsm_sound OS4_sound) mixed (by kernel_rfl) (fun _ _ _ _ => LoopOk.none) ((st4ff o c v).trans (stF ?_ ?_ rfl))
              · simp [eqB_iff, eqZ_iff, *]
              · simp [stC, sm4, eqB_iff, eqZ_iff, *]
        · by_cases e4 : v = o
          · try have f1 : ¬ v = o := fun h => e1 (h.trans e2.symm)
            try have f2 : ¬ v = W4.zero := fun h => e1 ((h.trans e3.symm).trans e2.symm)
            try have f3 : ¬ c = W4.zero := fun h => e2 (h.trans e3.symm)
            try have f4 : ¬ v = W4.zero := fun h => e1 (h.trans e5.symm)
            try have f5 : ¬ o = c := fun h => e2 h.symm
            try have f6 : ¬ c = W4.zero := fun h => e3 (e2.symm.trans h)
            try have f7 : ¬ W4.zero = c := fun h => e2 (h.symm.trans e3.symm)
            try have f8 : ¬ v = W4.zero := fun h => e4 (h.trans e3.symm)
            try have f9 : ¬ W4.zero = o := fun h => e3 h.symm
            try have fa : ¬ o = W4.zero := fun h => e2 (e5.trans h.symm)
            try have fb : ¬ W4.zero = v := fun h => e1 (h.symm.trans e5.symm)
            cases cold with
            | true =>
              refine execFD_sound (fn := Go.Proofs.Try.f43) (withAsm_sound OS4_sound) mixed (by kernel_rfl) (fun _ _ _ _ => LoopOk.none) ((st4ct o c v).trans (stF ?_ ?_ rfl))
              · simp [eqB_iff, eqZ_iff, *]
              · simp [stC, sm4, eqB_iff, eqZ_iff, *]
            | false =>
              refine execFD_sound (fn := Go.Proofs.Try.f43) (withAsm_sound OS4_sound) mixed (by kernel_rfl) (fun _ _ _ _ => LoopOk.none) ((st4cf o c v).trans (stF ?_ ?_ rfl))
              · simp [eqB_iff, eqZ_iff, *]
              · simp [stC, sm4, eqB_iff, eqZ_iff, *]
          · try have f1 : ¬ v = o := fun h => e1 (h.trans e2.symm)
            try have f2 : ¬ v = W4.zero := fun h => e1 ((h.trans e3.symm).trans e2.symm)
            try have f3 : ¬ c = W4.zero := fun h => e2 (h.trans e3.symm)
            try have f4 : ¬ v = W4.zero := fun h => e1 (h.trans e5.symm)
            try have f5 : ¬ o = c := fun h => e2 h.symm
            try have f6 : ¬ c = W4.zero := fun h => e3 (e2.symm.trans h)
            try have f7 : ¬ W4.zero = c := fun h => e2 (h.symm.trans e3.symm)
            try have f8 : ¬ v = W4.zero := fun h => e4 (h.trans e3.symm)
            try have f9 : ¬ W4.zero = o := fun h => e3 h.symm
            try have fa : ¬ o = W4.zero := fun h => e2 (e5.trans h.symm)
            try have fb : ¬ W4.zero = v := fun h => e1 (h.symm.trans e5.symm)
            cases cold with
            | true =>
              refine execFD_sound (fn := Go.Proofs.Try.f43) (withAsm_sound OS4_sound) mixed (by kernel_rfl) (fun _ _ _ _ => LoopOk.none) ((st4dt o c v).trans (stF ?_ ?_ rfl))
              · simp [eqB_iff, eqZ_iff, *]
              · simp [stC, sm4, eqB_iff, eqZ_iff, *]
            | false =>
              refine execFD_sound (fn := Go.Proofs.Try.f43) (withAsm_sound OS4_sound) mixed (by kernel_rfl) (fun _ _ _ _ => LoopOk.none) ((st4df o c v).trans (stF ?_ ?_ rfl))
              · simp [eqB_iff, eqZ_iff, *]
              · simp [stC, sm4, eqB_iff, eqZ_iff, *]
end
end Go.Proofs.Ytajbaocfdlopbaa.K
