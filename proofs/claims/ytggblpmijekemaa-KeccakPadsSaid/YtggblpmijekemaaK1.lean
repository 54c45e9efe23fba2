import Derived.Test.YtggblpmijekemaaLhAB
import Derived.Test.YtggblpmijekemaaProg
set_option linter.unusedSimpArgs false
set_option linter.unusedVariables false
open Go Go.Lh
namespace Go.Proofs.Ytggblpmijekemaa.K
noncomputable section
abbrev Pr : Program := Go.Proofs.Try.prog
def rotl (x : BitVec 64) (k : Nat) : BitVec 64 := (x <<< (k % 64)) ||| (x >>> (64 - k % 64))
def O21 : Orc := inl Pr noOrc 21 Go.Proofs.Try.f21
theorem mixed : Pr.follows .mixedOrders = true := by kernel_rfl
theorem f21_at : Pr.funcs[21]? = some Go.Proofs.Try.f21 := by kernel_rfl
theorem f14_at : Pr.funcs[14]? = some Go.Proofs.Try.f14 := by kernel_rfl
theorem f15_at : Pr.funcs[15]? = some Go.Proofs.Try.f15 := by kernel_rfl
theorem f16_at : Pr.funcs[16]? = some Go.Proofs.Try.f16 := by kernel_rfl
theorem f20_at : Pr.funcs[20]? = some Go.Proofs.Try.f20 := by kernel_rfl
theorem f13_at : Pr.funcs[13]? = some Go.Proofs.Try.f13 := by kernel_rfl
theorem f11_at : Pr.funcs[11]? = some Go.Proofs.Try.f11 := by kernel_rfl
theorem O21_sound : OrcSound Pr O21 := inl_sound (noOrc_sound _) mixed f21_at (by kernel_rfl) (by kernel_rfl)

def col (xs : List (BitVec 64)) (i : Nat) : BitVec 64 := xs.getD i 0
/-- theta's columns -/
def par (xs : List (BitVec 64)) (x : Nat) : BitVec 64 :=
  0 ^^^ col xs x ^^^ col xs (x + 5) ^^^ col xs (x + 10) ^^^ col xs (x + 15) ^^^ col xs (x + 20)
def lanes (n : Nat) (f : Nat → BitVec 64) : List (BitVec 64) := (upto n).map f
def thetaL (xs : List (BitVec 64)) : List (BitVec 64) :=
  lanes 25 fun i => col xs i ^^^ (par xs ((i + 4) % 5) ^^^ rotl (par xs ((i + 1) % 5)) 1)
def moves : List (Nat × Nat) := [(0, 0), (6, 300), (12, 171), (18, 21), (24, 78), (3, 28), (9, 276), (10, 3), (16, 45), (22, 253), (1, 1), (7, 6), (13, 153), (19, 136), (20, 210), (4, 91), (5, 36), (11, 10), (17, 15), (23, 120), (2, 190), (8, 55), (14, 231), (15, 105), (21, 66)]
def rhoPiL (xs : List (BitVec 64)) : List (BitVec 64) :=
  lanes 25 fun i => if Nat.beq i 0 then col xs 0 else rotl (col xs (moves.getD i (0, 0)).1) (moves.getD i (0, 0)).2
def chiL (xs : List (BitVec 64)) : List (BitVec 64) :=
  lanes 25 fun i => col xs i ^^^ (~~~(col xs (i / 5 * 5 + (i + 1) % 5)) &&& col xs (i / 5 * 5 + (i + 2) % 5))
set_option maxRecDepth 100000
theorem theta_exec (x0 x1 x2 x3 x4 x5 x6 x7 x8 x9 x10 x11 x12 x13 x14 x15 x16 x17 x18 x19 x20 x21 x22 x23 x24 : BitVec 64) :
    execF Pr O21 noLoops 100 Go.Proofs.Try.f14 [.ptr 0 0] [.b64 [x0, x1, x2, x3, x4, x5, x6, x7, x8, x9, x10, x11, x12, x13, x14, x15, x16, x17, x18, x19, x20, x21, x22, x23, x24]] = some (true, .ret (.tup []), [.b64 (thetaL [x0, x1, x2, x3, x4, x5, x6, x7, x8, x9, x10, x11, x12, x13, x14, x15, x16, x17, x18, x19, x20, x21, x22, x23, x24])]) := by
  kernel_rfl
theorem rhoPi_exec (x0 x1 x2 x3 x4 x5 x6 x7 x8 x9 x10 x11 x12 x13 x14 x15 x16 x17 x18 x19 x20 x21 x22 x23 x24 : BitVec 64) :
    execF Pr O21 noLoops 100 Go.Proofs.Try.f15 [.ptr 0 0] [.b64 [x0, x1, x2, x3, x4, x5, x6, x7, x8, x9, x10, x11, x12, x13, x14, x15, x16, x17, x18, x19, x20, x21, x22, x23, x24]] = some (true, .ret (.tup []), [.b64 (rhoPiL [x0, x1, x2, x3, x4, x5, x6, x7, x8, x9, x10, x11, x12, x13, x14, x15, x16, x17, x18, x19, x20, x21, x22, x23, x24])]) := by
  kernel_rfl
theorem chi_exec (x0 x1 x2 x3 x4 x5 x6 x7 x8 x9 x10 x11 x12 x13 x14 x15 x16 x17 x18 x19 x20 x21 x22 x23 x24 : BitVec 64) :
    execF Pr O21 noLoops 100 Go.Proofs.Try.f16 [.ptr 0 0] [.b64 [x0, x1, x2, x3, x4, x5, x6, x7, x8, x9, x10, x11, x12, x13, x14, x15, x16, x17, x18, x19, x20, x21, x22, x23, x24]] = some (true, .ret (.tup []), [.b64 (chiL [x0, x1, x2, x3, x4, x5, x6, x7, x8, x9, x10, x11, x12, x13, x14, x15, x16, x17, x18, x19, x20, x21, x22, x23, x24])]) := by
  kernel_rfl

def O20 : Orc := inl Pr noOrc 20 Go.Proofs.Try.f20
theorem O20_sound : OrcSound Pr O20 := inl_sound (noOrc_sound _) mixed f20_at (by kernel_rfl) (by kernel_rfl)
def O13 : Orc := inl Pr O20 13 Go.Proofs.Try.f13
theorem O13_sound : OrcSound Pr O13 := inl_sound O20_sound mixed f13_at (by kernel_rfl) (by kernel_rfl)
def lanesG (f : List (BitVec 64) → List (BitVec 64)) (args : List V) (h : Heap) : Option (Bool × Fin × Heap) :=
  match args, h with
  | [.ptr 0 0], [.b64 xs] => if Nat.beq xs.length 25 then some (true, .ret (.tup []), [.b64 (f xs)]) else none
  | _, _ => none
theorem list25 (xs : List (BitVec 64)) (h : xs.length = 25) : ∃ x0 x1 x2 x3 x4 x5 x6 x7 x8 x9 x10 x11 x12 x13 x14 x15 x16 x17 x18 x19 x20 x21 x22 x23 x24, xs = [x0, x1, x2, x3, x4, x5, x6, x7, x8, x9, x10, x11, x12, x13, x14, x15, x16, x17, x18, x19, x20, x21, x22, x23, x24] := by
  match xs, h with
  | [x0, x1, x2, x3, x4, x5, x6, x7, x8, x9, x10, x11, x12, x13, x14, x15, x16, x17, x18, x19, x20, x21, x22, x23, x24], _ => exact ⟨x0, x1, x2, x3, x4, x5, x6, x7, x8, x9, x10, x11, x12, x13, x14, x15, x16, x17, x18, x19, x20, x21, x22, x23, x24, rfl⟩
theorem lanesG_sound {O : Orc} {id : FuncId} {fn : Func} {f : List (BitVec 64) → List (BitVec 64)} (hO : OrcSound Pr O) (hf : Pr.funcs[id]? = some fn)
    (hx : ∀ x0 x1 x2 x3 x4 x5 x6 x7 x8 x9 x10 x11 x12 x13 x14 x15 x16 x17 x18 x19 x20 x21 x22 x23 x24, execF Pr O noLoops 100 fn [.ptr 0 0] [.b64 [x0, x1, x2, x3, x4, x5, x6, x7, x8, x9, x10, x11, x12, x13, x14, x15, x16, x17, x18, x19, x20, x21, x22, x23, x24]] = some (true, .ret (.tup []), [.b64 (f [x0, x1, x2, x3, x4, x5, x6, x7, x8, x9, x10, x11, x12, x13, x14, x15, x16, x17, x18, x19, x20, x21, x22, x23, x24])])) :
    ∀ args h fin h', lanesG f args h = some (true, fin, h') → LFn Pr id args h fin h' := by
  intro args h fin h' hg
  unfold lanesG at hg
  split at hg <;> try simp only [reduceCtorEq] at hg
  rename_i xs
  split at hg <;> simp only [Option.some.injEq, Prod.mk.injEq, true_and, reduceCtorEq] at hg
  rename_i hl
  obtain ⟨rfl, rfl⟩ := hg
  obtain ⟨x0, x1, x2, x3, x4, x5, x6, x7, x8, x9, x10, x11, x12, x13, x14, x15, x16, x17, x18, x19, x20, x21, x22, x23, x24, rfl⟩ := list25 xs (Nat.eq_of_beq_eq_true hl)
  exact execF_sound hO mixed hf (fun _ _ _ _ => LoopOk.none) (hx ..)
theorem enters_of {id : FuncId} {fn : Func} (hf : Pr.funcs[id]? = some fn) (hn : fn.body.isNone = false) (hg : (fn.name == "runtime.NumGoroutine") = false) : Enters Pr id := ⟨fn, hf, hn, hg⟩
def O14 : Orc := know O13 14 (lanesG thetaL)
def O15 : Orc := know O14 15 (lanesG rhoPiL)
def O16 : Orc := know O15 16 (lanesG chiL)
theorem O14_sound : OrcSound Pr O14 := know_sound O13_sound (enters_of f14_at (by kernel_rfl) (by kernel_rfl)) (lanesG_sound O21_sound f14_at theta_exec)
theorem O15_sound : OrcSound Pr O15 := know_sound O14_sound (enters_of f15_at (by kernel_rfl) (by kernel_rfl)) (lanesG_sound O21_sound f15_at rhoPi_exec)
theorem O16_sound : OrcSound Pr O16 := know_sound O15_sound (enters_of f16_at (by kernel_rfl) (by kernel_rfl)) (lanesG_sound O21_sound f16_at chi_exec)
end
end Go.Proofs.Ytggblpmijekemaa.K
