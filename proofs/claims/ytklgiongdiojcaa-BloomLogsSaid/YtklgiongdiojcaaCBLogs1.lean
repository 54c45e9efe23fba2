/- The functions that this law reaches: what each comes to. -/
import Derived.Test.YtklgiongdiojcaaProg
import Derived.Test.YtklgiongdiojcaaLh6
set_option linter.unusedSimpArgs false
set_option linter.unusedVariables false
section

open Go Go.Lh
namespace Go.Proofs.Ytklgiongdiojcaa.K
noncomputable section
abbrev Pr : Program := Go.Proofs.Try.prog
def rotl (x : BitVec 64) (k : Nat) : BitVec 64 := (x <<< (k % 64)) ||| (x >>> (64 - k % 64))
def O21 : Orc := inl Pr noOrc 38 Go.Proofs.Try.f38
theorem mixed : Pr.follows .mixedOrders = true := by kernel_rfl
theorem f21_at : Pr.funcs[38]? = some Go.Proofs.Try.f38 := by kernel_rfl
theorem f14_at : Pr.funcs[31]? = some Go.Proofs.Try.f31 := by kernel_rfl
theorem f15_at : Pr.funcs[32]? = some Go.Proofs.Try.f32 := by kernel_rfl
theorem f16_at : Pr.funcs[33]? = some Go.Proofs.Try.f33 := by kernel_rfl
theorem f20_at : Pr.funcs[37]? = some Go.Proofs.Try.f37 := by kernel_rfl
theorem f13_at : Pr.funcs[30]? = some Go.Proofs.Try.f30 := by kernel_rfl
theorem f11_at : Pr.funcs[28]? = some Go.Proofs.Try.f28 := by kernel_rfl
theorem O21_sound : OrcSound Pr O21 := inl_sound (noOrc_sound _) mixed f21_at (by kernel_rfl) (by kernel_rfl)

def col (xs : List (BitVec 64)) (i : Nat) : BitVec 64 := xs.getD i 0
/-- theta's columns -/
def par (xs : List (BitVec 64)) (x : Nat) : BitVec 64 :=
  0 ^^^ col xs x ^^^ col xs (x + 5) ^^^ col xs (x + 10) ^^^ col xs (x + 15) ^^^ col xs (x + 20)
def lanes (n : Nat) (f : Nat → BitVec 64) : List (BitVec 64) := (upto n).map f
def thetaL (xs : List (BitVec 64)) : List (BitVec 64) :=
  lanes 25 fun i => col xs i ^^^ (par xs ((i + 4) % 5) ^^^ rotl (par xs ((i + 1) % 5)) 1)
def moves : List (Nat × Nat) := [(0, 0), (6, 300), (12, 171), (18, 21), (24, 78), (3, 28), (9, 276), (10, 3), (16, 45), (22, 253), (1, 1), (7, 6), (13, 153), (19, 136), (20, 210), (4, 91), (5, 36), (11, 10), (17, 15), (23, 120), (2, 190), (8, 55), (14, 231), (15, 105), (21, 66)]
def rhoPiL (xs : List (BitVec 64)) : List (BitVec 64) :=
  lanes 25 fun i => if Nat.beq i 0 then col xs 0 else rotl (col xs (moves.getD i (0, 0)).1) (moves.getD i (0, 0)).2
def chiL (xs : List (BitVec 64)) : List (BitVec 64) :=
  lanes 25 fun i => col xs i ^^^ (~~~(col xs (i / 5 * 5 + (i + 1) % 5)) &&& col xs (i / 5 * 5 + (i + 2) % 5))
set_option maxRecDepth 100000
theorem theta_exec (x0 x1 x2 x3 x4 x5 x6 x7 x8 x9 x10 x11 x12 x13 x14 x15 x16 x17 x18 x19 x20 x21 x22 x23 x24 : BitVec 64) :
    execF Pr O21 noLoops 100 Go.Proofs.Try.f31 [.ptr 0 0] [.b64 [x0, x1, x2, x3, x4, x5, x6, x7, x8, x9, x10, x11, x12, x13, x14, x15, x16, x17, x18, x19, x20, x21, x22, x23, x24]] = some (true, .ret (.tup []), [.b64 (thetaL [x0, x1, x2, x3, x4, x5, x6, x7, x8, x9, x10, x11, x12, x13, x14, x15, x16, x17, x18, x19, x20, x21, x22, x23, x24])]) := by
  kernel_rfl
theorem rhoPi_exec (x0 x1 x2 x3 x4 x5 x6 x7 x8 x9 x10 x11 x12 x13 x14 x15 x16 x17 x18 x19 x20 x21 x22 x23 x24 : BitVec 64) :
    execF Pr O21 noLoops 100 Go.Proofs.Try.f32 [.ptr 0 0] [.b64 [x0, x1, x2, x3, x4, x5, x6, x7, x8, x9, x10, x11, x12, x13, x14, x15, x16, x17, x18, x19, x20, x21, x22, x23, x24]] = some (true, .ret (.tup []), [.b64 (rhoPiL [x0, x1, x2, x3, x4, x5, x6, x7, x8, x9, x10, x11, x12, x13, x14, x15, x16, x17, x18, x19, x20, x21, x22, x23, x24])]) := by
  kernel_rfl
theorem chi_exec (x0 x1 x2 x3 x4 x5 x6 x7 x8 x9 x10 x11 x12 x13 x14 x15 x16 x17 x18 x19 x20 x21 x22 x23 x24 : BitVec 64) :
    execF Pr O21 noLoops 100 Go.Proofs.Try.f33 [.ptr 0 0] [.b64 [x0, x1, x2, x3, x4, x5, x6, x7, x8, x9, x10, x11, x12, x13, x14, x15, x16, x17, x18, x19, x20, x21, x22, x23, x24]] = some (true, .ret (.tup []), [.b64 (chiL [x0, x1, x2, x3, x4, x5, x6, x7, x8, x9, x10, x11, x12, x13, x14, x15, x16, x17, x18, x19, x20, x21, x22, x23, x24])]) := by
  kernel_rfl

def O20 : Orc := inl Pr noOrc 37 Go.Proofs.Try.f37
theorem O20_sound : OrcSound Pr O20 := inl_sound (noOrc_sound _) mixed f20_at (by kernel_rfl) (by kernel_rfl)
def O13 : Orc := inl Pr O20 30 Go.Proofs.Try.f30
theorem O13_sound : OrcSound Pr O13 := inl_sound O20_sound mixed f13_at (by kernel_rfl) (by kernel_rfl)
def lanesG (f : List (BitVec 64) → List (BitVec 64)) (args : List V) (h : Heap) : Option (Bool × Fin × Heap) :=
  match args, h with
  | [.ptr 0 0], [.b64 xs] => if Nat.beq xs.length 25 then some (true, .ret (.tup []), [.b64 (f xs)]) else none
  | _, _ => none
theorem list25 (xs : List (BitVec 64)) (h : xs.length = 25) : ∃ x0 x1 x2 x3 x4 x5 x6 x7 x8 x9 x10 x11 x12 x13 x14 x15 x16 x17 x18 x19 x20 x21 x22 x23 x24, xs = [x0, x1, x2, x3, x4, x5, x6, x7, x8, x9, x10, x11, x12, x13, x14, x15, x16, x17, x18, x19, x20, x21, x22, x23, x24] := by
  match xs, h with
  | [x0, x1, x2, x3, x4, x5, x6, x7, x8, x9, x10, x11, x12, x13, x14, x15, x16, x17, x18, x19, x20, x21, x22, x23, x24], _ => exact ⟨x0, x1, x2, x3, x4, x5, x6, x7, x8, x9, x10, x11, x12, x13, x14, x15, x16, x17, x18, x19, x20, x21, x22, x23, x24, rfl⟩
theorem lanesG_sound {O : Orc} {id : FuncId} {fn : Func} {f : List (BitVec 64) → List (BitVec 64)} (hO : OrcSound Pr O) (hf : Pr.funcs[id]? = some fn)
    (hx : ∀ x0 x1 x2 x3 x4 x5 x6 x7 x8 x9 x10 x11 x12 x13 x14 x15 x16 x17 x18 x19 x20 x21 x22 x23 x24, execF Pr O noLoops 100 fn [.ptr 0 0] [.b64 [x0, x1, x2, x3, x4, x5, x6, x7, x8, x9, x10, x11, x12, x13, x14, x15, x16, x17, x18, x19, x20, x21, x22, x23, x24]] = some (true, .ret (.tup []), [.b64 (f [x0, x1, x2, x3, x4, x5, x6, x7, x8, x9, x10, x11, x12, x13, x14, x15, x16, x17, x18, x19, x20, x21, x22, x23, x24])])) :
    ∀ args h fin h', lanesG f args h = some (true, fin, h') → LFn Pr id args h fin h' := by
  intro args h fin h' hg
  unfold lanesG at hg
  split at hg <;> try simp only [reduceCtorEq] at hg
  rename_i xs
  split at hg <;> simp only [Option.some.injEq, Prod.mk.injEq, true_and, reduceCtorEq] at hg
  rename_i hl
  obtain ⟨rfl, rfl⟩ := hg
  obtain ⟨x0, x1, x2, x3, x4, x5, x6, x7, x8, x9, x10, x11, x12, x13, x14, x15, x16, x17, x18, x19, x20, x21, x22, x23, x24, rfl⟩ := list25 xs (Nat.eq_of_beq_eq_true hl)
  exact execF_sound hO mixed hf (fun _ _ _ _ => LoopOk.none) (hx ..)
theorem enters_of {id : FuncId} {fn : Func} (hf : Pr.funcs[id]? = some fn) (hn : fn.body.isNone = false) (hg : (fn.name == "runtime.NumGoroutine") = false) : Enters Pr id := ⟨fn, hf, hn, hg⟩
def O14 : Orc := know O13 31 (lanesG thetaL)
def O15 : Orc := know O14 32 (lanesG rhoPiL)
def O16 : Orc := know O15 33 (lanesG chiL)
theorem O14_sound : OrcSound Pr O14 := know_sound O13_sound (enters_of f14_at (by kernel_rfl) (by kernel_rfl)) (lanesG_sound O21_sound f14_at theta_exec)
theorem O15_sound : OrcSound Pr O15 := know_sound O14_sound (enters_of f15_at (by kernel_rfl) (by kernel_rfl)) (lanesG_sound O21_sound f15_at rhoPi_exec)
theorem O16_sound : OrcSound Pr O16 := know_sound O15_sound (enters_of f16_at (by kernel_rfl) (by kernel_rfl)) (lanesG_sound O21_sound f16_at chi_exec)
end
end Go.Proofs.Ytklgiongdiojcaa.K
end
section
open Go Go.Lh
namespace Go.Proofs.Ytklgiongdiojcaa.K
noncomputable section
set_option maxRecDepth 100000
def sts : List (BitVec 8) := [0x1, 0x80, 0xd8, 0x1a, 0xdf, 0x9, 0x35, 0x4f, 0xca, 0x70, 0x41, 0xec, 0xd5, 0xcd, 0x63, 0xab, 0xaa, 0x2a, 0xf2, 0xe8, 0x37, 0x3e, 0xb, 0x44, 0x8e]
def rcs : List (BitVec 64) := [0x1, 0x8082, 0x800000000000808a, 0x8000000080008000, 0x808b, 0x80000001, 0x8000000080008081, 0x8000000000008009, 0x8a, 0x88, 0x80008009, 0x8000000a, 0x8000808b, 0x800000000000008b, 0x8000000000008089, 0x8000000000008003, 0x8000000000008002, 0x8000000000000080, 0x800a, 0x800000008000000a, 0x8000000080008081, 0x8000000000008080, 0x80000001, 0x8000000080008008]
def st (i : Nat) : BitVec 8 := sts.getD i 0
def rc (i : Nat) : BitVec 64 := rcs.getD i 0
def roundL (i : Nat) (xs : List (BitVec 64)) : List (BitVec 64) :=
  (chiL (rhoPiL (thetaL xs))).set 0 (col (chiL (rhoPiL (thetaL xs))) 0 ^^^ rc i)
def loopBody (fn : Func) (k : Nat) : Code := (loopsOf (fn.body.getD .skip)).getD k .skip
def frP (i : Nat) : Fr := [(3, .ptr 0 0), (5, .fn 30 [.ptr 1 0] []), (8, .int .i64 (i : Int)), (2, .ptr 2 0)]
def roundX (i : Nat) (xs zs : List (BitVec 64)) : Option (Fr × Heap) :=
  match exec Pr O16 noLoops 100 (loopBody Go.Proofs.Try.f28 0) (frP i) [.b64 xs, .b8 [st i], .b64 zs] with
  | some (true, .normal, fr', h') => tell 0 [0, 1, 2] [3, 5, 8, 2] fr' h'
  | _ => none
theorem round0 (zs : List (BitVec 64)) (x0 x1 x2 x3 x4 x5 x6 x7 x8 x9 x10 x11 x12 x13 x14 x15 x16 x17 x18 x19 x20 x21 x22 x23 x24 : BitVec 64) : roundX 0 [x0, x1, x2, x3, x4, x5, x6, x7, x8, x9, x10, x11, x12, x13, x14, x15, x16, x17, x18, x19, x20, x21, x22, x23, x24] zs = some (frP 1, [.b64 (roundL 0 [x0, x1, x2, x3, x4, x5, x6, x7, x8, x9, x10, x11, x12, x13, x14, x15, x16, x17, x18, x19, x20, x21, x22, x23, x24]), .b8 [st 1], .b64 zs]) := by kernel_rfl
theorem round1 (zs : List (BitVec 64)) (x0 x1 x2 x3 x4 x5 x6 x7 x8 x9 x10 x11 x12 x13 x14 x15 x16 x17 x18 x19 x20 x21 x22 x23 x24 : BitVec 64) : roundX 1 [x0, x1, x2, x3, x4, x5, x6, x7, x8, x9, x10, x11, x12, x13, x14, x15, x16, x17, x18, x19, x20, x21, x22, x23, x24] zs = some (frP 2, [.b64 (roundL 1 [x0, x1, x2, x3, x4, x5, x6, x7, x8, x9, x10, x11, x12, x13, x14, x15, x16, x17, x18, x19, x20, x21, x22, x23, x24]), .b8 [st 2], .b64 zs]) := by kernel_rfl
theorem round2 (zs : List (BitVec 64)) (x0 x1 x2 x3 x4 x5 x6 x7 x8 x9 x10 x11 x12 x13 x14 x15 x16 x17 x18 x19 x20 x21 x22 x23 x24 : BitVec 64) : roundX 2 [x0, x1, x2, x3, x4, x5, x6, x7, x8, x9, x10, x11, x12, x13, x14, x15, x16, x17, x18, x19, x20, x21, x22, x23, x24] zs = some (frP 3, [.b64 (roundL 2 [x0, x1, x2, x3, x4, x5, x6, x7, x8, x9, x10, x11, x12, x13, x14, x15, x16, x17, x18, x19, x20, x21, x22, x23, x24]), .b8 [st 3], .b64 zs]) := by kernel_rfl
theorem round3 (zs : List (BitVec 64)) (x0 x1 x2 x3 x4 x5 x6 x7 x8 x9 x10 x11 x12 x13 x14 x15 x16 x17 x18 x19 x20 x21 x22 x23 x24 : BitVec 64) : roundX 3 [x0, x1, x2, x3, x4, x5, x6, x7, x8, x9, x10, x11, x12, x13, x14, x15, x16, x17, x18, x19, x20, x21, x22, x23, x24] zs = some (frP 4, [.b64 (roundL 3 [x0, x1, x2, x3, x4, x5, x6, x7, x8, x9, x10, x11, x12, x13, x14, x15, x16, x17, x18, x19, x20, x21, x22, x23, x24]), .b8 [st 4], .b64 zs]) := by kernel_rfl
theorem round4 (zs : List (BitVec 64)) (x0 x1 x2 x3 x4 x5 x6 x7 x8 x9 x10 x11 x12 x13 x14 x15 x16 x17 x18 x19 x20 x21 x22 x23 x24 : BitVec 64) : roundX 4 [x0, x1, x2, x3, x4, x5, x6, x7, x8, x9, x10, x11, x12, x13, x14, x15, x16, x17, x18, x19, x20, x21, x22, x23, x24] zs = some (frP 5, [.b64 (roundL 4 [x0, x1, x2, x3, x4, x5, x6, x7, x8, x9, x10, x11, x12, x13, x14, x15, x16, x17, x18, x19, x20, x21, x22, x23, x24]), .b8 [st 5], .b64 zs]) := by kernel_rfl
theorem round5 (zs : List (BitVec 64)) (x0 x1 x2 x3 x4 x5 x6 x7 x8 x9 x10 x11 x12 x13 x14 x15 x16 x17 x18 x19 x20 x21 x22 x23 x24 : BitVec 64) : roundX 5 [x0, x1, x2, x3, x4, x5, x6, x7, x8, x9, x10, x11, x12, x13, x14, x15, x16, x17, x18, x19, x20, x21, x22, x23, x24] zs = some (frP 6, [.b64 (roundL 5 [x0, x1, x2, x3, x4, x5, x6, x7, x8, x9, x10, x11, x12, x13, x14, x15, x16, x17, x18, x19, x20, x21, x22, x23, x24]), .b8 [st 6], .b64 zs]) := by kernel_rfl
theorem round6 (zs : List (BitVec 64)) (x0 x1 x2 x3 x4 x5 x6 x7 x8 x9 x10 x11 x12 x13 x14 x15 x16 x17 x18 x19 x20 x21 x22 x23 x24 : BitVec 64) : roundX 6 [x0, x1, x2, x3, x4, x5, x6, x7, x8, x9, x10, x11, x12, x13, x14, x15, x16, x17, x18, x19, x20, x21, x22, x23, x24] zs = some (frP 7, [.b64 (roundL 6 [x0, x1, x2, x3, x4, x5, x6, x7, x8, x9, x10, x11, x12, x13, x14, x15, x16, x17, x18, x19, x20, x21, x22, x23, x24]), .b8 [st 7], .b64 zs]) := by kernel_rfl
theorem round7 (zs : List (BitVec 64)) (x0 x1 x2 x3 x4 x5 x6 x7 x8 x9 x10 x11 x12 x13 x14 x15 x16 x17 x18 x19 x20 x21 x22 x23 x24 : BitVec 64) : roundX 7 [x0, x1, x2, x3, x4, x5, x6, x7, x8, x9, x10, x11, x12, x13, x14, x15, x16, x17, x18, x19, x20, x21, x22, x23, x24] zs = some (frP 8, [.b64 (roundL 7 [x0, x1, x2, x3, x4, x5, x6, x7, x8, x9, x10, x11, x12, x13, x14, x15, x16, x17, x18, x19, x20, x21, x22, x23, x24]), .b8 [st 8], .b64 zs]) := by kernel_rfl
theorem round8 (zs : List (BitVec 64)) (x0 x1 x2 x3 x4 x5 x6 x7 x8 x9 x10 x11 x12 x13 x14 x15 x16 x17 x18 x19 x20 x21 x22 x23 x24 : BitVec 64) : roundX 8 [x0, x1, x2, x3, x4, x5, x6, x7, x8, x9, x10, x11, x12, x13, x14, x15, x16, x17, x18, x19, x20, x21, x22, x23, x24] zs = some (frP 9, [.b64 (roundL 8 [x0, x1, x2, x3, x4, x5, x6, x7, x8, x9, x10, x11, x12, x13, x14, x15, x16, x17, x18, x19, x20, x21, x22, x23, x24]), .b8 [st 9], .b64 zs]) := by kernel_rfl
theorem round9 (zs : List (BitVec 64)) (x0 x1 x2 x3 x4 x5 x6 x7 x8 x9 x10 x11 x12 x13 x14 x15 x16 x17 x18 x19 x20 x21 x22 x23 x24 : BitVec 64) : roundX 9 [x0, x1, x2, x3, x4, x5, x6, x7, x8, x9, x10, x11, x12, x13, x14, x15, x16, x17, x18, x19, x20, x21, x22, x23, x24] zs = some (frP 10, [.b64 (roundL 9 [x0, x1, x2, x3, x4, x5, x6, x7, x8, x9, x10, x11, x12, x13, x14, x15, x16, x17, x18, x19, x20, x21, x22, x23, x24]), .b8 [st 10], .b64 zs]) := by kernel_rfl
theorem round10 (zs : List (BitVec 64)) (x0 x1 x2 x3 x4 x5 x6 x7 x8 x9 x10 x11 x12 x13 x14 x15 x16 x17 x18 x19 x20 x21 x22 x23 x24 : BitVec 64) : roundX 10 [x0, x1, x2, x3, x4, x5, x6, x7, x8, x9, x10, x11, x12, x13, x14, x15, x16, x17, x18, x19, x20, x21, x22, x23, x24] zs = some (frP 11, [.b64 (roundL 10 [x0, x1, x2, x3, x4, x5, x6, x7, x8, x9, x10, x11, x12, x13, x14, x15, x16, x17, x18, x19, x20, x21, x22, x23, x24]), .b8 [st 11], .b64 zs]) := by kernel_rfl
theorem round11 (zs : List (BitVec 64)) (x0 x1 x2 x3 x4 x5 x6 x7 x8 x9 x10 x11 x12 x13 x14 x15 x16 x17 x18 x19 x20 x21 x22 x23 x24 : BitVec 64) : roundX 11 [x0, x1, x2, x3, x4, x5, x6, x7, x8, x9, x10, x11, x12, x13, x14, x15, x16, x17, x18, x19, x20, x21, x22, x23, x24] zs = some (frP 12, [.b64 (roundL 11 [x0, x1, x2, x3, x4, x5, x6, x7, x8, x9, x10, x11, x12, x13, x14, x15, x16, x17, x18, x19, x20, x21, x22, x23, x24]), .b8 [st 12], .b64 zs]) := by kernel_rfl
theorem round12 (zs : List (BitVec 64)) (x0 x1 x2 x3 x4 x5 x6 x7 x8 x9 x10 x11 x12 x13 x14 x15 x16 x17 x18 x19 x20 x21 x22 x23 x24 : BitVec 64) : roundX 12 [x0, x1, x2, x3, x4, x5, x6, x7, x8, x9, x10, x11, x12, x13, x14, x15, x16, x17, x18, x19, x20, x21, x22, x23, x24] zs = some (frP 13, [.b64 (roundL 12 [x0, x1, x2, x3, x4, x5, x6, x7, x8, x9, x10, x11, x12, x13, x14, x15, x16, x17, x18, x19, x20, x21, x22, x23, x24]), .b8 [st 13], .b64 zs]) := by kernel_rfl
theorem round13 (zs : List (BitVec 64)) (x0 x1 x2 x3 x4 x5 x6 x7 x8 x9 x10 x11 x12 x13 x14 x15 x16 x17 x18 x19 x20 x21 x22 x23 x24 : BitVec 64) : roundX 13 [x0, x1, x2, x3, x4, x5, x6, x7, x8, x9, x10, x11, x12, x13, x14, x15, x16, x17, x18, x19, x20, x21, x22, x23, x24] zs = some (frP 14, [.b64 (roundL 13 [x0, x1, x2, x3, x4, x5, x6, x7, x8, x9, x10, x11, x12, x13, x14, x15, x16, x17, x18, x19, x20, x21, x22, x23, x24]), .b8 [st 14], .b64 zs]) := by kernel_rfl
theorem round14 (zs : List (BitVec 64)) (x0 x1 x2 x3 x4 x5 x6 x7 x8 x9 x10 x11 x12 x13 x14 x15 x16 x17 x18 x19 x20 x21 x22 x23 x24 : BitVec 64) : roundX 14 [x0, x1, x2, x3, x4, x5, x6, x7, x8, x9, x10, x11, x12, x13, x14, x15, x16, x17, x18, x19, x20, x21, x22, x23, x24] zs = some (frP 15, [.b64 (roundL 14 [x0, x1, x2, x3, x4, x5, x6, x7, x8, x9, x10, x11, x12, x13, x14, x15, x16, x17, x18, x19, x20, x21, x22, x23, x24]), .b8 [st 15], .b64 zs]) := by kernel_rfl
theorem round15 (zs : List (BitVec 64)) (x0 x1 x2 x3 x4 x5 x6 x7 x8 x9 x10 x11 x12 x13 x14 x15 x16 x17 x18 x19 x20 x21 x22 x23 x24 : BitVec 64) : roundX 15 [x0, x1, x2, x3, x4, x5, x6, x7, x8, x9, x10, x11, x12, x13, x14, x15, x16, x17, x18, x19, x20, x21, x22, x23, x24] zs = some (frP 16, [.b64 (roundL 15 [x0, x1, x2, x3, x4, x5, x6, x7, x8, x9, x10, x11, x12, x13, x14, x15, x16, x17, x18, x19, x20, x21, x22, x23, x24]), .b8 [st 16], .b64 zs]) := by kernel_rfl
theorem round16 (zs : List (BitVec 64)) (x0 x1 x2 x3 x4 x5 x6 x7 x8 x9 x10 x11 x12 x13 x14 x15 x16 x17 x18 x19 x20 x21 x22 x23 x24 : BitVec 64) : roundX 16 [x0, x1, x2, x3, x4, x5, x6, x7, x8, x9, x10, x11, x12, x13, x14, x15, x16, x17, x18, x19, x20, x21, x22, x23, x24] zs = some (frP 17, [.b64 (roundL 16 [x0, x1, x2, x3, x4, x5, x6, x7, x8, x9, x10, x11, x12, x13, x14, x15, x16, x17, x18, x19, x20, x21, x22, x23, x24]), .b8 [st 17], .b64 zs]) := by kernel_rfl
theorem round17 (zs : List (BitVec 64)) (x0 x1 x2 x3 x4 x5 x6 x7 x8 x9 x10 x11 x12 x13 x14 x15 x16 x17 x18 x19 x20 x21 x22 x23 x24 : BitVec 64) : roundX 17 [x0, x1, x2, x3, x4, x5, x6, x7, x8, x9, x10, x11, x12, x13, x14, x15, x16, x17, x18, x19, x20, x21, x22, x23, x24] zs = some (frP 18, [.b64 (roundL 17 [x0, x1, x2, x3, x4, x5, x6, x7, x8, x9, x10, x11, x12, x13, x14, x15, x16, x17, x18, x19, x20, x21, x22, x23, x24]), .b8 [st 18], .b64 zs]) := by kernel_rfl
theorem round18 (zs : List (BitVec 64)) (x0 x1 x2 x3 x4 x5 x6 x7 x8 x9 x10 x11 x12 x13 x14 x15 x16 x17 x18 x19 x20 x21 x22 x23 x24 : BitVec 64) : roundX 18 [x0, x1, x2, x3, x4, x5, x6, x7, x8, x9, x10, x11, x12, x13, x14, x15, x16, x17, x18, x19, x20, x21, x22, x23, x24] zs = some (frP 19, [.b64 (roundL 18 [x0, x1, x2, x3, x4, x5, x6, x7, x8, x9, x10, x11, x12, x13, x14, x15, x16, x17, x18, x19, x20, x21, x22, x23, x24]), .b8 [st 19], .b64 zs]) := by kernel_rfl
theorem round19 (zs : List (BitVec 64)) (x0 x1 x2 x3 x4 x5 x6 x7 x8 x9 x10 x11 x12 x13 x14 x15 x16 x17 x18 x19 x20 x21 x22 x23 x24 : BitVec 64) : roundX 19 [x0, x1, x2, x3, x4, x5, x6, x7, x8, x9, x10, x11, x12, x13, x14, x15, x16, x17, x18, x19, x20, x21, x22, x23, x24] zs = some (frP 20, [.b64 (roundL 19 [x0, x1, x2, x3, x4, x5, x6, x7, x8, x9, x10, x11, x12, x13, x14, x15, x16, x17, x18, x19, x20, x21, x22, x23, x24]), .b8 [st 20], .b64 zs]) := by kernel_rfl
theorem round20 (zs : List (BitVec 64)) (x0 x1 x2 x3 x4 x5 x6 x7 x8 x9 x10 x11 x12 x13 x14 x15 x16 x17 x18 x19 x20 x21 x22 x23 x24 : BitVec 64) : roundX 20 [x0, x1, x2, x3, x4, x5, x6, x7, x8, x9, x10, x11, x12, x13, x14, x15, x16, x17, x18, x19, x20, x21, x22, x23, x24] zs = some (frP 21, [.b64 (roundL 20 [x0, x1, x2, x3, x4, x5, x6, x7, x8, x9, x10, x11, x12, x13, x14, x15, x16, x17, x18, x19, x20, x21, x22, x23, x24]), .b8 [st 21], .b64 zs]) := by kernel_rfl
theorem round21 (zs : List (BitVec 64)) (x0 x1 x2 x3 x4 x5 x6 x7 x8 x9 x10 x11 x12 x13 x14 x15 x16 x17 x18 x19 x20 x21 x22 x23 x24 : BitVec 64) : roundX 21 [x0, x1, x2, x3, x4, x5, x6, x7, x8, x9, x10, x11, x12, x13, x14, x15, x16, x17, x18, x19, x20, x21, x22, x23, x24] zs = some (frP 22, [.b64 (roundL 21 [x0, x1, x2, x3, x4, x5, x6, x7, x8, x9, x10, x11, x12, x13, x14, x15, x16, x17, x18, x19, x20, x21, x22, x23, x24]), .b8 [st 22], .b64 zs]) := by kernel_rfl
theorem round22 (zs : List (BitVec 64)) (x0 x1 x2 x3 x4 x5 x6 x7 x8 x9 x10 x11 x12 x13 x14 x15 x16 x17 x18 x19 x20 x21 x22 x23 x24 : BitVec 64) : roundX 22 [x0, x1, x2, x3, x4, x5, x6, x7, x8, x9, x10, x11, x12, x13, x14, x15, x16, x17, x18, x19, x20, x21, x22, x23, x24] zs = some (frP 23, [.b64 (roundL 22 [x0, x1, x2, x3, x4, x5, x6, x7, x8, x9, x10, x11, x12, x13, x14, x15, x16, x17, x18, x19, x20, x21, x22, x23, x24]), .b8 [st 23], .b64 zs]) := by kernel_rfl
theorem round23 (zs : List (BitVec 64)) (x0 x1 x2 x3 x4 x5 x6 x7 x8 x9 x10 x11 x12 x13 x14 x15 x16 x17 x18 x19 x20 x21 x22 x23 x24 : BitVec 64) : roundX 23 [x0, x1, x2, x3, x4, x5, x6, x7, x8, x9, x10, x11, x12, x13, x14, x15, x16, x17, x18, x19, x20, x21, x22, x23, x24] zs = some (frP 24, [.b64 (roundL 23 [x0, x1, x2, x3, x4, x5, x6, x7, x8, x9, x10, x11, x12, x13, x14, x15, x16, x17, x18, x19, x20, x21, x22, x23, x24]), .b8 [st 24], .b64 zs]) := by kernel_rfl
theorem rounds (zs xs : List (BitVec 64)) (h : xs.length = 25) : ∀ i, i < 24 → roundX i xs zs = some (frP (i + 1), [.b64 (roundL i xs), .b8 [st (i + 1)], .b64 zs]) := by
  obtain ⟨x0, x1, x2, x3, x4, x5, x6, x7, x8, x9, x10, x11, x12, x13, x14, x15, x16, x17, x18, x19, x20, x21, x22, x23, x24, rfl⟩ := list25 xs h
  intro i hi
  match i, hi with
  | 0, _ => exact round0 ..
  | 1, _ => exact round1 ..
  | 2, _ => exact round2 ..
  | 3, _ => exact round3 ..
  | 4, _ => exact round4 ..
  | 5, _ => exact round5 ..
  | 6, _ => exact round6 ..
  | 7, _ => exact round7 ..
  | 8, _ => exact round8 ..
  | 9, _ => exact round9 ..
  | 10, _ => exact round10 ..
  | 11, _ => exact round11 ..
  | 12, _ => exact round12 ..
  | 13, _ => exact round13 ..
  | 14, _ => exact round14 ..
  | 15, _ => exact round15 ..
  | 16, _ => exact round16 ..
  | 17, _ => exact round17 ..
  | 18, _ => exact round18 ..
  | 19, _ => exact round19 ..
  | 20, _ => exact round20 ..
  | 21, _ => exact round21 ..
  | 22, _ => exact round22 ..
  | 23, _ => exact round23 ..
  | n + 24, h => exact absurd h (by omega)

def frE : Fr := [(3, .ptr 0 0), (5, .fn 30 [.ptr 1 0] []), (8, .int .i64 24), (2, .ptr 2 0), (9, .bool false)]
theorem roundE (xs zs : List (BitVec 64)) : exec Pr O16 noLoops 100 (loopBody Go.Proofs.Try.f28 0) (frP 24) [.b64 xs, .b8 [st 24], .b64 zs] = some (true, .exit 0, frE, [.b64 xs, .b8 [st 24], .b64 zs]) := by kernel_rfl
def permN : Nat → List (BitVec 64) → List (BitVec 64)
  | 0, xs => xs
  | n + 1, xs => roundL n (permN n xs)
def permL (xs : List (BitVec 64)) : List (BitVec 64) := permN 24 xs
theorem upto_length : ∀ n, (upto n).length = n
  | 0 => rfl
  | n + 1 => by simp [upto, upto_length n]
theorem lanes_length (n : Nat) (f : Nat → BitVec 64) : (lanes n f).length = n := by simp [lanes, upto_length]
theorem roundL_length (i : Nat) (xs : List (BitVec 64)) : (roundL i xs).length = 25 := by simp [roundL, chiL, lanes_length]
theorem permN_length (i : Nat) (xs : List (BitVec 64)) (h : xs.length = 25) : (permN i xs).length = 25 := by
  cases i with
  | zero => exact h
  | succ i => exact roundL_length _ _
def L11 : Loops := fun n fr h => if Nat.beq n 5 then (match tell 0 [2, 3, 1] [3, 5, 8, 2] fr h with
  | some ([(3, .ptr 0 0), (5, .fn 30 [.ptr 1 0] []), (8, .int .i64 0), (2, .ptr 2 0)], [.b64 xs, .b8 [s], .b64 zs]) =>
    if Nat.beq s.toNat 1 && Nat.beq xs.length 25 then some (true, .exit 0, frE, [.b64 (permL xs), .b8 [st 24], .b64 zs]) else none
  | _ => none) else none
theorem runs_exec {O : Orc} (hO : OrcSound Pr O) {fuel N n0 : Nat} {c : Code} {fr fr' : Fr} {h h' : Heap} {x : X} (hd : dstsIn N c = true) (hx : exec Pr O noLoops fuel c fr h = some (true, x, fr', h')) :
    Runs Pr N n0 c fr h (EndW N n0 x fr' h') := exec_sound hO mixed c (fun _ _ => LoopOk.none) _ _ _ _ _ hd hx
theorem L11_ok : LoopOk Pr 21 0 L11 (loopBody Go.Proofs.Try.f28 0) := by
  intro fr h x fr' h' hL
  unfold L11 at hL
  split at hL <;> try simp only [reduceCtorEq] at hL
  split at hL <;> try simp only [reduceCtorEq] at hL
  rename_i xs s zs ht
  split at hL <;> simp only [Option.some.injEq, Prod.mk.injEq, true_and, reduceCtorEq] at hL
  rename_i hc
  rw [Bool.and_eq_true] at hc
  obtain ⟨rfl, rfl, rfl⟩ := hL
  have hs : s = st 0 := by
    have := Nat.eq_of_beq_eq_true hc.1
    exact BitVec.eq_of_toNat_eq (by rw [this]; rfl)
  have hl := Nat.eq_of_beq_eq_true hc.2
  subst hs
  refine Runs.weaken (tell_weaker ht) ?_
  refine Runs.loop (fun n f k => ∃ i, i ≤ 24 ∧ n = 24 - i ∧ f = frP i ∧ k = [.b64 (permN i xs), .b8 [st i], .b64 zs]) (n := 24) ⟨0, by omega, rfl, rfl, rfl⟩ ?_
  rintro n f k ⟨i, hi, rfl, rfl, rfl⟩
  by_cases e : i = 24
  · subst e
    refine (runs_exec O16_sound (by kernel_rfl) (roundE _ _)).mono ?_
    rintro y f k ⟨rfl, hw⟩
    exact ⟨rfl, hw⟩
  · have hr := rounds zs (permN i xs) (permN_length i xs hl) i (by omega)
    unfold roundX at hr
    split at hr <;> try simp only [reduceCtorEq] at hr
    rename_i f1 h1 he
    refine (runs_exec O16_sound (by kernel_rfl) he).mono ?_
    rintro y f k ⟨rfl, hw⟩
    exact ⟨24 - (i + 1), _, _, by omega, ⟨i + 1, by omega, rfl, rfl, rfl⟩, Weaker.trans hw (tell_weaker hr)⟩
def u64s (n : Nat) (xs : List (BitVec 64)) : List V := (upto n).map fun k => .u64 (xs.getD k 0)
theorem perm_exec (x0 x1 x2 x3 x4 x5 x6 x7 x8 x9 x10 x11 x12 x13 x14 x15 x16 x17 x18 x19 x20 x21 x22 x23 x24 : BitVec 64) : execF Pr O16 L11 100 Go.Proofs.Try.f28 [.agg (u64s 25 [x0, x1, x2, x3, x4, x5, x6, x7, x8, x9, x10, x11, x12, x13, x14, x15, x16, x17, x18, x19, x20, x21, x22, x23, x24])] [] = some (true, .ret (.agg (u64s 25 (permL [x0, x1, x2, x3, x4, x5, x6, x7, x8, x9, x10, x11, x12, x13, x14, x15, x16, x17, x18, x19, x20, x21, x22, x23, x24]))), []) := by kernel_rfl

theorem u64s_map : ∀ (xs : List (BitVec 64)), xs.length = 25 → u64s 25 xs = xs.map .u64 := by
  intro xs h
  obtain ⟨x0, x1, x2, x3, x4, x5, x6, x7, x8, x9, x10, x11, x12, x13, x14, x15, x16, x17, x18, x19, x20, x21, x22, x23, x24, rfl⟩ := list25 xs h
  rfl
theorem allU64_map : ∀ (vs : List V) (xs : List (BitVec 64)), allU64 vs = some xs → vs = xs.map .u64
  | [], xs, h => by simp only [allU64, Option.some.injEq] at h; subst h; rfl
  | v :: r, xs, h => by
    cases v <;> simp only [allU64, reduceCtorEq] at h
    split at h <;> simp only [Option.some.injEq, reduceCtorEq] at h
    rename_i l hl
    subst h
    rw [List.map_cons, allU64_map r l hl]
def permG (args : List V) (h : Heap) : Option (Bool × Fin × Heap) :=
  match args, h with
  | [.agg vs], [] => (match allU64 vs with
    | some xs => some (Nat.beq xs.length 25, .ret (.agg (u64s 25 (permL xs))), [])
    | none => none)
  | _, _ => none
theorem body11 : Go.Proofs.Try.f28.body = some (Go.Proofs.Try.f28.body.getD .skip) := by kernel_rfl
theorem loops11 : loopsOf (Go.Proofs.Try.f28.body.getD .skip) = [loopBody Go.Proofs.Try.f28 0] := by kernel_rfl
theorem ntmps11 : Go.Proofs.Try.f28.ntmps = 21 := by kernel_rfl
theorem permG_sound : ∀ args h fin h', permG args h = some (true, fin, h') → LFn Pr 28 args h fin h' := by
  intro args h fin h' hg
  unfold permG at hg
  split at hg <;> try simp only [reduceCtorEq] at hg
  rename_i vs
  split at hg <;> try simp only [reduceCtorEq] at hg
  rename_i xs hvs
  simp only [Option.some.injEq, Prod.mk.injEq] at hg
  obtain ⟨hl, rfl, rfl⟩ := hg
  have hl := Nat.eq_of_beq_eq_true hl
  rw [allU64_map vs xs hvs, ← u64s_map xs hl]
  obtain ⟨x0, x1, x2, x3, x4, x5, x6, x7, x8, x9, x10, x11, x12, x13, x14, x15, x16, x17, x18, x19, x20, x21, x22, x23, x24, rfl⟩ := list25 xs hl
  refine execF_sound O16_sound mixed f11_at (L := L11) (fuel := 100) ?_ (perm_exec ..)
  intro c hc d hd
  rw [body11] at hc
  cases hc
  rw [loops11] at hd
  cases List.mem_singleton.1 hd
  rw [ntmps11]
  exact L11_ok
def O11 : Orc := know noOrc 28 permG
theorem O11_sound : OrcSound Pr O11 := know_sound (noOrc_sound _) (enters_of f11_at (by kernel_rfl) (by kernel_rfl)) permG_sound
end
end Go.Proofs.Ytklgiongdiojcaa.K
end
section
open Go Go.Lh
namespace Go.Proofs.Ytklgiongdiojcaa.K
noncomputable section
set_option maxRecDepth 100000
theorem inner_on (o : Nat) (len : Nat) (n : Nat) (bs : List (BitVec 8)) (xs : List (BitVec 64)) :
  execT Pr O11 noLoops [((33 : Nat), true)] (100 : Nat) (0 : Nat) [(0 : Nat), (1 : Nat)]
  [(3 : Nat), (4 : Nat), (32 : Nat)] (loopBody Go.Proofs.Try.f25 (1 : Nat))
  [((3 : Nat), V.sl (0 : Nat) o (1 : Nat) len none), ((4 : Nat), V.ptr (1 : Nat) (0 : Nat)),
    ((32 : Nat), V.int IntKind.i64 (↑n : Int))]
  [Blk.b8 bs, Blk.b64 xs] =
  some
  ((if true = true then decide ((↑n : Int) < (136 : Int)) else !decide ((↑n : Int) < (136 : Int))) && true &&
      (decide ((0 : Int) ≤ wrapI IntKind.i64 ((↑n : Int).tdiv (8 : Int))) &&
            decide (wrapI IntKind.i64 ((↑n : Int).tdiv (8 : Int)) < (25 : Int)) &&
          (decide ((0 : Nat) + (wrapI IntKind.i64 ((↑n : Int).tdiv (8 : Int))).toNat * (1 : Nat) < xs.length) &&
            (decide ((0 : Int) ≤ (↑n : Int)) && decide ((↑n : Int) < (↑len : Int)) &&
              (decide (o + (↑n : Int).toNat * (1 : Nat) < bs.length) &&
                (decide ((0 : Int) ≤ wrapI IntKind.i64 ((↑n : Int).tmod (8 : Int) * (8 : Int))) &&
                  (decide ((0 : Int) ≤ wrapI IntKind.i64 ((↑n : Int).tdiv (8 : Int))) &&
                      decide (wrapI IntKind.i64 ((↑n : Int).tdiv (8 : Int)) < (25 : Int)) &&
                    (decide
                        ((0 : Nat) + (wrapI IntKind.i64 ((↑n : Int).tdiv (8 : Int))).toNat * (1 : Nat) +
                            [V.u64
                                  (xs.getD
                                      ((0 : Nat) + (wrapI IntKind.i64 ((↑n : Int).tdiv (8 : Int))).toNat * (1 : Nat))
                                      (0 : BitVec (64 : Nat)) ^^^
                                    BitVec.setWidth (64 : Nat)
                                        (bs.getD (o + (↑n : Int).toNat * (1 : Nat)) (0 : BitVec (8 : Nat))) <<<
                                      (wrapI IntKind.i64 ((↑n : Int).tmod (8 : Int) * (8 : Int))).toNat)].length ≤
                          xs.length) &&
                      true)))))) &&
        true),
    X.normal,
    [((3 : Nat), V.sl (0 : Nat) o (1 : Nat) len none), ((4 : Nat), V.ptr (1 : Nat) (0 : Nat)),
      ((32 : Nat), V.int IntKind.i64 (wrapI IntKind.i64 ((↑n : Int) + (1 : Int))))],
    [Blk.b8 bs,
      Blk.b64
        (xs.set ((0 : Nat) + (wrapI IntKind.i64 ((↑n : Int).tdiv (8 : Int))).toNat * (1 : Nat))
          (xs.getD ((0 : Nat) + (wrapI IntKind.i64 ((↑n : Int).tdiv (8 : Int))).toNat * (1 : Nat))
              (0 : BitVec (64 : Nat)) ^^^
            BitVec.setWidth (64 : Nat) (bs.getD (o + (↑n : Int).toNat * (1 : Nat)) (0 : BitVec (8 : Nat))) <<<
              (wrapI IntKind.i64 ((↑n : Int).tmod (8 : Int) * (8 : Int))).toNat))]) := by kernel_rfl
theorem inner_off (o : Nat) (len : Nat) (n : Nat) (bs : List (BitVec 8)) (xs : List (BitVec 64)) :
  execT Pr O11 noLoops [((33 : Nat), false)] (100 : Nat) (0 : Nat) [(0 : Nat), (1 : Nat)] [(3 : Nat), (4 : Nat)]
  (loopBody Go.Proofs.Try.f25 (1 : Nat))
  [((3 : Nat), V.sl (0 : Nat) o (1 : Nat) len none), ((4 : Nat), V.ptr (1 : Nat) (0 : Nat)),
    ((32 : Nat), V.int IntKind.i64 (↑n : Int))]
  [Blk.b8 bs, Blk.b64 xs] =
  some
  ((if false = true then decide ((↑n : Int) < (136 : Int)) else !decide ((↑n : Int) < (136 : Int))) && true,
    X.exit (2 : Nat), [((3 : Nat), V.sl (0 : Nat) o (1 : Nat) len none), ((4 : Nat), V.ptr (1 : Nat) (0 : Nat))],
    [Blk.b8 bs, Blk.b64 xs]) := by kernel_rfl
/-- a byte goes into the lanes -/
def putB (xs : List (BitVec 64)) (n : Nat) (b : BitVec 8) : List (BitVec 64) :=
  xs.set (n / 8) (xs.getD (n / 8) 0 ^^^ b.setWidth 64 <<< (n % 8 * 8))
def absN (o : Nat) (bs : List (BitVec 8)) : Nat → List (BitVec 64) → List (BitVec 64)
  | 0, xs => xs
  | n + 1, xs => putB (absN o bs n xs) n (bs.getD (o + n) 0)
theorem absN_length (o : Nat) (bs : List (BitVec 8)) (xs : List (BitVec 64)) : ∀ n, (absN o bs n xs).length = xs.length
  | 0 => rfl
  | n + 1 => by simp [absN, putB, absN_length o bs xs n]
theorem inner_step (o len n : Nat) (bs : List (BitVec 8)) (xs : List (BitVec 64)) (hn : n < 136) (h1 : 136 ≤ len) (h2 : o + 136 ≤ bs.length) (h3 : xs.length = 25) :
    execT Pr O11 noLoops [(33,true)] 100 0 [0,1] [3,4,32] (loopBody Go.Proofs.Try.f25 1) [(3,.sl 0 o 1 len none),(4,.ptr 1 0),(32,.int .i64 n)] [.b8 bs, .b64 xs] =
      some (true, .normal, [(3,.sl 0 o 1 len none),(4,.ptr 1 0),(32,.int .i64 ((n + 1 : Nat) : Int))], [.b8 bs, .b64 (putB xs n (bs.getD (o + n) 0))]) := by
  rw [inner_on]
  have e1 : wrapI .i64 ((n : Int).tdiv (8 : Int)) = ((n / 8 : Nat) : Int) := by rw [tdiv_lit]; exact wrapI_nat (by omega)
  have e2 : wrapI .i64 ((n : Int).tmod (8 : Int) * (8 : Int)) = ((n % 8 * 8 : Nat) : Int) := by rw [tmod_lit, mul_lit]; exact wrapI_nat (by omega)
  have e3 : wrapI .i64 ((n : Int) + (1 : Int)) = ((n + 1 : Nat) : Int) := by rw [add_lit]; exact wrapI_nat (by omega)
  simp only [e1, e2, e3, Int.toNat_natCast, Nat.mul_one, Nat.zero_add, putB]
  simp [h3]
  omega
def sumS (o len : Nat) (bs : List (BitVec 8)) (xs : List (BitVec 64)) (n : Nat) : Fr × Heap :=
  ([(3,.sl 0 o 1 len none),(4,.ptr 1 0),(32,.int .i64 n)], [.b8 bs, .b64 (absN o bs n xs)])
def L8 : Loops := fun n fr h => if Nat.beq n 8 then (match tell 0 (rootsOf fr [3, 4]) [3, 4, 32] fr h with
  | some ([(3, .sl 0 o 1 len none), (4, .ptr 1 0), (32, .int .i64 0)], [.b8 bs, .b64 xs]) =>
    some (decide (136 ≤ len) && decide (o + 136 ≤ bs.length) && decide (xs.length = 25), .exit 2, [(3, .sl 0 o 1 len none), (4, .ptr 1 0)], [.b8 bs, .b64 (absN o bs 136 xs)])
  | _ => none) else none
theorem L8_ok : LoopOk Pr 70 0 L8 (loopBody Go.Proofs.Try.f25 1) := by
  intro fr h x fr' h' hL
  unfold L8 at hL
  split at hL <;> try simp only [reduceCtorEq] at hL
  split at hL <;> try simp only [reduceCtorEq] at hL
  rename_i o len bs xs ht
  simp only [Option.some.injEq, Prod.mk.injEq, Bool.and_eq_true, decide_eq_true_eq] at hL
  obtain ⟨⟨⟨h1, h2⟩, h3⟩, rfl, rfl, rfl⟩ := hL
  refine Runs.weaken (tell_weaker ht) ?_
  refine Runs.count (sumS o len bs xs) 136 (by simp) ?_ ?_
  · intro n hn
    exact execT_sound O11_sound mixed (fun _ _ => LoopOk.none) (by kernel_rfl) (by simp) (inner_step o len n bs (absN o bs n xs) hn h1 h2 (by rw [absN_length, h3]))
  · refine execT_sound O11_sound mixed (fun _ _ => LoopOk.none) (by kernel_rfl) (by simp) ((inner_off o len 136 bs (absN o bs 136 xs)).trans ?_)
    simp
/-- the lanes, one by one -/
def each (n : Nat) (xs : List (BitVec 64)) : List (BitVec 64) := (upto n).map fun k => xs.getD k 0
def setN (xs ys : List (BitVec 64)) : Nat → List (BitVec 64)
  | 0 => xs
  | n + 1 => (setN xs ys n).set n (ys.getD n 0)
theorem outer_on (o len : Nat) (bs : List (BitVec 8)) (xs : List (BitVec 64)) :
  execT Pr O11 L8 [(29,true)] 100 0 [0,1] [3,4] (loopBody Go.Proofs.Try.f25 0) [(3,.sl 0 o 1 len none),(4,.ptr 1 0)] [.b8 bs, .b64 xs] =
  some
  (decide ((len : Int) > 0) && true &&
      (decide ((136 : Nat) ≤ len) && decide (o + (136 : Nat) ≤ bs.length) && decide (xs.length = (25 : Nat)) &&
          (decide ((25 : Nat) ≤ (absN o bs (136 : Nat) xs).length) && (true && (decide (25 ≤ (absN o bs (136 : Nat) xs).length) && true))) &&
        (decide ((136 : Int) ≤ (len : Int)) && decide ((len : Int) ≤ (len : Int)) && true)),
    X.normal,
    [(3, V.sl 0 (o + (136 : Int).toNat * 1) 1 ((len : Int) - (136 : Int)).toNat none), (4, V.ptr 1 0)],
    [Blk.b8 bs, Blk.b64 (setN (absN o bs 136 xs) (permL (each 25 (absN o bs 136 xs))) 25)]) := by kernel_rfl
theorem each25 (xs : List (BitVec 64)) (h : xs.length = 25) : each 25 xs = xs := by
  obtain ⟨x0, x1, x2, x3, x4, x5, x6, x7, x8, x9, x10, x11, x12, x13, x14, x15, x16, x17, x18, x19, x20, x21, x22, x23, x24, rfl⟩ := list25 xs h
  rfl
theorem setN_get (xs ys : List (BitVec 64)) : ∀ n, n ≤ xs.length → (setN xs ys n).length = xs.length ∧ ∀ k, k < xs.length → (setN xs ys n)[k]? = if k < n then some (ys.getD k 0) else xs[k]?
  | 0, _ => ⟨rfl, fun k _ => by simp [setN]⟩
  | n + 1, h => by
    obtain ⟨h1, h2⟩ := setN_get xs ys n (by omega)
    refine ⟨by simp [setN, h1], fun k hk => ?_⟩
    simp only [setN]
    by_cases e : k = n
    · subst e
      rw [List.getElem?_set_self (by omega), if_pos (by omega)]
    · rw [List.getElem?_set_ne (Ne.symm e), h2 k hk]
      by_cases h3 : k < n
      · rw [if_pos h3, if_pos (by omega)]
      · rw [if_neg h3, if_neg (by omega)]
theorem setN25 (xs ys : List (BitVec 64)) (h : xs.length = 25) (hy : ys.length = 25) : setN xs ys 25 = ys := by
  obtain ⟨h1, h2⟩ := setN_get xs ys 25 (by omega)
  apply List.ext_getElem?
  intro k
  rcases Nat.lt_or_ge k 25 with hk | hk
  · rw [h2 k (by omega), if_pos hk]
    simp [List.getD_eq_getElem?_getD, List.getElem?_eq_getElem (show k < ys.length by omega)]
  · rw [List.getElem?_eq_none (by omega), List.getElem?_eq_none (by omega)]
theorem permL_length (xs : List (BitVec 64)) : (permL xs).length = 25 := roundL_length _ _
/-- one block is taken in -/
def takeIn (o : Nat) (bs : List (BitVec 8)) (xs : List (BitVec 64)) : List (BitVec 64) := permL (absN o bs 136 xs)
theorem outer_step (o len : Nat) (bs : List (BitVec 8)) (xs : List (BitVec 64)) (h1 : 136 ≤ len) (h2 : o + 136 ≤ bs.length) (h3 : xs.length = 25) :
  execT Pr O11 L8 [(29,true)] 100 0 [0,1] [3,4] (loopBody Go.Proofs.Try.f25 0) [(3,.sl 0 o 1 len none),(4,.ptr 1 0)] [.b8 bs, .b64 xs] =
  some (true, .normal, [(3, .sl 0 (o + 136) 1 (len - 136) none), (4, .ptr 1 0)], [.b8 bs, .b64 (takeIn o bs xs)]) := by
  rw [outer_on]
  have hl : (absN o bs 136 xs).length = 25 := by rw [absN_length, h3]
  rw [each25 _ hl, setN25 _ _ hl (permL_length _), hl]
  have e1 : ((len : Int) - (136 : Int)).toNat = len - 136 := by omega
  have e2 : o + (136 : Int).toNat * 1 = o + 136 := by simp
  rw [e1, e2]
  simp [h1, h2, h3, takeIn]
  omega
theorem outer_off (o : Nat) (len : Nat) (bs : List (BitVec 8)) (xs : List (BitVec 64)) :
  execT Pr O11 noLoops [((29 : Nat), false)] (100 : Nat) (0 : Nat) [(1 : Nat)] [(4 : Nat)]
  (loopBody Go.Proofs.Try.f25 (0 : Nat))
  [((3 : Nat), V.sl (0 : Nat) o (1 : Nat) len none), ((4 : Nat), V.ptr (1 : Nat) (0 : Nat))] [Blk.b8 bs, Blk.b64 xs] =
  some
  ((if false = true then decide ((↑len : Int) > (0 : Int)) else !decide ((↑len : Int) > (0 : Int))) && true,
    X.exit (0 : Nat), [((4 : Nat), V.ptr (0 : Nat) (0 : Nat))], [Blk.b64 xs]) := by kernel_rfl
/-- all the blocks -/
def takeAll (bs : List (BitVec 8)) (o : Nat) : Nat → List (BitVec 64) → List (BitVec 64)
  | 0, xs => xs
  | n + 1, xs => takeIn (o + 136 * n) bs (takeAll bs o n xs)
theorem takeAll_length (bs : List (BitVec 8)) (o : Nat) (xs : List (BitVec 64)) (h : xs.length = 25) : ∀ n, (takeAll bs o n xs).length = 25
  | 0 => h
  | n + 1 => permL_length _
def outS (m : Nat) (bs : List (BitVec 8)) (xs : List (BitVec 64)) (n : Nat) : Fr × Heap :=
  ([(3, .sl 0 (136 * n) 1 (136 * (m - n)) none), (4, .ptr 1 0)], [.b8 bs, .b64 (takeAll bs 0 n xs)])
def L5 : Loops := fun n fr h => if Nat.beq n 5 then (match tell 0 (rootsOf fr [3, 4]) [3, 4] fr h with
  | some ([(3, .sl 0 0 1 len none), (4, .ptr 1 0)], [.b8 bs, .b64 xs]) =>
    some (decide (len % 136 = 0) && decide (bs.length = len) && decide (xs.length = 25), .exit 0, [(4, .ptr 0 0)], [.b64 (takeAll bs 0 (len / 136) xs)])
  | _ => none) else none
theorem L5_ok : LoopOk Pr 70 0 L5 (loopBody Go.Proofs.Try.f25 0) := by
  intro fr h x fr' h' hL
  unfold L5 at hL
  split at hL <;> try simp only [reduceCtorEq] at hL
  split at hL <;> try simp only [reduceCtorEq] at hL
  rename_i len bs xs ht
  simp only [Option.some.injEq, Prod.mk.injEq, Bool.and_eq_true, decide_eq_true_eq] at hL
  obtain ⟨⟨⟨h1, h2⟩, h3⟩, rfl, rfl, rfl⟩ := hL
  refine Runs.weaken (tell_weaker ht) ?_
  generalize hm : len / 136 = m
  obtain rfl : len = 136 * m := by omega
  have hin : ∀ d, d ∈ loopsOf (loopBody Go.Proofs.Try.f25 0) → LoopOk Pr 70 0 L8 d := by
    have e : loopsOf (loopBody Go.Proofs.Try.f25 0) = [loopBody Go.Proofs.Try.f25 1] := by kernel_rfl
    rw [e]; intro d hd; cases List.mem_singleton.1 hd; exact L8_ok
  refine Runs.count (outS m bs xs) m (by simp) ?_ ?_
  · intro n hn
    have := outer_step (136 * n) (136 * (m - n)) bs (takeAll bs 0 n xs) (by omega) (by omega) (takeAll_length bs 0 xs h3 n)
    rw [show 136 * n + 136 = 136 * (n + 1) from by omega, show 136 * (m - n) - 136 = 136 * (m - (n + 1)) from by omega] at this
    have e : takeAll bs 0 (n + 1) xs = takeIn (136 * n) bs (takeAll bs 0 n xs) := by simp [takeAll]
    unfold outS
    rw [e]
    exact execT_sound O11_sound mixed hin (by kernel_rfl) (by simp) this
  · refine execT_sound O11_sound mixed (fun _ _ => LoopOk.none) (by kernel_rfl) (by simp) ((outer_off (136 * m) (136 * (m - m)) bs (takeAll bs 0 m xs)).trans ?_)
    simp

theorem out_on (n : Nat) (xs : List (BitVec 64)) (ys : List (BitVec 8)) :
  execT Pr O11 noLoops [((54 : Nat), true)] (100 : Nat) (0 : Nat) [(0 : Nat), (1 : Nat)]
  [(4 : Nat), (6 : Nat), (53 : Nat)] (loopBody Go.Proofs.Try.f25 (2 : Nat))
  [((4 : Nat), V.ptr (0 : Nat) (0 : Nat)), ((6 : Nat), V.ptr (1 : Nat) (0 : Nat)),
    ((53 : Nat), V.int IntKind.i64 (↑n : Int))]
  [Blk.b64 xs, Blk.b8 ys] =
  some
  ((if true = true then decide ((↑n : Int) < (32 : Int)) else !decide ((↑n : Int) < (32 : Int))) && true &&
      (decide ((0 : Int) ≤ wrapI IntKind.i64 ((↑n : Int).tdiv (8 : Int))) &&
            decide (wrapI IntKind.i64 ((↑n : Int).tdiv (8 : Int)) < (25 : Int)) &&
          (decide ((0 : Nat) + (wrapI IntKind.i64 ((↑n : Int).tdiv (8 : Int))).toNat * (1 : Nat) < xs.length) &&
            (decide ((0 : Int) ≤ wrapI IntKind.i64 ((↑n : Int).tmod (8 : Int) * (8 : Int))) &&
              (decide ((0 : Int) ≤ (↑n : Int)) && decide ((↑n : Int) < (32 : Int)) &&
                (decide
                    ((0 : Nat) + (↑n : Int).toNat * (1 : Nat) +
                        [V.u8
                              (BitVec.setWidth (8 : Nat)
                                (xs.getD ((0 : Nat) + (wrapI IntKind.i64 ((↑n : Int).tdiv (8 : Int))).toNat * (1 : Nat))
                                    (0 : BitVec (64 : Nat)) >>>
                                  (wrapI IntKind.i64 ((↑n : Int).tmod (8 : Int) * (8 : Int))).toNat))].length ≤
                      ys.length) &&
                  true)))) &&
        true),
    X.normal,
    [((4 : Nat), V.ptr (0 : Nat) (0 : Nat)), ((6 : Nat), V.ptr (1 : Nat) (0 : Nat)),
      ((53 : Nat), V.int IntKind.i64 (wrapI IntKind.i64 ((↑n : Int) + (1 : Int))))],
    [Blk.b64 xs,
      Blk.b8
        (ys.set ((0 : Nat) + (↑n : Int).toNat * (1 : Nat))
          (BitVec.setWidth (8 : Nat)
            (xs.getD ((0 : Nat) + (wrapI IntKind.i64 ((↑n : Int).tdiv (8 : Int))).toNat * (1 : Nat))
                (0 : BitVec (64 : Nat)) >>>
              (wrapI IntKind.i64 ((↑n : Int).tmod (8 : Int) * (8 : Int))).toNat)))]) := by kernel_rfl
theorem out_off (n : Nat) (xs : List (BitVec 64)) (ys : List (BitVec 8)) :
  execT Pr O11 noLoops [((54 : Nat), false)] (100 : Nat) (0 : Nat) [(1 : Nat)] [(6 : Nat)]
  (loopBody Go.Proofs.Try.f25 (2 : Nat))
  [((4 : Nat), V.ptr (0 : Nat) (0 : Nat)), ((6 : Nat), V.ptr (1 : Nat) (0 : Nat)),
    ((53 : Nat), V.int IntKind.i64 (↑n : Int))]
  [Blk.b64 xs, Blk.b8 ys] =
  some
  ((if false = true then decide ((↑n : Int) < (32 : Int)) else !decide ((↑n : Int) < (32 : Int))) && true,
    X.exit (4 : Nat), [((6 : Nat), V.ptr (0 : Nat) (0 : Nat))], [Blk.b8 ys]) := by kernel_rfl
/-- the n-th byte of the lanes -/
def byteOf (xs : List (BitVec 64)) (n : Nat) : BitVec 8 := (xs.getD (n / 8) 0 >>> (n % 8 * 8)).setWidth 8
def outN (xs : List (BitVec 64)) (ys : List (BitVec 8)) : Nat → List (BitVec 8)
  | 0 => ys
  | n + 1 => (outN xs ys n).set n (byteOf xs n)
theorem outN_length (xs : List (BitVec 64)) (ys : List (BitVec 8)) : ∀ n, (outN xs ys n).length = ys.length
  | 0 => rfl
  | n + 1 => by simp [outN, outN_length xs ys n]
theorem out_step (n : Nat) (xs : List (BitVec 64)) (ys : List (BitVec 8)) (hn : n < 32) (hx : xs.length = 25) (hy : ys.length = 32) :
    execT Pr O11 noLoops [(54,true)] 100 0 [0,1] [4,6,53] (loopBody Go.Proofs.Try.f25 2) [(4,.ptr 0 0),(6,.ptr 1 0),(53,.int .i64 n)] [.b64 xs, .b8 ys] =
      some (true, .normal, [(4,.ptr 0 0),(6,.ptr 1 0),(53,.int .i64 ((n + 1 : Nat) : Int))], [.b64 xs, .b8 (ys.set n (byteOf xs n))]) := by
  rw [out_on]
  have e1 : wrapI .i64 ((n : Int).tdiv (8 : Int)) = ((n / 8 : Nat) : Int) := by rw [tdiv_lit]; exact wrapI_nat (by omega)
  have e2 : wrapI .i64 ((n : Int).tmod (8 : Int) * (8 : Int)) = ((n % 8 * 8 : Nat) : Int) := by rw [tmod_lit, mul_lit]; exact wrapI_nat (by omega)
  have e3 : wrapI .i64 ((n : Int) + (1 : Int)) = ((n + 1 : Nat) : Int) := by rw [add_lit]; exact wrapI_nat (by omega)
  simp only [e1, e2, e3, Int.toNat_natCast, Nat.mul_one, Nat.zero_add, byteOf]
  simp [hx, hy]
  omega
def outSt (xs : List (BitVec 64)) (ys : List (BitVec 8)) (n : Nat) : Fr × Heap :=
  ([(4,.ptr 0 0),(6,.ptr 1 0),(53,.int .i64 n)], [.b64 xs, .b8 (outN xs ys n)])
def L9 : Loops := fun n fr h => if Nat.beq n 15 then (match tell 0 (rootsOf fr [4, 6]) [4, 6, 53] fr h with
  | some ([(4, .ptr 0 0), (6, .ptr 1 0), (53, .int .i64 0)], [.b64 xs, .b8 ys]) =>
    some (decide (xs.length = 25) && decide (ys.length = 32), .exit 4, [(6, .ptr 0 0)], [.b8 (outN xs ys 32)])
  | _ => none) else L5 n fr h
theorem L9_ok2 : LoopOk Pr 70 0 L9 (loopBody Go.Proofs.Try.f25 2) := by
  intro fr h x fr' h' hL
  have e : headNo (loopBody Go.Proofs.Try.f25 2) = 15 := by kernel_rfl
  rw [e] at hL
  unfold L9 at hL
  rw [if_pos (by rfl)] at hL
  split at hL <;> try simp only [reduceCtorEq] at hL
  rename_i xs ys ht
  simp only [Option.some.injEq, Prod.mk.injEq, Bool.and_eq_true, decide_eq_true_eq] at hL
  obtain ⟨⟨h1, h2⟩, rfl, rfl, rfl⟩ := hL
  refine Runs.weaken (tell_weaker ht) ?_
  refine Runs.count (outSt xs ys) 32 (by simp) ?_ ?_
  · intro n hn
    exact execT_sound O11_sound mixed (fun _ _ => LoopOk.none) (by kernel_rfl) (by simp) (out_step n xs (outN xs ys n) hn h1 (by rw [outN_length, h2]))
  · refine execT_sound O11_sound mixed (fun _ _ => LoopOk.none) (by kernel_rfl) (by simp) ((out_off 32 xs (outN xs ys 32)).trans ?_)
    simp
theorem L9_ok0 : LoopOk Pr 70 0 L9 (loopBody Go.Proofs.Try.f25 0) := by
  intro fr h x fr' h' hL
  refine L5_ok fr h x fr' h' ?_
  have e : headNo (loopBody Go.Proofs.Try.f25 0) = 5 := by kernel_rfl
  rw [e] at hL ⊢
  exact hL
/-- the text, filled up to whole blocks -/
def padM (s : List (BitVec 8)) : Nat := ((wrapI IntKind.i64 ((136 : Int) - (↑(s.length + (1 : Nat)) : Int).tmod (136 : Int))).tmod (136 : Int)).toNat
def padB1 (s : List (BitVec 8)) : List (BitVec 8) := List.take (s.length * (1 : Nat)) (List.drop (0 : Nat) s) ++ List.take (1 : Nat) (List.drop (0 : Nat) [BitVec.ofInt (8 : Nat) (1 : Int)])
def padB2 (s : List (BitVec 8)) : List (BitVec 8) := List.take ((s.length + (1 : Nat)) * (1 : Nat)) (List.drop (0 : Nat) (padB1 s)) ++ List.replicate (padM s) (BitVec.ofInt (8 : Nat) (0 : Int))
def padAt (s : List (BitVec 8)) : Nat := (wrapI IntKind.i64 ((↑(s.length + (1 : Nat) + padM s) : Int) - (1 : Int))).toNat * (1 : Nat)
def padB3 (s : List (BitVec 8)) : List (BitVec 8) := (padB2 s).set ((0 : Nat) + padAt s) ((padB2 s).getD ((0 : Nat) + padAt s) (0 : BitVec (8 : Nat)) ^^^ BitVec.ofInt (8 : Nat) (128 : Int))
def z25 (s : List (BitVec 8)) : List (BitVec 64) := [BitVec.ofInt (64 : Nat) (0 : Int), BitVec.ofInt (64 : Nat) (0 : Int), BitVec.ofInt (64 : Nat) (0 : Int), BitVec.ofInt (64 : Nat) (0 : Int), BitVec.ofInt (64 : Nat) (0 : Int), BitVec.ofInt (64 : Nat) (0 : Int), BitVec.ofInt (64 : Nat) (0 : Int), BitVec.ofInt (64 : Nat) (0 : Int), BitVec.ofInt (64 : Nat) (0 : Int), BitVec.ofInt (64 : Nat) (0 : Int), BitVec.ofInt (64 : Nat) (0 : Int), BitVec.ofInt (64 : Nat) (0 : Int), BitVec.ofInt (64 : Nat) (0 : Int), BitVec.ofInt (64 : Nat) (0 : Int), BitVec.ofInt (64 : Nat) (0 : Int), BitVec.ofInt (64 : Nat) (0 : Int), BitVec.ofInt (64 : Nat) (0 : Int), BitVec.ofInt (64 : Nat) (0 : Int), BitVec.ofInt (64 : Nat) (0 : Int), BitVec.ofInt (64 : Nat) (0 : Int), BitVec.ofInt (64 : Nat) (0 : Int), BitVec.ofInt (64 : Nat) (0 : Int), BitVec.ofInt (64 : Nat) (0 : Int), BitVec.ofInt (64 : Nat) (0 : Int), BitVec.ofInt (64 : Nat) (0 : Int)]
def z32 (s : List (BitVec 8)) : List (BitVec 8) := [BitVec.ofInt (8 : Nat) (0 : Int), BitVec.ofInt (8 : Nat) (0 : Int), BitVec.ofInt (8 : Nat) (0 : Int), BitVec.ofInt (8 : Nat) (0 : Int), BitVec.ofInt (8 : Nat) (0 : Int), BitVec.ofInt (8 : Nat) (0 : Int), BitVec.ofInt (8 : Nat) (0 : Int), BitVec.ofInt (8 : Nat) (0 : Int), BitVec.ofInt (8 : Nat) (0 : Int), BitVec.ofInt (8 : Nat) (0 : Int), BitVec.ofInt (8 : Nat) (0 : Int), BitVec.ofInt (8 : Nat) (0 : Int), BitVec.ofInt (8 : Nat) (0 : Int), BitVec.ofInt (8 : Nat) (0 : Int), BitVec.ofInt (8 : Nat) (0 : Int), BitVec.ofInt (8 : Nat) (0 : Int), BitVec.ofInt (8 : Nat) (0 : Int), BitVec.ofInt (8 : Nat) (0 : Int), BitVec.ofInt (8 : Nat) (0 : Int), BitVec.ofInt (8 : Nat) (0 : Int), BitVec.ofInt (8 : Nat) (0 : Int), BitVec.ofInt (8 : Nat) (0 : Int), BitVec.ofInt (8 : Nat) (0 : Int), BitVec.ofInt (8 : Nat) (0 : Int), BitVec.ofInt (8 : Nat) (0 : Int), BitVec.ofInt (8 : Nat) (0 : Int), BitVec.ofInt (8 : Nat) (0 : Int), BitVec.ofInt (8 : Nat) (0 : Int), BitVec.ofInt (8 : Nat) (0 : Int), BitVec.ofInt (8 : Nat) (0 : Int), BitVec.ofInt (8 : Nat) (0 : Int), BitVec.ofInt (8 : Nat) (0 : Int)]
def sumA (s : List (BitVec 8)) : List (BitVec 64) := takeAll (padB3 s) (0 : Nat) ((s.length + (1 : Nat) + padM s) / (136 : Nat)) (z25 s)
def sumO (s : List (BitVec 8)) : List (BitVec 8) := outN (sumA s) (z32 s) (32 : Nat)
theorem sum_end (s : List (BitVec 8)) :
  execF Pr O11 L9 (100 : Nat) Go.Proofs.Try.f25 [V.str s] [] =
  some
  (decide ((0 : Nat) + s.length * (1 : Nat) ≤ s.length) &&
              (decide (s.length + (1 : Nat) ≤ (281474976710656 : Nat)) &&
                  decide (((2 : Nat) * (s.length + (1 : Nat)) + (1024 : Nat)) * (1 : Nat) ≤ (281474976710656 : Nat)) &&
                true) &&
            true &&
          true &&
        (decide
                      ((0 : Int) ≤
                        (wrapI IntKind.i64 ((136 : Int) - (↑(s.length + (1 : Nat)) : Int).tmod (136 : Int))).tmod
                          (136 : Int)) &&
                    decide
                      ((wrapI IntKind.i64 ((136 : Int) - (↑(s.length + (1 : Nat)) : Int).tmod (136 : Int))).tmod
                          (136 : Int) ≤
                        (281474976710656 : Int)) &&
                  decide (padM s * (1 : Nat) ≤ (281474976710656 : Nat)) &&
                decide ((List.replicate (padM s) (BitVec.ofInt (8 : Nat) (0 : Int))).length = padM s * (1 : Nat)) &&
              (decide ((0 : Nat) + (s.length + (1 : Nat)) * (1 : Nat) ≤ (padB1 s).length) &&
                  (decide (s.length + (1 : Nat) + padM s ≤ (281474976710656 : Nat)) &&
                      decide
                        (((2 : Nat) * (s.length + (1 : Nat) + padM s) + (1024 : Nat)) * (1 : Nat) ≤
                          (281474976710656 : Nat)) &&
                    true) &&
                true) &&
            true &&
          (decide ((0 : Int) ≤ wrapI IntKind.i64 ((↑(s.length + (1 : Nat) + padM s) : Int) - (1 : Int))) &&
                decide
                  (wrapI IntKind.i64 ((↑(s.length + (1 : Nat) + padM s) : Int) - (1 : Int)) <
                    (↑(s.length + (1 : Nat) + padM s) : Int)) &&
              (decide ((0 : Nat) + padAt s < (padB2 s).length) &&
                (decide ((0 : Int) ≤ wrapI IntKind.i64 ((↑(s.length + (1 : Nat) + padM s) : Int) - (1 : Int))) &&
                    decide
                      (wrapI IntKind.i64 ((↑(s.length + (1 : Nat) + padM s) : Int) - (1 : Int)) <
                        (↑(s.length + (1 : Nat) + padM s) : Int)) &&
                  (decide
                      ((0 : Nat) + padAt s +
                          [V.u8
                                ((padB2 s).getD ((0 : Nat) + padAt s) (0 : BitVec (8 : Nat)) ^^^
                                  BitVec.ofInt (8 : Nat) (128 : Int))].length ≤
                        (padB2 s).length) &&
                    true))) &&
            (decide ((s.length + (1 : Nat) + padM s) % (136 : Nat) = (0 : Nat)) &&
                  decide ((padB3 s).length = s.length + (1 : Nat) + padM s) &&
                true &&
              (decide ((sumA s).length = (25 : Nat)) && true &&
                (decide ((32 : Nat) ≤ (sumO s).length) && (decide ((32 : Nat) ≤ (sumO s).length) && true) &&
                  true))))) &&
      true,
    Fin.ret (V.str (List.take (32 : Nat) (List.drop (0 : Nat) (sumO s)))), []) := by kernel_rfl
theorem padM_eq (s : List (BitVec 8)) (h : s.length ≤ 140737488351232) : padM s = (136 - (s.length + 1) % 136) % 136 ∧ (wrapI IntKind.i64 ((136 : Int) - (↑(s.length + (1 : Nat)) : Int).tmod (136 : Int))).tmod (136 : Int) = (padM s : Int) := by
  have e1 : (136 : Int) - (↑(s.length + (1 : Nat)) : Int).tmod (136 : Int) = ((136 - (s.length + 1) % 136 : Nat) : Int) := by
    rw [tmod_lit]
    have := Nat.mod_lt (s.length + 1) (show 0 < 136 by omega)
    omega
  have e2 : (wrapI IntKind.i64 ((136 : Int) - (↑(s.length + (1 : Nat)) : Int).tmod (136 : Int))).tmod (136 : Int) = (((136 - (s.length + 1) % 136) % 136 : Nat) : Int) := by
    rw [e1, wrapI_nat (by omega), tmod_lit]
  unfold padM
  rw [e2]
  exact ⟨rfl, rfl⟩
theorem padB1_length (s : List (BitVec 8)) : (padB1 s).length = s.length + 1 := by simp [padB1]
theorem padB2_length (s : List (BitVec 8)) : (padB2 s).length = s.length + 1 + padM s := by simp [padB2, padB1_length]
theorem padB3_length (s : List (BitVec 8)) : (padB3 s).length = s.length + 1 + padM s := by simp [padB3, padB2_length]
theorem sum_exec (s : List (BitVec 8)) (h : s.length ≤ 140737488351232) : execF Pr O11 L9 100 Go.Proofs.Try.f25 [.str s] [] = some (true, .ret (.str (sumO s)), []) := by
  rw [sum_end]
  obtain ⟨e1, e2⟩ := padM_eq s h
  have e3 : wrapI IntKind.i64 ((↑(s.length + (1 : Nat) + padM s) : Int) - (1 : Int)) = ((s.length + padM s : Nat) : Int) := by
    rw [show ((↑(s.length + (1 : Nat) + padM s) : Int) - (1 : Int)) = ((s.length + padM s : Nat) : Int) by omega]
    exact wrapI_nat (by omega)
  have e4 : padAt s = s.length + padM s := by unfold padAt; rw [e3, Int.toNat_natCast, Nat.mul_one]
  have l1 : (sumA s).length = 25 := takeAll_length _ _ _ rfl _
  have l2 : (sumO s).length = 32 := by unfold sumO; rw [outN_length]; rfl
  have e5 : (s.length + 1 + padM s) % 136 = 0 := by rw [e1]; omega
  rw [e2, e3, e4]
  simp [padB1_length, padB2_length, padB3_length, l1, l2, e5]
  refine ⟨?_, ?_⟩
  · omega
  · exact List.take_of_length_le (by omega)
def sumG (args : List V) (h : Heap) : Option (Bool × Fin × Heap) :=
  match args, h with
  | [.str s], [] => some (decide (s.length ≤ 140737488351232), .ret (.str (sumO s)), [])
  | _, _ => none
theorem f9_at : Pr.funcs[25]? = some Go.Proofs.Try.f25 := by kernel_rfl
theorem body9 : Go.Proofs.Try.f25.body = some (Go.Proofs.Try.f25.body.getD .skip) := by kernel_rfl
theorem loops9 : loopsOf (Go.Proofs.Try.f25.body.getD .skip) = [loopBody Go.Proofs.Try.f25 0, loopBody Go.Proofs.Try.f25 1, loopBody Go.Proofs.Try.f25 2] := by kernel_rfl
theorem L9_ok1 : LoopOk Pr 70 0 L9 (loopBody Go.Proofs.Try.f25 1) := by
  intro fr h x fr' h' hL
  have e : headNo (loopBody Go.Proofs.Try.f25 1) = 8 := by kernel_rfl
  rw [e] at hL
  simp [L9, L5] at hL
theorem ntmps9 : Go.Proofs.Try.f25.ntmps = 70 := by kernel_rfl
theorem sumG_sound : ∀ args h fin h', sumG args h = some (true, fin, h') → LFn Pr 25 args h fin h' := by
  intro args h fin h' hg
  unfold sumG at hg
  split at hg <;> simp only [Option.some.injEq, Prod.mk.injEq, decide_eq_true_eq, reduceCtorEq] at hg
  rename_i s
  obtain ⟨hl, rfl, rfl⟩ := hg
  refine execF_sound O11_sound mixed f9_at (L := L9) (fuel := 100) ?_ (sum_exec s hl)
  intro c hc d hd
  rw [body9] at hc
  cases hc
  rw [loops9] at hd
  rw [ntmps9]
  simp only [List.mem_cons, List.not_mem_nil, or_false] at hd
  rcases hd with rfl | rfl | rfl
  · exact L9_ok0
  · exact L9_ok1
  · exact L9_ok2
def OK : Orc := know O11 25 sumG
theorem OK_sound : OrcSound Pr OK := know_sound O11_sound (enters_of f9_at (by kernel_rfl) (by kernel_rfl)) sumG_sound
end
end Go.Proofs.Ytklgiongdiojcaa.K
end
section
open Go Go.Lh
namespace Go.Proofs.Ytklgiongdiojcaa.K
noncomputable section
set_option maxRecDepth 100000
def cl : Code → Code | .seq a _ => a | c => c
def cr : Code → Code | .seq _ b => b | c => c
def cb : Code → Code | .block _ c => c | c => c
def clp : Code → Code | .loop c => c | c => c
def B24 : Code := Go.Proofs.Try.f24.body.getD .skip
def LB : Code := clp (cb (cr (cr B24)))
def R5 : Array Oper := match cl (cr (cb (cl (cr LB)))) with | .region _ ops _ => ops | _ => #[]
def R7 : Array Oper := (R5.toList.take 7).toArray
def KS : KnownT := [(25, old sumG)]
theorem KS_ok : KOkT Pr KS := KOkT.cons (enters_of f9_at (by kernel_rfl) (by kernel_rfl)) (old_ok sumG_sound) KOkT.nil
def OS : OrcT := autoT Pr noExt KS [] 2
theorem OS_sound : OrcSound Pr OS.o := autoT_sound mixed noExt_ok KS_ok (by kernel_rfl) 2
theorem it_r0 (l : Nat) (s : List (BitVec 8)) : Tr.prune (Tr.Sh.any)
  (execB Pr OS noLoopsT (100 : Nat) (cl B24)
  [((0 : Nat), V.yld l), ((1 : Nat), V.iptr (1 : Nat) (1 : Nat) (fun x x_1 ↦ V.str s) (0 : Nat) (0 : Nat))] []) =
  Tr.chk (decide (s.length ≤ (140737488351232 : Nat)) && true)
  (Tr.leaf
    (X.normal,
      [((0 : Nat), V.yld l), ((1 : Nat), V.iptr (1 : Nat) (1 : Nat) (fun x x_1 ↦ V.str s) (0 : Nat) (0 : Nat)),
        ((6 : Nat), V.str s), ((7 : Nat), V.str (sumO s)), ((3 : Nat), V.str (sumO s))],
      [])) := by kernel_rfl
theorem it_r1 (l : Nat) (hh : List (BitVec 8)) : Tr.prune (Tr.Sh.any)
  (execB Pr OS noLoopsT (100 : Nat) (cl (cr B24)) [((0 : Nat), V.yld l), ((3 : Nat), V.str hh)] []) =
  Tr.chk true
  (Tr.leaf
    (X.normal, [((0 : Nat), V.yld l), ((3 : Nat), V.str hh), ((4 : Nat), V.int IntKind.i64 (0 : Int))],
      [])) := by kernel_rfl
theorem it_hd (l : Nat) (hh : List (BitVec 8)) (k : Nat) : Tr.prune (Tr.Sh.any.both Tr.Sh.any)
  (execB Pr OS noLoopsT (100 : Nat) (cl LB)
  [((0 : Nat), V.yld l), ((3 : Nat), V.str hh), ((4 : Nat), V.int IntKind.i64 (↑((2 : Nat) * k) : Int))] []) =
  Tr.chk true
  (Tr.br (decide ((↑((2 : Nat) * k) : Int) < (6 : Int)))
    (Tr.leaf
      (X.normal,
        [((0 : Nat), V.yld l), ((3 : Nat), V.str hh), ((4 : Nat), V.int IntKind.i64 (↑((2 : Nat) * k) : Int)),
          ((8 : Nat), V.int IntKind.i64 (↑((2 : Nat) * k) : Int)), ((9 : Nat), V.bool true)],
        []))
    (Tr.leaf
      (X.exit (0 : Nat),
        [((0 : Nat), V.yld l), ((3 : Nat), V.str hh), ((4 : Nat), V.int IntKind.i64 (↑((2 : Nat) * k) : Int)),
          ((8 : Nat), V.int IntKind.i64 (↑((2 : Nat) * k) : Int)), ((9 : Nat), V.bool false)],
        []))) := by kernel_rfl
theorem it_r4 (l : Nat) (hh : List (BitVec 8)) (k : Nat) : Tr.prune (Tr.Sh.any)
  (execB Pr OS noLoopsT (100 : Nat) (cl (cb (cl (cr LB))))
  [((0 : Nat), V.yld l), ((3 : Nat), V.str hh), ((4 : Nat), V.int IntKind.i64 (↑((2 : Nat) * k) : Int))] []) =
  Tr.chk
  (decide ((↑((2 : Nat) * k) : Int) < (↑hh.length : Int)) &&
    (decide ((0 : Int) ≤ wrapI IntKind.i64 ((↑((2 : Nat) * k) : Int) + (1 : Int))) &&
        decide (wrapI IntKind.i64 ((↑((2 : Nat) * k) : Int) + (1 : Int)) < (↑hh.length : Int)) &&
      true))
  (Tr.leaf
    (X.normal,
      [((0 : Nat), V.yld l), ((3 : Nat), V.str hh), ((4 : Nat), V.int IntKind.i64 (↑((2 : Nat) * k) : Int)),
        ((12 : Nat), V.str hh), ((13 : Nat), V.int IntKind.i64 (↑((2 : Nat) * k) : Int)),
        ((14 : Nat), V.u8 (hh.getD ((2 : Nat) * k) (OfNat.ofNat (0 : Nat)))),
        ((15 : Nat), V.int IntKind.i64 (↑(hh.getD ((2 : Nat) * k) (OfNat.ofNat (0 : Nat))).toNat : Int)),
        ((16 : Nat),
          V.int IntKind.i64
            (wrapI IntKind.i64 ((↑(hh.getD ((2 : Nat) * k) (OfNat.ofNat (0 : Nat))).toNat : Int) * (256 : Int)))),
        ((17 : Nat), V.str hh), ((18 : Nat), V.int IntKind.i64 (↑((2 : Nat) * k) : Int)),
        ((19 : Nat), V.int IntKind.i64 (wrapI IntKind.i64 ((↑((2 : Nat) * k) : Int) + (1 : Int)))),
        ((20 : Nat),
          V.u8 (hh.getD (wrapI IntKind.i64 ((↑((2 : Nat) * k) : Int) + (1 : Int))).toNat (OfNat.ofNat (0 : Nat)))),
        ((21 : Nat),
          V.int IntKind.i64
            (↑(hh.getD (wrapI IntKind.i64 ((↑((2 : Nat) * k) : Int) + (1 : Int))).toNat (OfNat.ofNat (0 : Nat))).toNat :
              Int)),
        ((22 : Nat),
          V.int IntKind.i64
            (wrapI IntKind.i64
              (↑(BitVec.ofInt (64 : Nat)
                        (wrapI IntKind.i64
                          ((↑(hh.getD ((2 : Nat) * k) (OfNat.ofNat (0 : Nat))).toNat : Int) * (256 : Int))) |||
                      BitVec.ofInt (64 : Nat)
                        (↑(hh.getD (wrapI IntKind.i64 ((↑((2 : Nat) * k) : Int) + (1 : Int))).toNat
                                (OfNat.ofNat (0 : Nat))).toNat :
                          Int)).toNat :
                Int))),
        ((23 : Nat),
          V.int IntKind.i64
            (wrapI IntKind.i64
              (↑(BitVec.ofInt (64 : Nat)
                        (wrapI IntKind.i64
                          (↑(BitVec.ofInt (64 : Nat)
                                    (wrapI IntKind.i64
                                      ((↑(hh.getD ((2 : Nat) * k) (OfNat.ofNat (0 : Nat))).toNat : Int) *
                                        (256 : Int))) |||
                                  BitVec.ofInt (64 : Nat)
                                    (↑(hh.getD (wrapI IntKind.i64 ((↑((2 : Nat) * k) : Int) + (1 : Int))).toNat
                                            (OfNat.ofNat (0 : Nat))).toNat :
                                      Int)).toNat :
                            Int)) &&&
                      BitVec.ofInt (64 : Nat) (2047 : Int)).toNat :
                Int))),
        ((5 : Nat),
          V.int IntKind.i64
            (wrapI IntKind.i64
              (↑(BitVec.ofInt (64 : Nat)
                        (wrapI IntKind.i64
                          (↑(BitVec.ofInt (64 : Nat)
                                    (wrapI IntKind.i64
                                      ((↑(hh.getD ((2 : Nat) * k) (OfNat.ofNat (0 : Nat))).toNat : Int) *
                                        (256 : Int))) |||
                                  BitVec.ofInt (64 : Nat)
                                    (↑(hh.getD (wrapI IntKind.i64 ((↑((2 : Nat) * k) : Int) + (1 : Int))).toNat
                                            (OfNat.ofNat (0 : Nat))).toNat :
                                      Int)).toNat :
                            Int)) &&&
                      BitVec.ofInt (64 : Nat) (2047 : Int)).toNat :
                Int)))],
      [])) := by kernel_rfl
theorem it_r3 (l : Nat) (hh : List (BitVec 8)) (k : Nat) : Tr.prune (Tr.Sh.any)
  (execB Pr OS noLoopsT (100 : Nat) (cr (cr LB))
  [((0 : Nat), V.yld l), ((3 : Nat), V.str hh), ((4 : Nat), V.int IntKind.i64 (↑((2 : Nat) * k) : Int))] []) =
  Tr.chk true
  (Tr.leaf
    (X.normal,
      [((0 : Nat), V.yld l), ((3 : Nat), V.str hh),
        ((4 : Nat), V.int IntKind.i64 (wrapI IntKind.i64 ((↑((2 : Nat) * k) : Int) + (2 : Int)))),
        ((10 : Nat), V.int IntKind.i64 (↑((2 : Nat) * k) : Int)),
        ((11 : Nat), V.int IntKind.i64 (wrapI IntKind.i64 ((↑((2 : Nat) * k) : Int) + (2 : Int))))],
      [])) := by kernel_rfl
theorem it_r7 (l : Nat) (hh : List (BitVec 8)) (k : Nat) (n : Nat) : Tr.prune (Tr.Sh.any)
  (execB Pr OS noLoopsT (100 : Nat) (Code.region (5 : Nat) R7 false)
  [((0 : Nat), V.yld l), ((3 : Nat), V.str hh), ((4 : Nat), V.int IntKind.i64 (↑((2 : Nat) * k) : Int)),
    ((5 : Nat), V.int IntKind.i64 (↑n : Int))]
  []) =
  Tr.chk true
  (Tr.leaf
    (X.normal,
      [((0 : Nat), V.yld l), ((3 : Nat), V.str hh), ((4 : Nat), V.int IntKind.i64 (↑((2 : Nat) * k) : Int)),
        ((5 : Nat), V.int IntKind.i64 (↑n : Int)), ((24 : Nat), V.yld l), ((25 : Nat), V.int IntKind.i64 (↑n : Int)),
        ((26 : Nat), V.int IntKind.i64 (wrapI IntKind.i64 ((↑n : Int).tdiv (8 : Int)))),
        ((27 : Nat),
          V.int IntKind.i64 (wrapI IntKind.i64 ((255 : Int) - wrapI IntKind.i64 ((↑n : Int).tdiv (8 : Int))))),
        ((28 : Nat), V.int IntKind.i64 (↑n : Int)), ((29 : Nat), V.int IntKind.i64 ((↑n : Int).tmod (8 : Int))),
        ((30 : Nat), V.u8 (BitVec.ofInt (8 : Nat) (1 : Int) <<< ((↑n : Int).tmod (8 : Int)).toNat))],
      [])) := by kernel_rfl
end
end Go.Proofs.Ytklgiongdiojcaa.K
end
section
open Go Go.Lh Go.Lh.Bl
namespace Go.Proofs.Ytklgiongdiojcaa.K
noncomputable section
set_option maxRecDepth 100000
/-- a bit to be set: its byte, its mask -/
structure Pl where
  k : Nat
  b : BitVec 8
  lt : k < 256
def plOf (h : List (BitVec 8)) (i : Nat) : Pl := ⟨atOf h i, bitOf h i, atOf_lt h i⟩
def encP (x : Pl) : Array Value := #[.int .i64 (x.k : Int), .int .u8 x.b.toNat]
def plL (h : List (BitVec 8)) : List Pl := [plOf h 0, plOf h 1, plOf h 2]
def frL (l : Nat) (hh : List (BitVec 8)) (z : Int) : Fr := [(0, .yld l), (3, .str hh), (4, .int .i64 z)]

theorem num_eq (x y : BitVec 8) : wrapI .i64 ((BitVec.ofInt 64 (wrapI .i64 ((BitVec.ofInt 64 (wrapI .i64 ((x.toNat : Int) * 256)) ||| BitVec.ofInt 64 (y.toNat : Int)).toNat : Int)) &&& BitVec.ofInt 64 2047).toNat : Int) = (((x.toNat * 256 + y.toNat) % 2048 : Nat) : Int) := by
  have hx := x.isLt
  have hy := y.isLt
  have o : ∀ n : Nat, BitVec.ofInt 64 (n : Int) = BitVec.ofNat 64 n := fun n => by simp
  have e1 : wrapI .i64 ((x.toNat : Int) * 256) = ((x.toNat * 256 : Nat) : Int) := by
    rw [show (x.toNat : Int) * 256 = ((x.toNat * 256 : Nat) : Int) by omega]; exact wrapI_nat (by omega)
  rw [e1, o, o]
  have e2 : (BitVec.ofNat 64 (x.toNat * 256) ||| BitVec.ofNat 64 y.toNat).toNat = x.toNat * 256 + y.toNat := by
    rw [BitVec.toNat_or, BitVec.toNat_ofNat, BitVec.toNat_ofNat, Nat.mod_eq_of_lt (by omega), Nat.mod_eq_of_lt (by omega)]
    have := Nat.shiftLeft_add_eq_or_of_lt (a := x.toNat) (b := y.toNat) (i := 8) (by omega)
    rw [Nat.shiftLeft_eq] at this
    exact this.symm
  have e5 : wrapI .i64 ((x.toNat * 256 + y.toNat : Nat) : Int) = ((x.toNat * 256 + y.toNat : Nat) : Int) := wrapI_nat (by omega)
  rw [e2, e5, o]
  have e3 : BitVec.ofInt 64 2047 = BitVec.ofNat 64 2047 := rfl
  rw [e3, BitVec.toNat_and, BitVec.toNat_ofNat, BitVec.toNat_ofNat, Nat.mod_eq_of_lt (by omega)]
  have e4 : (2047 : Nat) % 2 ^ 64 = 2 ^ 11 - 1 := by decide
  rw [e4, Nat.and_two_pow_sub_one_eq_mod]
  exact wrapI_nat (by omega)

def op8 : Oper := (R5[8]?).getD default
def op7 : Oper := (R5[7]?).getD default
theorem op8_st (b : Bool) : Go.Lh.stepT Pr (Fr.get [(31, .bool b)]) op8.op = some (true, .bool (!b)) := by kernel_rfl
theorem R5_7 : R5[7]? = some op7 := by kernel_rfl
theorem R5_8 : R5[8]? = some op8 := by kernel_rfl
theorem op7_op : op7.op = .call { callee := .value (.tmp 24), args := #[.tmp 27, .tmp 30], argTypes := (match op7.op with | .call c => c.argTypes | _ => #[]) } := by kernel_rfl
theorem op7_dst : op7.dst = some 31 := by kernel_rfl
theorem op8_dst : op8.dst = some 32 := by kernel_rfl
theorem op7_g : op7.guard = none := by kernel_rfl
theorem op8_g : op8.guard = none := by kernel_rfl
theorem op8_nd : noDefer op8 = true := by kernel_rfl
def pre7 : Nat → Bool := fun i => match R7[i]?, R5[i]? with | some o, some o' => o.guard.isNone && noDefer o | _, _ => false
theorem R7_R5 : ∀ i, i < 7 → R7[i]? = R5[i]? := by
  intro i hi
  show (R5.toList.take 7).toArray[i]? = R5[i]?
  rw [List.getElem?_toArray, List.getElem?_take, if_pos hi, Array.getElem?_toList]
theorem R7_ok : ∀ i, i < 7 → ∃ o, R7[i]? = some o ∧ o.guard = none ∧ noDefer o = true := by
  intro i hi
  have h : ((List.range 7).all fun i => match R7[i]? with | some o => o.guard.isNone && noDefer o | none => false) = true := by kernel_rfl
  have := List.all_eq_true.1 h i (List.mem_range.2 hi)
  cases ho : R7[i]? with
  | none => rw [ho] at this; cases this
  | some o => rw [ho] at this; simp only [Bool.and_eq_true, Option.isNone_iff_eq_none] at this; exact ⟨o, rfl, this.1, this.2⟩
theorem B24_eq : B24 = .seq (cl B24) (.seq (cl (cr B24)) (.block 0 (.loop LB))) := by kernel_rfl
theorem LB_eq : LB = .seq (cl LB) (.seq (.block 1 (.seq (cl (cb (cl (cr LB)))) (.seq (.region 5 R5 false) (.cond (.tmp 32) .ret .skip)))) (cr (cr LB))) := by kernel_rfl
theorem R5_size : R5.size = 9 := by kernel_rfl
theorem R7_size : R7.size = 7 := by kernel_rfl
theorem f24_at : Pr.funcs[24]? = some Go.Proofs.Try.f24 := by kernel_rfl
theorem fr_get_frL {l : Nat} {hh : List (BitVec 8)} {z : Int} {g : Fm} (h0 : g 0 = some (.yld l)) (h3 : g 3 = some (.str hh)) (h4 : g 4 = some (.int .i64 z)) : ∀ t v, (frL l hh z).get t = some v → g t = some v ∧ v.free = true := by
  intro t v hv
  unfold frL at hv
  rw [Fr.get_cons] at hv
  split at hv
  · rename_i e; subst e; cases hv; exact ⟨h0, rfl⟩
  rw [Fr.get_cons] at hv
  split at hv
  · rename_i e; subst e; cases hv; exact ⟨h3, rfl⟩
  rw [Fr.get_cons] at hv
  split at hv
  · rename_i e; subst e; cases hv; exact ⟨h4, rfl⟩
  cases hv

/-- between two rounds -/
structure Inv (l : Nat) (hh : List (BitVec 8)) (J : List Pl → World → Prop) (k : Nat) (a : Act) (w : World) : Prop where
  size : a.tmps.size = 33
  defers : a.defers = []
  fr : FRel (fun _ => False) w (fun _ => none) (frL l hh ((2 * k : Nat) : Int)).get a
  j : J ((plL hh).take k) w

theorem take_succ (hh : List (BitVec 8)) (k : Nat) (hk : k < 3) : (plL hh).take k ++ [plOf hh k] = (plL hh).take (k + 1) := by
  rcases (show k = 0 ∨ k = 1 ∨ k = 2 by omega) with rfl | rfl | rfl <;> rfl

theorem Inv.sim {l : Nat} {hh : List (BitVec 8)} {J : List Pl → World → Prop} {k : Nat} {a : Act} {w : World} (H : Inv l hh J k a w) : Sim 33 [] (fun _ => none) (fun _ => False) w a (frL l hh ((2 * k : Nat) : Int)).get [] (fun _ => False) :=
  ⟨H.size, H.defers, H.fr, .nil _ _⟩

section
variable {z : Int} {l : Nat} {J Jx : List Pl → World → Prop} {B : Nat} {hh : List (BitVec 8)}
abbrev PostR (hh : List (BitVec 8)) (J Jx : List Pl → World → Prop) : Ending → World → Prop := fun e W' => (∃ v, e = .returned v) ∧ ((∃ xs, xs = plL hh ∧ J xs W') ∨ (∃ pre, (∃ k, k < (plL hh).length ∧ pre = (plL hh).take (k + 1)) ∧ Jx pre W'))
theorem leaves_end {a : Act} {w : World} (hd : a.defers = []) (H : (∃ xs, xs = plL hh ∧ J xs w) ∨ (∃ pre, (∃ k, k < (plL hh).length ∧ pre = (plL hh).take (k + 1)) ∧ Jx pre w)) :
    LeavesInM Fence.wide 2 Pr Go.Proofs.Try.f24 a.tmps (PostR hh J Jx) a.defers .returning w := by
  rw [hd]
  obtain ⟨v', h1, _⟩ := resV_sound (P := Pr) (fn := Go.Proofs.Try.f24) (ρ := fun _ => none) (I := fun _ => False) (w := w) (F := fun _ => False) (g := Fr.get []) (a := a) (h := []) (v := .tup []) (.nil _ _) (by intro t v h; cases h) (by kernel_rfl)
  exact ⟨v', h1, ⟨_, rfl⟩, H⟩
theorem post_no (hh : List (BitVec 8)) (J Jx : List Pl → World → Prop) (a : Act) (w : World) : ¬ bodyPostM Fence.wide 2 Pr Go.Proofs.Try.f24 (PostR hh J Jx) .outgrown a w := by
  rintro ⟨⟨v, hv⟩, _⟩; cases hv

def exOf : X → Exit
  | .normal => .normal
  | .exit id => .exit id
  | _ => .ret
theorem piece {c : Code} {fr fr2 : Fr} {x : X} (hfl : flatC c = true) (hd : dstsIn 33 c = true) (hx : (execB Pr OS noLoopsT 100 c fr []).is (x, fr2, [])) (hp : ∀ v, x ≠ .pan v) {ρ : Ren} {I : Nat → Prop} {w : World} {a : Act}
    (S : Sim 33 [] ρ I w a fr.get [] (fun _ => False)) {Q : Exit → Act → World → Prop} (hno : ∀ a w, ¬ Q .outgrown a w)
    (K : ∀ a' w', w.grownBy w' none → a'.tmps.size = 33 → a'.defers = [] → (∃ I' ρ', FRel I' w' ρ' fr2.get a') → Q (exOf x) a' w') : c.wpIn (FW none) 2 Pr Q a w := by
  refine execB_in (n0 := 0) OS_sound mixed hfl hd hx _ hno [] _ _ w a S ?_
  rintro y f g ρ1 I1 w1 a1 e ⟨rfl, hwk⟩ er s1 W1
  have fin : Weaker 33 0 f g fr2 [] → e = exOf y → Q e a1 w1 := by
    intro hwk he
    obtain ⟨ρ2, s2, W2⟩ := hwk [] ρ1 I1 w1 a1 s1
    rw [he]
    exact K a1 w1 ((W1.trans W2).full S.rel (Nat.le_refl _)).grown s2.size s2.defers ⟨_, _, s2.fr⟩
  cases y with
  | pan v => exact absurd rfl (hp v)
  | normal => exact fin hwk er
  | exit id => exact fin hwk er
  | ret => exact fin hwk er
theorem sim_free {fr fr2 : Fr} {w : World} {a : Act} (h1 : a.tmps.size = 33) (h2 : a.defers = []) (h3 : ∃ I' ρ', FRel I' w ρ' fr2.get a) (h4 : ∀ t v, fr.get t = some v → fr2.get t = some v ∧ v.free = true) :
    Sim 33 [] (fun _ => none) (fun _ => False) w a fr.get [] (fun _ => False) := by
  obtain ⟨I', ρ', h3⟩ := h3
  exact ⟨h1, h2, h3.free fr h4, .nil _ _⟩

def fr7 (l : Nat) (k : Nat) (n : Nat) (hh : List (BitVec 8)) : Fr := [(0, .yld l), (3, .str hh), (4, .int .i64 ((2 * k : Nat) : Int)), (24, .yld l), (27, .int .i64 ((255 - n / 8 : Nat) : Int)), (30, .u8 (1#8 <<< (n % 8)))]
def frN (l : Nat) (k : Nat) (n : Nat) (hh : List (BitVec 8)) : Fr := [(0, .yld l), (3, .str hh), (4, .int .i64 ((2 * k : Nat) : Int)), (5, .int .i64 (n : Int))]
theorem is_leaf1 {α : Type} {t : Tr α} {k : Bool} {a b : α} (h : t = .chk k (.leaf a)) (hk : k = true) (e : a = b) : t.is b := by
  rw [h, Tr.is_chk, Tr.is_leaf]; exact ⟨hk, e⟩

theorem r4_is (l k : Nat) (hh : List (BitVec 8)) (hk : k < 3) (hl : hh.length = 32) : ∃ fr2, (execB Pr OS noLoopsT 100 (cl (cb (cl (cr LB)))) (frL l hh ((2 * k : Nat) : Int)) []).is (X.normal, fr2, []) ∧ ∀ t v, (frN l k (nOf hh k) hh).get t = some v → fr2.get t = some v ∧ v.free = true := by
  have e1 : wrapI .i64 (((2 * k : Nat) : Int) + 1) = ((2 * k + 1 : Nat) : Int) := by rw [show ((2 * k : Nat) : Int) + 1 = ((2 * k + 1 : Nat) : Int) by omega]; exact wrapI_nat (by omega)
  have ht := it_r4 l hh k
  rw [e1, Int.toNat_natCast, num_eq, hl] at ht
  have hz : (OfNat.ofNat 0 : BitVec 8) = 0 := rfl
  rw [hz] at ht
  change Tr.prune Tr.Sh.any (execB Pr OS noLoopsT 100 (cl (cb (cl (cr LB)))) (frL l hh ((2 * k : Nat) : Int)) []) = _ at ht
  generalize hn : ((hh.getD (2 * k) 0).toNat * 256 + (hh.getD (2 * k + 1) 0).toNat) % 2048 = n at ht
  have hn' : nOf hh k = n := hn
  rw [hn']
  refine ⟨_, Tr.prune_is (is_leaf1 ht ?_ rfl), ?_⟩
  · simp only [Bool.and_true, Bool.and_eq_true, decide_eq_true_eq]
    omega
  · intro t v hv
    unfold frN at hv
    rw [Fr.get_cons] at hv
    split at hv
    · rename_i e; subst e; cases hv; exact ⟨rfl, rfl⟩
    rw [Fr.get_cons] at hv
    split at hv
    · rename_i e; subst e; cases hv; exact ⟨rfl, rfl⟩
    rw [Fr.get_cons] at hv
    split at hv
    · rename_i e; subst e; cases hv; exact ⟨rfl, rfl⟩
    rw [Fr.get_cons] at hv
    split at hv
    · rename_i e; subst e; cases hv; exact ⟨rfl, rfl⟩
    cases hv
theorem r7_run (l k n : Nat) (hh : List (BitVec 8)) (hn : n < 2048) : ∃ fr', runRegion Pr OS.o R7 false (frN l k n hh) [] = some (true, none, fr', []) ∧ (∀ t v, (fr7 l k n hh).get t = some v → fr'.get t = some v ∧ v.free = true) := by
  have q1 : wrapI .i64 ((n : Int).tdiv 8) = ((n / 8 : Nat) : Int) := by rw [tdiv_lit]; exact wrapI_nat (by omega)
  have q2 : wrapI .i64 ((255 : Int) - ((n / 8 : Nat) : Int)) = ((255 - n / 8 : Nat) : Int) := by rw [show (255 : Int) - ((n / 8 : Nat) : Int) = ((255 - n / 8 : Nat) : Int) by omega]; exact wrapI_nat (by omega)
  have q3 : (n : Int).tmod 8 = ((n % 8 : Nat) : Int) := by rw [tmod_lit]
  have ht := it_r7 l hh k n
  rw [q1, q2, q3, Int.toNat_natCast] at ht
  change Tr.prune Tr.Sh.any (execB Pr OS noLoopsT 100 (.region 5 R7 false) (frN l k n hh) []) = _ at ht
  have h7' := execB_is (Tr.prune_is (is_leaf1 ht rfl rfl))
  simp only [execD] at h7'
  split at h7' <;> simp only [Option.some.injEq, Prod.mk.injEq, reduceCtorEq] at h7'
  · rename_i q f g hr
    obtain ⟨rfl, _, rfl, rfl⟩ := h7'
    refine ⟨_, hr, ?_⟩
    intro t v hv
    unfold fr7 at hv
    rw [Fr.get_cons] at hv
    split at hv
    · rename_i e; subst e; cases hv; exact ⟨rfl, rfl⟩
    rw [Fr.get_cons] at hv
    split at hv
    · rename_i e; subst e; cases hv; exact ⟨rfl, rfl⟩
    rw [Fr.get_cons] at hv
    split at hv
    · rename_i e; subst e; cases hv; exact ⟨rfl, rfl⟩
    rw [Fr.get_cons] at hv
    split at hv
    · rename_i e; subst e; cases hv; exact ⟨rfl, rfl⟩
    rw [Fr.get_cons] at hv
    split at hv
    · rename_i e; subst e; cases hv; exact ⟨rfl, rfl⟩
    rw [Fr.get_cons] at hv
    split at hv
    · rename_i e; subst e; cases hv; exact ⟨rfl, rfl⟩
    cases hv
  · exact h7'.2.1.elim
theorem r3_is (l k : Nat) (hh : List (BitVec 8)) (hk : k < 3) : ∃ fr2, (execB Pr OS noLoopsT 100 (cr (cr LB)) (frL l hh ((2 * k : Nat) : Int)) []).is (X.normal, fr2, []) ∧ ∀ t v, (frL l hh ((2 * (k + 1) : Nat) : Int)).get t = some v → fr2.get t = some v ∧ v.free = true := by
  have e2 : wrapI .i64 (((2 * k : Nat) : Int) + 2) = ((2 * (k + 1) : Nat) : Int) := by rw [show ((2 * k : Nat) : Int) + 2 = ((2 * (k + 1) : Nat) : Int) by omega]; exact wrapI_nat (by omega)
  have ht := it_r3 l hh k
  rw [e2] at ht
  change Tr.prune Tr.Sh.any (execB Pr OS noLoopsT 100 (cr (cr LB)) (frL l hh ((2 * k : Nat) : Int)) []) = _ at ht
  exact ⟨_, Tr.prune_is (is_leaf1 ht rfl rfl), fr_get_frL rfl rfl rfl⟩

theorem eval_free {w : World} {a : Act} {fr : Fr} (F : FRel (fun _ => False) w (fun _ => none) fr.get a) {t : Nat} {v : V} (h : fr.get t = some v) : VRel (fun _ => False) w (fun _ => none) v (a.eval (.tmp t)) := F t v h

/-- behind the call -/
theorem behind {w3 w4 : World} {a3 : Act} {fr : Fr} (S3 : Sim 33 [] (fun _ => none) (fun _ => False) w3 a3 fr.get [] (fun _ => False)) (hfr : ∀ t v, (frL l hh z).get t = some v → fr.get t = some v ∧ v.free = true) (b : Bool) {next : Act → World → Prop} {Q : Exit → Act → World → Prop}
    (hR : ∀ a5 : Act, a5.tmps.size = 33 → a5.defers = [] → a5.eval (.tmp 32) = .bool (!b) → FRel (fun _ => False) w4 (fun _ => none) (frL l hh z).get a5 → next a5 w4) :
    op8.wpIn (FW none) 2 Pr (a3.put op7.dst (.bool b)) w4 next Q := by
  refine ⟨fun _ _ => trivial, ?_⟩
  rw [Oper.semAt_eq _ _ _ (noDefer_iff op8_nd)]
  have hf4 : FRel (fun _ => False) w4 (fun _ => none) (Fr.get [(31, .bool b)]) (a3.put op7.dst (.bool b)) := by
    intro t v hv
    rw [Fr.get_cons] at hv
    split at hv
    · rename_i e; subst e; cases hv
      rw [op7_dst]
      simp [Act.put, S3.size, VRel.bool]
    · cases hv
  obtain ⟨v', e1, e2⟩ := Go.Lh.stepT_sound (P := Pr) hf4 (op8_st b)
  rw [e1, Oper.uponIn_value]
  refine hR _ ?_ ?_ ?_ ?_
  · rw [op8_dst, op7_dst]; simp [Act.put, S3.size]
  · rw [op8_dst, op7_dst]; exact S3.defers
  · rw [op8_dst, op7_dst]
    cases e2
    simp [Act.put, Act.eval, S3.size]
  · have f0 := S3.fr.free (I' := fun _ => False) (w' := w4) (ρ' := fun _ => none) (frL l hh z) hfr
    intro t v hv
    have ht' : t = 0 ∨ t = 3 ∨ t = 4 := by
      have hv' := hv
      unfold frL at hv'
      rw [Fr.get_cons] at hv'
      split at hv'
      · omega
      rw [Fr.get_cons] at hv'
      split at hv'
      · omega
      rw [Fr.get_cons] at hv'
      split at hv'
      · omega
      cases hv'
    have := f0 t v hv
    rw [op8_dst, op7_dst]
    simp only [Act.put, Array.getD_eq_getD_getElem?, Array.getElem?_setIfInBounds] at this ⊢
    rw [if_neg (by omega), if_neg (by omega)]
    exact this

abbrev PB (hh : List (BitVec 8)) (J Jx : List Pl → World → Prop) := bodyPostM Fence.wide 2 Pr Go.Proofs.Try.f24 (PostR hh J Jx)
theorem round_in (hB : AbidesFrom B J) (hBx : AbidesFrom B Jx)
    (hY : ∀ pre x W1, J pre W1 → pre.length < 3 → YieldAt Fence.wide 1 Pr l (encP x) W1 fun e W' => (e = .returned (.bool true) ∧ J (pre ++ [x]) W' ∧ KeepsWalks W1 W') ∨ (e = .returned (.bool false) ∧ Jx (pre ++ [x]) W'))
    (k : Nat) (hk : k ≤ 3) (a : Act) (w : World) (H : Inv l hh J k a w) (hl : hh.length = 32) :
    LB.wpIn (FW none) 2 Pr (Exit.then (fun a' w' => k < 3 ∧ Inv l hh J (k + 1) a' w') (Exit.inBlock 0 (PB hh J Jx))) a w := by
  rw [LB_eq]
  refine wpIn_seq ?_
  have hhd := it_hd l hh k
  have hno := post_no hh J Jx
  change Tr.prune (Tr.Sh.any.both Tr.Sh.any) (execB Pr OS noLoopsT 100 (cl LB) (frL l hh ((2 * k : Nat) : Int)) []) = _ at hhd
  by_cases h3 : k < 3
  · -- another round
    have h1 : (execB Pr OS noLoopsT 100 (cl LB) (frL l hh ((2 * k : Nat) : Int)) []).is (X.normal, [(0, V.yld l), (3, V.str hh), (4, V.int IntKind.i64 ((2 * k : Nat) : Int)), (8, V.int IntKind.i64 ((2 * k : Nat) : Int)), (9, V.bool true)], []) := by
      refine Tr.prune_is (s := Tr.Sh.any.both Tr.Sh.any) ?_
      rw [hhd, Tr.is_chk, Tr.is_br, if_pos (by simp; omega), Tr.is_leaf]
      exact ⟨rfl, rfl⟩
    refine piece (by kernel_rfl) (by kernel_rfl) h1 (by simp) H.sim (fun a w h => hno a w h) ?_
    intro a1 w1 g1 z1 d1 f1
    have S1 := sim_free (fr := frL l hh ((2 * k : Nat) : Int)) z1 d1 f1 (fr_get_frL rfl rfl rfl)
    have j1 : J ((plL hh).take k) w1 := hB _ _ _ none H.j g1 (by intro r e; cases e)
    refine wpIn_seq (wpIn_block (wpIn_seq ?_))
    -- the number
    obtain ⟨fr2, h2, hf2⟩ := r4_is l k hh h3 hl
    refine piece (by kernel_rfl) (by kernel_rfl) h2 (by simp) S1 (fun a w h => hno a w h) ?_
    intro a2 w2 g2 z2 d2 f2
    have j2 : J ((plL hh).take k) w2 := hB _ _ _ none j1 g2 (by intro r e; cases e)
    have S2 := sim_free (fr := frN l k (nOf hh k) hh) z2 d2 f2 hf2
    -- up to the call
    show Code.wpIn (FW none) 2 Pr _ _ a2 w2
    refine wpIn_seq (wpIn_region ?_)
    rw [R5_size]
    show wpOpsIn (FW none) 2 Pr R5 _ (List.range 7 ++ [7, 8]) a2 w2
    obtain ⟨fr', hr7, hfr7⟩ := r7_run l k (nOf hh k) hh (nOf_lt hh k)
    refine ops_pre (ops7 := R7) (Q7 := fun e a w => e = .normal ∧ w2.grownBy w none ∧ Sim 33 [] (fun _ => none) (fun _ => False) w a (fr7 l k (nOf hh k) hh).get [] (fun _ => False)) (fun e a w h => h.1) [7, 8] ?_ (List.range 7) ?_ a2 w2 ?_
    · rintro a3 w3 ⟨_, g3, S3⟩
      have j3 : J ((plL hh).take k) w3 := hB _ _ _ none j2 g3 (by intro r e; cases e)
      have hy := hY _ (plOf hh k) w3 j3 (by simp; omega)
      have v24 : a3.eval (.tmp 24) = .func (.yield l) #[] #[] := by
        have := eval_free S3.fr (t := 24) (v := .yld l) rfl
        cases hx : a3.eval (.tmp 24) <;> rw [hx] at this <;> cases this <;> rfl
      have v27 : a3.eval (.tmp 27) = .int .i64 ((255 - nOf hh k / 8 : Nat) : Int) := by
        have := eval_free S3.fr (t := 27) (v := .int .i64 ((255 - nOf hh k / 8 : Nat) : Int)) rfl
        cases hx : a3.eval (.tmp 27) <;> rw [hx] at this <;> cases this <;> rfl
      have v30 : a3.eval (.tmp 30) = .int .u8 (1#8 <<< (nOf hh k % 8)).toNat := by
        have := eval_free S3.fr (t := 30) (v := .u8 (1#8 <<< (nOf hh k % 8))) rfl
        cases hx : a3.eval (.tmp 30) <;> rw [hx] at this <;> cases this <;> rfl
      have hwant : ∀ (o : Oper) y, o.guard = none → Region.wanted o y = true := by intro o y h; unfold Region.wanted; rw [h]
      have hf3 : ∀ t v, (frL l hh ((2 * k : Nat) : Int)).get t = some v → (fr7 l k (nOf hh k) hh).get t = some v ∧ v.free = true := fr_get_frL rfl rfl rfl
      simp only [wpOpsIn, R5_7, R5_8, hwant op7 _ op7_g, hwant op8 _ op8_g, if_true]
      refine yield_in op7_op v24 v27 v30 hy ?_
      rintro e w4 (⟨rfl, hj, _⟩ | ⟨rfl, hjx⟩)
      · refine ⟨_, rfl, behind S3 hf3 true ?_⟩
        rw [take_succ _ _ h3] at hj
        intro a5 z5 d5 v5 f5
        refine wpIn_cond (t := false) v5 (wpIn_skip ?_)
        show Code.wpIn (FW none) 2 Pr (cr (cr LB)) _ a5 w4
        obtain ⟨fr9, h9, hf9⟩ := r3_is l k hh h3
        refine piece (by kernel_rfl) (by kernel_rfl) h9 (by simp) ⟨z5, d5, f5, .nil _ _⟩ (fun a w h => hno a w h) ?_
        intro a6 w6 g6 z6 d6 f6
        have S6 := sim_free (fr := frL l hh ((2 * (k + 1) : Nat) : Int)) z6 d6 f6 hf9
        exact ⟨h3, ⟨S6.size, S6.defers, S6.fr, hB _ _ _ none hj g6 (by intro r e; cases e)⟩⟩
      · refine ⟨_, rfl, behind S3 hf3 false ?_⟩
        rw [take_succ _ _ h3] at hjx
        intro a5 z5 d5 v5 f5
        refine wpIn_cond (t := true) v5 (wpIn_ret ?_)
        exact leaves_end d5 (.inr ⟨_, ⟨k, h3, rfl⟩, hjx⟩)
    · intro i hi
      have hi := List.mem_range.1 hi
      obtain ⟨o, h1, h2, h3⟩ := R7_ok i hi
      exact ⟨o, h1, by rw [← R7_R5 i hi]; exact h1, h2, h3⟩
    · have := region_ops OS_sound (ops := R7) (Q := fun e a w => e = .normal ∧ w2.grownBy w none ∧ Sim 33 [] (fun _ => none) (fun _ => False) w a (fr7 l k (nOf hh k) hh).get [] (fun _ => False)) (N := 33) (by
        intro d hd
        have h : (R7.toList.filterMap (·.dst)).all (fun d => Nat.blt d 33) = true := by kernel_rfl
        have h2 := List.all_eq_true.1 h d hd
        rw [Nat.blt_eq] at h2; exact h2) S2 hr7 (fun ρ' I' w' a' s' W' => ⟨rfl, W'.grown, sim_free s'.size s'.defers ⟨_, _, s'.fr⟩ hfr7⟩)
      rw [R7_size] at this
      exact this
  · -- the end
    have h1 : (execB Pr OS noLoopsT 100 (cl LB) (frL l hh ((2 * k : Nat) : Int)) []).is (X.exit 0, [(0, V.yld l), (3, V.str hh), (4, V.int IntKind.i64 ((2 * k : Nat) : Int)), (8, V.int IntKind.i64 ((2 * k : Nat) : Int)), (9, V.bool false)], []) := by
      refine Tr.prune_is (s := Tr.Sh.any.both Tr.Sh.any) ?_
      rw [hhd, Tr.is_chk, Tr.is_br, if_neg (by simp; omega), Tr.is_leaf]
      exact ⟨rfl, rfl⟩
    refine piece (by kernel_rfl) (by kernel_rfl) h1 (by simp) H.sim (fun a w h => hno a w h) ?_
    intro a1 w1 g1 z1 d1 f1
    have j1 : J ((plL hh).take k) w1 := hB _ _ _ none H.j g1 (by intro r e; cases e)
    have : k = 3 := by omega
    subst this
    exact leaves_end d1 (.inl ⟨_, rfl, j1⟩)
end

theorem r0_is (l : Nat) (s : List (BitVec 8)) (hs : s.length ≤ 140737488351232) : ∃ fr2, (execB Pr OS noLoopsT 100 (cl B24) [(0, .yld l), (1, .iptr 1 1 (fun _ _ => .str s) 0 0)] []).is (X.normal, fr2, []) ∧ ∀ t v, Fr.get [(0, .yld l), (3, .str (sumO s))] t = some v → fr2.get t = some v ∧ v.free = true := by
  have ht := it_r0 l s
  generalize sumO s = hh at ht ⊢
  refine ⟨_, Tr.prune_is (is_leaf1 ht (by rw [Bool.and_true]; exact decide_eq_true hs) rfl), ?_⟩
  intro t v hv
  rw [Fr.get_cons] at hv
  split at hv
  · rename_i e; subst e; cases hv; exact ⟨rfl, rfl⟩
  rw [Fr.get_cons] at hv
  split at hv
  · rename_i e; subst e; cases hv; exact ⟨rfl, rfl⟩
  cases hv
theorem r1_is (l : Nat) (hh : List (BitVec 8)) : ∃ fr2, (execB Pr OS noLoopsT 100 (cl (cr B24)) [(0, .yld l), (3, .str hh)] []).is (X.normal, fr2, []) ∧ ∀ t v, (frL l hh 0).get t = some v → fr2.get t = some v ∧ v.free = true :=
  ⟨_, Tr.prune_is (is_leaf1 (it_r1 l hh) rfl rfl), fr_get_frL rfl rfl rfl⟩
theorem places_aux (s hh : List (BitVec 8)) (hl32 : hh.length = 32) (H0 : ∀ l, ∃ fr2, (execB Pr OS noLoopsT 100 (cl B24) [(0, .yld l), (1, .iptr 1 1 (fun _ _ => .str s) 0 0)] []).is (X.normal, fr2, []) ∧ ∀ t v, Fr.get [(0, .yld l), (3, .str hh)] t = some v → fr2.get t = some v ∧ v.free = true)
    {h : Heap} {i : Nat} (hi : h[i]? = some (.vals [.str s])) : Gives Pr 24 [.ptr i 0] h encP (plL hh) := by
  intro ρ I w lb R hc l J Jx W hW hJ hJx hY h0
  cases hc with
  | cons _ _ v' _ r' hv hr =>
  cases hr
  cases hv with
  | ptr _ _ _ loc hl =>
  obtain ⟨loc', hl', B, _⟩ := R.blk i _ hi (by simp)
  rw [hl] at hl'; cases hl'
  obtain ⟨C, e, fz, hC, h2, h3, h4⟩ := B.mem
  have hlt := (Array.getElem?_eq_some_iff.1 hC).1
  obtain ⟨c, hc1, hc2⟩ := h4 0 (by simp [Blk.len])
  have hc2 : VRel I w ρ (.str s) c := hc2
  have hk : W.heap[loc.b]? = w.heap[loc.b]? := hW.block _ hlt
  have hcell : W.cell? ⟨loc.b, loc.d + 0 + 0 * 1 + 0, none⟩ = some c := by
    simp only [World.cell?, hk, hC]
    simpa using hc1
  refine callsIn_of_wp_marks (n := 2) (P := Pr) (f := 24) f24_at (show Go.Proofs.Try.f24.body = some B24 by kernel_rfl) trivial ?_
  show Code.wpIn (FW none) 2 Pr B24 _ _ W
  have hno := post_no hh J Jx
  have S0 : Sim 33 [] (fun _ => none) (fun b => b = loc.b) W { tmps := (⟨[.func (.yield l) #[] #[], .pointer (some ⟨loc.b, loc.d + 0, none⟩)]⟩ : Array Value) ++ Array.replicate (33 - (⟨[.func (.yield l) #[] #[], .pointer (some ⟨loc.b, loc.d + 0, none⟩)]⟩ : Array Value).size) undef, defers := [] }
      (Fr.get [(0, .yld l), (1, .iptr 1 1 (fun _ _ => .str s) 0 0)]) [] (fun _ => False) := by
    refine ⟨by simp, rfl, ?_, .memo _ _ _ (fun b hb => by rw [hb]; exact Nat.lt_of_lt_of_le hlt hW.size)⟩
    refine frel_args (args := [.yld l, .iptr 1 1 (fun _ _ => .str s) 0 0]) (.cons _ _ _ _ _ (.yld _ _) (.cons _ _ _ _ _ ?_ (.nil _))) 33
    exact VRel.iptr _ 1 1 (fun _ _ => .str s) loc.b (loc.d + 0) 0 0 (fun _ _ => c) rfl (fun i j hi hj => by
      have : i = 0 := by omega
      have : j = 0 := by omega
      subst_vars; exact hcell) (fun i j hi hj => VRel.free hc2 rfl)
  rw [B24_eq]
  refine wpIn_seq ?_
  obtain ⟨fr0, hx0, hf0⟩ := H0 l
  refine piece (by kernel_rfl) (by kernel_rfl) hx0 (by simp) S0 (fun a w h => hno a w h) ?_
  intro a1 w1 g1 z1 d1 f1
  have j1 : J [] w1 := hJ _ _ _ none h0 g1 (by intro r e; cases e)
  have S1 := sim_free (fr := [(0, .yld l), (3, .str hh)]) z1 d1 f1 hf0
  show Code.wpIn (FW none) 2 Pr _ _ a1 w1
  refine wpIn_seq ?_
  obtain ⟨fr1, hx1, hf1⟩ := r1_is l hh
  refine piece (by kernel_rfl) (by kernel_rfl) hx1 (by simp) S1 (fun a w h => hno a w h) ?_
  intro a2 w2 g2 z2 d2 f2
  have j2 : J [] w2 := hJ _ _ _ none j1 g2 (by intro r e; cases e)
  have S2 := sim_free (fr := frL l hh 0) z2 d2 f2 hf1
  show Code.wpIn (FW none) 2 Pr _ _ a2 w2
  refine wpIn_block (wpIn_loop_idx (k := 3) (fun m a w => ∃ k, k ≤ 3 ∧ m = 3 - k ∧ Inv l hh J k a w) ⟨0, by omega, rfl, ⟨S2.size, S2.defers, S2.fr, j2⟩⟩ ?_)
  rintro m a w ⟨k, hk, rfl, H⟩
  refine wpIn_mono (round_in hJ hJx hY k hk a w H hl32) ?_
  intro e a' w' he
  cases e with
  | normal => exact ⟨3 - (k + 1), by have := he.1; omega, k + 1, by have := he.1; omega, rfl, he.2⟩
  | _ => exact he
theorem places_gives (s : List (BitVec 8)) (hs : s.length ≤ 140737488351232) {h : Heap} {i : Nat} (hi : h[i]? = some (.vals [.str s])) : Gives Pr 24 [.ptr i 0] h encP (plL (sumO s)) :=
  places_aux s _ (by unfold sumO; rw [outN_length]; rfl) (fun l => r0_is l s hs) hi
end
end Go.Proofs.Ytklgiongdiojcaa.K
end
section
open Go Go.Lh Go.Lh.Bl
namespace Go.Proofs.Ytklgiongdiojcaa.K
noncomputable section
set_option maxRecDepth 100000
def OP : OrcT := autoT Pr noExt [] [19] 2
theorem OP_sound : OrcSound Pr OP.o := autoT_sound mixed noExt_ok KOkT.nil (by kernel_rfl) 2
def B18 : Code := Go.Proofs.Try.f18.body.getD .skip
def rfB : Code → Code | .rangeFunc _ _ _ b => b | c => c
def rfA : Code → Code | .rangeFunc _ _ a _ => a | c => c
def L18 : Code := rfB (cb (cr (cr B18)))
theorem set_r (s : List (BitVec 8)) (xs : List (BitVec 8)) : Tr.prune (Tr.Sh.any)
  (execB Pr OP noLoopsT (100 : Nat) ((cl B18).seq (cl (cr B18)))
  [((0 : Nat), V.ptr (0 : Nat) (0 : Nat)), ((1 : Nat), V.str s)] [Blk.b8 xs]) =
  Tr.chk true
  (Tr.leaf
    (X.normal,
      [((0 : Nat), V.ptr (0 : Nat) (0 : Nat)), ((1 : Nat), V.str s), ((2 : Nat), V.ptr (1 : Nat) (0 : Nat)),
        ((6 : Nat), V.str s), ((7 : Nat), V.fn (24 : Nat) [] [V.ptr (2 : Nat) (0 : Nat)])],
      [Blk.b8 xs, Blk.vals [V.ptr (0 : Nat) (0 : Nat)], Blk.vals [V.str s]])) := by kernel_rfl
theorem set_b (s : List (BitVec 8)) (xs : List (BitVec 8)) (k : Nat) (b : BitVec 8) : Tr.prune (Tr.Sh.any)
  (execB Pr OP noLoopsT (100 : Nat) L18
  [((0 : Nat), V.ptr (0 : Nat) (0 : Nat)), ((1 : Nat), V.str s), ((2 : Nat), V.ptr (1 : Nat) (0 : Nat)),
    ((6 : Nat), V.str s), ((7 : Nat), V.fn (24 : FuncId) [] [V.ptr (2 : Nat) (0 : Nat)]),
    ((8 : Nat), V.int IntKind.i64 (↑k : Int)), ((9 : Nat), V.u8 b), ((4 : Nat), V.int IntKind.i64 (↑k : Int)),
    ((5 : Nat), V.u8 b)]
  [Blk.b8 xs, Blk.vals [V.ptr (0 : Nat) (0 : Nat)], Blk.vals [V.str s]]) =
  Tr.chk
  (decide ((↑k : Int) < (256 : Int)) &&
    (decide ((0 : Nat) + k * (1 : Nat) < xs.length) &&
      (decide ((↑k : Int) < (256 : Int)) && decide ((0 : Nat) + k * (1 : Nat) + (1 : Nat) ≤ xs.length))))
  (Tr.leaf
    (X.normal,
      [((0 : Nat), V.ptr (0 : Nat) (0 : Nat)), ((1 : Nat), V.str s), ((2 : Nat), V.ptr (1 : Nat) (0 : Nat)),
        ((6 : Nat), V.str s), ((7 : Nat), V.fn (24 : Nat) [] [V.ptr (2 : Nat) (0 : Nat)]),
        ((8 : Nat), V.int IntKind.i64 (↑k : Int)), ((9 : Nat), V.u8 b), ((4 : Nat), V.int IntKind.i64 (↑k : Int)),
        ((5 : Nat), V.u8 b), ((10 : Nat), V.ptr (0 : Nat) (0 : Nat)), ((11 : Nat), V.int IntKind.i64 (↑k : Int)),
        ((12 : Nat), V.ptr (0 : Nat) (0 : Nat)), ((13 : Nat), V.ptr (0 : Nat) ((0 : Nat) + k * (1 : Nat))),
        ((14 : Nat), V.u8 (xs.getD ((0 : Nat) + k * (1 : Nat)) (OfNat.ofNat (0 : Nat)))), ((15 : Nat), V.u8 b),
        ((16 : Nat), V.u8 (xs.getD ((0 : Nat) + k * (1 : Nat)) (OfNat.ofNat (0 : Nat)) ||| b)),
        ((17 : Nat), V.ptr (0 : Nat) (0 : Nat)), ((18 : Nat), V.ptr (0 : Nat) ((0 : Nat) + k * (1 : Nat)))],
      [Blk.b8 (xs.set ((0 : Nat) + k * (1 : Nat)) (xs.getD ((0 : Nat) + k * (1 : Nat)) (OfNat.ofNat (0 : Nat)) ||| b)),
        Blk.vals [V.ptr (0 : Nat) (0 : Nat)], Blk.vals [V.str s]])) := by kernel_rfl
def B10 : Code := Go.Proofs.Try.f10.body.getD .skip
def D10 : Code := cl (cr B10)
def L10 : Code := rfB (cb (cr (cl (cr (cr B10)))))
def E10 : Code := cr (cr (cr B10))
theorem has_r0 (s : List (BitVec 8)) (xs : List (BitVec 8)) : Tr.prune (Tr.Sh.any)
  (execB Pr OP noLoopsT (100 : Nat) (cl B10) [((0 : Nat), V.str xs), ((1 : Nat), V.str s)] []) =
  Tr.chk true
  (Tr.leaf
    (X.normal,
      [((0 : Nat), V.str xs), ((1 : Nat), V.str s), ((2 : Nat), V.ptr (0 : Nat) (0 : Nat)),
        ((4 : Nat), V.ptr (1 : Nat) (0 : Nat))],
      [Blk.vals [V.str xs], Blk.vals [V.bool false]])) := by kernel_rfl
theorem has_d (s : List (BitVec 8)) (xs : List (BitVec 8)) : Tr.prune (Tr.Sh.any.both Tr.Sh.any)
  (execB Pr OP noLoopsT (100 : Nat) D10
  [((0 : Nat), V.str xs), ((1 : Nat), V.str s), ((2 : Nat), V.ptr (0 : Nat) (0 : Nat)),
    ((4 : Nat), V.ptr (1 : Nat) (0 : Nat))]
  [Blk.vals [V.str xs], Blk.vals [V.bool false]]) =
  Tr.chk true
  (Tr.br ((↑xs.length : Int) != (256 : Int))
    (Tr.chk true
      (Tr.leaf
        (X.ret,
          [((0 : Nat), V.str xs), ((1 : Nat), V.str s), ((2 : Nat), V.ptr (0 : Nat) (0 : Nat)),
            ((4 : Nat), V.ptr (1 : Nat) (0 : Nat)), ((7 : Nat), V.str xs),
            ((8 : Nat), V.int IntKind.i64 (↑xs.length : Int)), ((9 : Nat), V.bool true)],
          [Blk.vals [V.str xs], Blk.vals [V.bool false]])))
    (Tr.leaf
      (X.normal,
        [((0 : Nat), V.str xs), ((1 : Nat), V.str s), ((2 : Nat), V.ptr (0 : Nat) (0 : Nat)),
          ((4 : Nat), V.ptr (1 : Nat) (0 : Nat)), ((7 : Nat), V.str xs),
          ((8 : Nat), V.int IntKind.i64 (↑xs.length : Int)), ((9 : Nat), V.bool false)],
        [Blk.vals [V.str xs], Blk.vals [V.bool false]]))) := by kernel_rfl
theorem has_r3 (s : List (BitVec 8)) (xs : List (BitVec 8)) : Tr.prune (Tr.Sh.any)
  (execB Pr OP noLoopsT (100 : Nat) (cl (cl (cr (cr B10))))
  [((0 : Nat), V.str xs), ((1 : Nat), V.str s), ((2 : Nat), V.ptr (0 : Nat) (0 : Nat)),
    ((4 : Nat), V.ptr (1 : Nat) (0 : Nat)), ((7 : Nat), V.str xs), ((8 : Nat), V.int IntKind.i64 (↑xs.length : Int)),
    ((9 : Nat), V.bool false)]
  [Blk.vals [V.str xs], Blk.vals [V.bool false]]) =
  Tr.chk true
  (Tr.leaf
    (X.normal,
      [((0 : Nat), V.str xs), ((1 : Nat), V.str s), ((2 : Nat), V.ptr (0 : Nat) (0 : Nat)),
        ((4 : Nat), V.ptr (1 : Nat) (0 : Nat)), ((7 : Nat), V.str xs),
        ((8 : Nat), V.int IntKind.i64 (↑xs.length : Int)), ((9 : Nat), V.bool false), ((10 : Nat), V.str s),
        ((11 : Nat), V.fn (24 : Nat) [] [V.ptr (2 : Nat) (0 : Nat)])],
      [Blk.vals [V.str xs], Blk.vals [V.bool false], Blk.vals [V.str s]])) := by kernel_rfl
theorem has_b (s : List (BitVec 8)) (xs : List (BitVec 8)) (k : Nat) (b : BitVec 8) : Tr.prune (Tr.Sh.any.both
  Tr.Sh.any)
  (execB Pr OP noLoopsT (100 : Nat) L10
  [((0 : Nat), V.str xs), ((1 : Nat), V.str s), ((2 : Nat), V.ptr (0 : Nat) (0 : Nat)),
    ((4 : Nat), V.ptr (1 : Nat) (0 : Nat)), ((7 : Nat), V.str xs), ((8 : Nat), V.int IntKind.i64 (↑xs.length : Int)),
    ((9 : Nat), V.bool false), ((10 : Nat), V.str s), ((11 : Nat), V.fn (24 : FuncId) [] [V.ptr (2 : Nat) (0 : Nat)]),
    ((12 : Nat), V.int IntKind.i64 (↑k : Int)), ((13 : Nat), V.u8 b), ((5 : Nat), V.int IntKind.i64 (↑k : Int)),
    ((6 : Nat), V.u8 b)]
  [Blk.vals [V.str xs], Blk.vals [V.bool false], Blk.vals [V.str s]]) =
  Tr.chk (decide ((↑k : Int) < (↑xs.length : Int)) && true)
  (Tr.br (xs.getD k (OfNat.ofNat (0 : Nat)) &&& b == BitVec.ofInt (8 : Nat) (0 : Int))
    (Tr.chk true
      (Tr.leaf
        (X.ret,
          [((0 : Nat), V.str xs), ((1 : Nat), V.str s), ((2 : Nat), V.ptr (0 : Nat) (0 : Nat)),
            ((4 : Nat), V.ptr (1 : Nat) (0 : Nat)), ((7 : Nat), V.str xs),
            ((8 : Nat), V.int IntKind.i64 (↑xs.length : Int)), ((9 : Nat), V.bool false), ((10 : Nat), V.str s),
            ((11 : Nat), V.fn (24 : Nat) [] [V.ptr (2 : Nat) (0 : Nat)]), ((12 : Nat), V.int IntKind.i64 (↑k : Int)),
            ((13 : Nat), V.u8 b), ((5 : Nat), V.int IntKind.i64 (↑k : Int)), ((6 : Nat), V.u8 b),
            ((14 : Nat), V.str xs), ((15 : Nat), V.int IntKind.i64 (↑k : Int)),
            ((16 : Nat), V.u8 (xs.getD k (OfNat.ofNat (0 : Nat)))), ((17 : Nat), V.u8 b),
            ((18 : Nat), V.u8 (xs.getD k (OfNat.ofNat (0 : Nat)) &&& b)), ((19 : Nat), V.bool true)],
          [Blk.vals [V.str xs], Blk.vals [V.bool false], Blk.vals [V.str s]])))
    (Tr.leaf
      (X.normal,
        [((0 : Nat), V.str xs), ((1 : Nat), V.str s), ((2 : Nat), V.ptr (0 : Nat) (0 : Nat)),
          ((4 : Nat), V.ptr (1 : Nat) (0 : Nat)), ((7 : Nat), V.str xs),
          ((8 : Nat), V.int IntKind.i64 (↑xs.length : Int)), ((9 : Nat), V.bool false), ((10 : Nat), V.str s),
          ((11 : Nat), V.fn (24 : Nat) [] [V.ptr (2 : Nat) (0 : Nat)]), ((12 : Nat), V.int IntKind.i64 (↑k : Int)),
          ((13 : Nat), V.u8 b), ((5 : Nat), V.int IntKind.i64 (↑k : Int)), ((6 : Nat), V.u8 b), ((14 : Nat), V.str xs),
          ((15 : Nat), V.int IntKind.i64 (↑k : Int)), ((16 : Nat), V.u8 (xs.getD k (OfNat.ofNat (0 : Nat)))),
          ((17 : Nat), V.u8 b), ((18 : Nat), V.u8 (xs.getD k (OfNat.ofNat (0 : Nat)) &&& b)),
          ((19 : Nat), V.bool false)],
        [Blk.vals [V.str xs], Blk.vals [V.bool false], Blk.vals [V.str s]]))) := by kernel_rfl
theorem has_e (s : List (BitVec 8)) (xs : List (BitVec 8)) : Tr.prune (Tr.Sh.any)
  (execB Pr OP noLoopsT (100 : Nat) E10
  [((0 : Nat), V.str xs), ((1 : Nat), V.str s), ((2 : Nat), V.ptr (0 : Nat) (0 : Nat)),
    ((4 : Nat), V.ptr (1 : Nat) (0 : Nat)), ((7 : Nat), V.str xs), ((8 : Nat), V.int IntKind.i64 (↑xs.length : Int)),
    ((9 : Nat), V.bool false), ((10 : Nat), V.str s), ((11 : Nat), V.fn (24 : FuncId) [] [V.ptr (2 : Nat) (0 : Nat)])]
  [Blk.vals [V.str xs], Blk.vals [V.bool false], Blk.vals [V.str s]]) =
  Tr.chk true
  (Tr.leaf
    (X.ret,
      [((0 : Nat), V.str xs), ((1 : Nat), V.str s), ((2 : Nat), V.ptr (0 : Nat) (0 : Nat)),
        ((4 : Nat), V.ptr (1 : Nat) (0 : Nat)), ((7 : Nat), V.str xs),
        ((8 : Nat), V.int IntKind.i64 (↑xs.length : Int)), ((9 : Nat), V.bool false), ((10 : Nat), V.str s),
        ((11 : Nat), V.fn (24 : Nat) [] [V.ptr (2 : Nat) (0 : Nat)])],
      [Blk.vals [V.str xs], Blk.vals [V.bool true], Blk.vals [V.str s]])) := by kernel_rfl
end
end Go.Proofs.Ytklgiongdiojcaa.K
end
section
open Go Go.Lh Go.Lh.Bl
namespace Go.Proofs.Ytklgiongdiojcaa.K
noncomputable section
set_option maxRecDepth 100000
theorem runs_of {N n0 : Nat} {c : Code} {fr : Fr} {h : Heap} {x : X} {fr' : Fr} {h' : Heap} (hl : loopsOf c = []) (hd : dstsIn N c = true) (hx : (execB Pr OP noLoopsT 100 c fr h).is (x, fr', h')) {R : X → Fr → Heap → Prop} (hR : ∀ y f g, EndW N n0 x fr' h' y f g → R y f g) : Runs Pr N n0 c fr h R :=
  (execD_sound OP_sound mixed c (fun d hd => by rw [hl] at hd; simp at hd) fr h x fr' h' hd (execB_is hx)).mono hR
def fold1 (xs : List (BitVec 8)) (pre : List Pl) : List (BitVec 8) := pre.foldl (fun xs p => set1 xs p.k p.b) xs
theorem fold1_length (pre : List Pl) : ∀ xs : List (BitVec 8), (fold1 xs pre).length = xs.length := by
  induction pre with
  | nil => intro xs; rfl
  | cons p r ih => intro xs; show (fold1 (set1 xs p.k p.b) r).length = _; rw [ih, len1]
theorem fold1_snoc (xs : List (BitVec 8)) (pre : List Pl) (p : Pl) : fold1 xs (pre ++ [p]) = set1 (fold1 xs pre) p.k p.b := by simp [fold1]
theorem fold1_plL (xs hh : List (BitVec 8)) : fold1 xs (plL hh) = setL xs hh := rfl
theorem B18_eq : B18 = .seq (cl B18) (.seq (cl (cr B18)) (.block 0 (.rangeFunc (.tmp 7) #[8, 9] (.seq (.region 2 #[(match cl (rfA (cb (cr (cr B18)))) with | .region _ ops _ => ops[0]?.getD default | _ => default)] false) (.region 3 #[(match cr (rfA (cb (cr (cr B18)))) with | .region _ ops _ => ops[0]?.getD default | _ => default)] false)) L18))) := by kernel_rfl
def oS1 : Oper := match cl (rfA (cb (cr (cr B18)))) with | .region _ ops _ => ops[0]?.getD default | _ => default
def oS2 : Oper := match cr (rfA (cb (cr (cr B18)))) with | .region _ ops _ => ops[0]?.getD default | _ => default
theorem B18_eq' : B18 = .seq (cl B18) (.seq (cl (cr B18)) (.block 0 (.rangeFunc (.tmp 7) #[8, 9] (.seq (.region 2 #[oS1] false) (.region 3 #[oS2] false)) L18))) := B18_eq
theorem f24_en : Enters Pr 24 := Enters.of (fn := Go.Proofs.Try.f24) (by kernel_rfl) (by kernel_rfl)
theorem pl_v (I : Nat → Prop) (w : World) (ρ : Ren) (x : Pl) : VRel I w ρ (.int .i64 (x.k : Int)) (.int .i64 (x.k : Int)) ∧ VRel I w ρ (.u8 x.b) (.int .u8 x.b.toNat) := ⟨.int _ _ _ rfl, .u8 _ _⟩

theorem set_aux (s xs hh : List (BitVec 8)) (hx : xs.length = 256) (hG : ∀ {h : Heap} {i : Nat}, h[i]? = some (.vals [.str s]) → Gives Pr 24 [.ptr i 0] h encP (plL hh)) : LFn Pr 18 [.ptr 0 0, .str s] [.b8 xs] (.ret (.tup [])) [.b8 (setL xs hh)] := by
  have ht := set_r s xs
  have hr0 := Tr.prune_is (is_leaf1 ht rfl rfl)
  rw [execB, Tr.is_bind] at hr0
  refine fnM (r := (.ret (.tup []), [.b8 (setL xs hh)])) (show Pr.funcs[18]? = some Go.Proofs.Try.f18 by kernel_rfl) (show Go.Proofs.Try.f18.body = some B18 by kernel_rfl) (Nat.le_of_ble_eq_true (by kernel_rfl)) ?_
  rw [B18_eq']
  obtain ⟨⟨x0, f0, g0⟩, ha, hb⟩ := hr0
  have hx0 : x0 = .normal := by
    cases x0 with
    | normal => rfl
    | exit _ => rw [Tr.is_leaf] at hb; cases hb
    | ret => rw [Tr.is_leaf] at hb; cases hb
    | pan _ => rw [Tr.is_leaf] at hb; cases hb
  subst hx0
  simp only at hb
  refine .seq1 (runs_of (by kernel_rfl) (by kernel_rfl) ha ?_)
  rintro y f g ⟨rfl, hwk⟩
  refine RunsM.weaken hwk (.seq1 (runs_of (by kernel_rfl) (by kernel_rfl) hb ?_))
  rintro y f g ⟨rfl, hwk⟩
  refine RunsM.weaken hwk (.block ?_)
  refine RunsM.range (T := OP) (fuel := 100) (α := Pl) OP_sound mixed (gf := 24) (caps := [.ptr 2 0]) (p1 := 8) (p2 := 9) (d1 := 4) (d2 := 5) rfl f24_en (by kernel_rfl) (by kernel_rfl) (by decide) (by decide) (by kernel_rfl) (by kernel_rfl)
    (encs := encP) (v1 := fun x => .int .i64 (x.k : Int)) (v2 := fun x => .u8 x.b) (u1 := fun x => .int .i64 (x.k : Int)) (u2 := fun x => .int .u8 x.b.toNat) (fun _ => rfl) (fun I w ρ x => pl_v I w ρ x)
    (hG rfl) (fun pre => [.b8 (fold1 xs pre), .vals [.ptr 0 0], .vals [.str s]]) (fun _ => []) (fun _ => True) (fun _ => False) (by intro pre _ b hb; simp at hb; rcases hb with rfl | rfl | rfl <;> rfl) (fun _ h => h.elim) rfl trivial (fun _ _ => rfl) ?_ ?_ (fun _ _ h => h.elim)
  · intro pre x _
    refine ⟨.normal, _, _, Tr.prune_is (is_leaf1 (set_b s (fold1 xs pre) x.k x.b) ?_ rfl), .inl ⟨rfl, ?_, trivial⟩⟩
    · have := x.lt
      have := fold1_length pre xs
      simp only [Bool.and_eq_true, decide_eq_true_eq]
      omega
    · rw [fold1_snoc]
      unfold set1
      rw [Nat.zero_add, Nat.mul_one]
  · intro _
    refine ⟨.inl rfl, _, _, .refl, ?_, rfl, rfl⟩
    rw [fold1_plL]
    generalize setL xs hh = ys
    exact is_leaf1 (k := true) (a := (Fin.ret (.tup []), [.b8 ys])) (by kernel_rfl) rfl rfl
theorem set_fn (s xs : List (BitVec 8)) (hs : s.length ≤ 140737488351232) (hx : xs.length = 256) : LFn Pr 18 [.ptr 0 0, .str s] [.b8 xs] (.ret (.tup [])) [.b8 (setL xs (sumO s))] :=
  set_aux s xs _ hx (fun hi => places_gives s hs hi)

/-! ### Has -/
def oH1 : Oper := match cl (rfA (cb (cr (cl (cr (cr B10)))))) with | .region _ ops _ => ops[0]?.getD default | _ => default
def oH2 : Oper := match cr (rfA (cb (cr (cl (cr (cr B10)))))) with | .region _ ops _ => ops[0]?.getD default | _ => default
theorem B10_eq : B10 = .seq (cl B10) (.seq D10 (.seq (.seq (cl (cl (cr (cr B10)))) (.block 0 (.rangeFunc (.tmp 11) #[12, 13] (.seq (.region 4 #[oH1] false) (.region 5 #[oH2] false)) L10))) E10)) := by kernel_rfl
def miss (xs : List (BitVec 8)) (p : Pl) : Prop := xs.getD p.k 0 &&& p.b = 0#8
theorem has_plL (xs hh : List (BitVec 8)) : hasL xs hh = true ↔ ∀ p, p ∈ plL hh → ¬ miss xs p := by
  unfold hasL plL miss has1
  simp [plOf, and_assoc]
def fr10 (s xs : List (BitVec 8)) : Fr := [(0, .str xs), (1, .str s), (2, .ptr 0 0), (4, .ptr 1 0), (7, .str xs), (8, .int .i64 (xs.length : Int)), (9, .bool false), (10, .str s), (11, .fn 24 [] [.ptr 2 0])]
def RH (b : Bool) : X → Fr → Heap → Prop := fun x fr' h' => (x = .normal ∨ x = .ret) ∧ ∃ fr2 h2, Weaker Go.Proofs.Try.f10.ntmps ([] : Heap).length fr' h' fr2 h2 ∧ (retT Pr Go.Proofs.Try.f10 ([] : Heap).length fr2 h2).is (.ret (.bool b), []) ∧ V.pls (fr2.map (·.2)) = true ∧ h2.all Blk.pl = true
theorem RH_1 {s xs : List (BitVec 8)} {f g} (hw : Weaker Go.Proofs.Try.f10.ntmps ([] : Heap).length f g [((0 : Nat), V.str xs), ((1 : Nat), V.str s), ((2 : Nat), V.ptr (0 : Nat) (0 : Nat)), ((4 : Nat), V.ptr (1 : Nat) (0 : Nat)), ((7 : Nat), V.str xs), ((8 : Nat), V.int IntKind.i64 (↑xs.length : Int)), ((9 : Nat), V.bool true)] [.vals [.str xs], .vals [.bool false]]) : RH false .ret f g :=
  ⟨.inr rfl, _, _, hw, is_leaf1 (k := true) (a := (Fin.ret (.bool false), [])) (by kernel_rfl) rfl rfl, rfl, rfl⟩
theorem RH_2 {s xs : List (BitVec 8)} {b : Bool} {f g} (hw : Weaker Go.Proofs.Try.f10.ntmps ([] : Heap).length f g (fr10 s xs) [.vals [.str xs], .vals [.bool b], .vals [.str s]]) : RH b .ret f g :=
  ⟨.inr rfl, _, _, hw, is_leaf1 (k := true) (a := (Fin.ret (.bool b), [])) (by kernel_rfl) rfl rfl, rfl, rfl⟩

def fr10b (s xs : List (BitVec 8)) (k : Nat) (b : BitVec 8) : Fr := [((0 : Nat), V.str xs), ((1 : Nat), V.str s), ((2 : Nat), V.ptr (0 : Nat) (0 : Nat)),
    ((4 : Nat), V.ptr (1 : Nat) (0 : Nat)), ((7 : Nat), V.str xs), ((8 : Nat), V.int IntKind.i64 (↑xs.length : Int)),
    ((9 : Nat), V.bool false), ((10 : Nat), V.str s), ((11 : Nat), V.fn (24 : FuncId) [] [V.ptr (2 : Nat) (0 : Nat)]),
    ((12 : Nat), V.int IntKind.i64 (↑k : Int)), ((13 : Nat), V.u8 b), ((5 : Nat), V.int IntKind.i64 (↑k : Int)),
    ((6 : Nat), V.u8 b)]
theorem fr10_put (s xs : List (BitVec 8)) (k : Nat) (b : BitVec 8) : ((((fr10 s xs).put 12 (.int .i64 (k : Int))).put 13 (.u8 b)).put 5 (.int .i64 (k : Int))).put 6 (.u8 b) = fr10b s xs k b := rfl
theorem has_b_is (s xs : List (BitVec 8)) (k : Nat) (b : BitVec 8) (hk : k < xs.length) : ∃ fr', (execB Pr OP noLoopsT 100 L10 (fr10b s xs k b) [.vals [.str xs], .vals [.bool false], .vals [.str s]]).is (if xs.getD k 0 &&& b = 0#8 then .ret else .normal, fr', [.vals [.str xs], .vals [.bool false], .vals [.str s]]) := by
  have hb := has_b s xs k b
  change Tr.prune (Tr.Sh.any.both Tr.Sh.any) (execB Pr OP noLoopsT 100 L10 (fr10b s xs k b) [.vals [.str xs], .vals [.bool false], .vals [.str s]]) = _ at hb
  have hk' : (decide ((k : Int) < (xs.length : Int)) && true) = true := by rw [Bool.and_true]; exact decide_eq_true (by omega)
  by_cases hm : xs.getD k 0 &&& b = 0#8
  · have hc : (xs.getD k (OfNat.ofNat 0) &&& b == BitVec.ofInt 8 0) = true := beq_iff_eq.2 hm
    rw [if_pos hm]
    rw [hc, hk'] at hb
    refine ⟨[((0 : Nat), V.str xs), ((1 : Nat), V.str s), ((2 : Nat), V.ptr (0 : Nat) (0 : Nat)),
            ((4 : Nat), V.ptr (1 : Nat) (0 : Nat)), ((7 : Nat), V.str xs),
            ((8 : Nat), V.int IntKind.i64 (↑xs.length : Int)), ((9 : Nat), V.bool false), ((10 : Nat), V.str s),
            ((11 : Nat), V.fn (24 : Nat) [] [V.ptr (2 : Nat) (0 : Nat)]), ((12 : Nat), V.int IntKind.i64 (↑k : Int)),
            ((13 : Nat), V.u8 b), ((5 : Nat), V.int IntKind.i64 (↑k : Int)), ((6 : Nat), V.u8 b),
            ((14 : Nat), V.str xs), ((15 : Nat), V.int IntKind.i64 (↑k : Int)),
            ((16 : Nat), V.u8 (xs.getD k (OfNat.ofNat (0 : Nat)))), ((17 : Nat), V.u8 b),
            ((18 : Nat), V.u8 (xs.getD k (OfNat.ofNat (0 : Nat)) &&& b)), ((19 : Nat), V.bool true)], Tr.prune_is (s := Tr.Sh.any.both Tr.Sh.any) ?_⟩
    · rw [hb, Tr.is_chk, Tr.is_br, if_pos rfl, Tr.is_chk, Tr.is_leaf]
      exact ⟨rfl, rfl, rfl⟩
  · have hc : (xs.getD k (OfNat.ofNat 0) &&& b == BitVec.ofInt 8 0) = false := beq_eq_false_iff_ne.2 hm
    rw [if_neg hm]
    rw [hc, hk'] at hb
    refine ⟨[((0 : Nat), V.str xs), ((1 : Nat), V.str s), ((2 : Nat), V.ptr (0 : Nat) (0 : Nat)),
          ((4 : Nat), V.ptr (1 : Nat) (0 : Nat)), ((7 : Nat), V.str xs),
          ((8 : Nat), V.int IntKind.i64 (↑xs.length : Int)), ((9 : Nat), V.bool false), ((10 : Nat), V.str s),
          ((11 : Nat), V.fn (24 : Nat) [] [V.ptr (2 : Nat) (0 : Nat)]), ((12 : Nat), V.int IntKind.i64 (↑k : Int)),
          ((13 : Nat), V.u8 b), ((5 : Nat), V.int IntKind.i64 (↑k : Int)), ((6 : Nat), V.u8 b), ((14 : Nat), V.str xs),
          ((15 : Nat), V.int IntKind.i64 (↑k : Int)), ((16 : Nat), V.u8 (xs.getD k (OfNat.ofNat (0 : Nat)))),
          ((17 : Nat), V.u8 b), ((18 : Nat), V.u8 (xs.getD k (OfNat.ofNat (0 : Nat)) &&& b)),
          ((19 : Nat), V.bool false)], Tr.prune_is (s := Tr.Sh.any.both Tr.Sh.any) ?_⟩
    · rw [hb, Tr.is_chk, Tr.is_br, if_neg Bool.false_ne_true, Tr.is_leaf]
      exact ⟨rfl, rfl⟩

theorem has_aux (s xs hh : List (BitVec 8)) (hx : xs.length = 256) (hG : ∀ {h : Heap} {i : Nat}, h[i]? = some (.vals [.str s]) → Gives Pr 24 [.ptr i 0] h encP (plL hh)) : LFn Pr 10 [.str xs, .str s] [] (.ret (.bool (hasL xs hh))) [] := by
  refine fnM (r := (.ret (.bool (hasL xs hh)), [])) (show Pr.funcs[10]? = some Go.Proofs.Try.f10 by kernel_rfl) (show Go.Proofs.Try.f10.body = some B10 by kernel_rfl) (Nat.le_of_ble_eq_true (by kernel_rfl)) ?_
  refine RunsM.mono (R := RH (hasL xs hh)) ?_ (fun x fr h r => r)
  rw [B10_eq]
  refine .seq1 (runs_of (by kernel_rfl) (by kernel_rfl) (Tr.prune_is (is_leaf1 (has_r0 s xs) rfl rfl)) ?_)
  rintro y f g ⟨rfl, hwk⟩
  refine RunsM.weaken hwk ?_
  have hd := has_d s xs
  have hne : ((xs.length : Int) != (256 : Int)) = false := by rw [hx]; rfl
  rw [hne] at hd
  have hd1 : (execB Pr OP noLoopsT 100 D10 [((0 : Nat), V.str xs), ((1 : Nat), V.str s), ((2 : Nat), V.ptr (0 : Nat) (0 : Nat)), ((4 : Nat), V.ptr (1 : Nat) (0 : Nat))] [Blk.vals [V.str xs], Blk.vals [V.bool false]]).is _ := Tr.prune_is (s := Tr.Sh.any.both Tr.Sh.any) (by rw [hd, Tr.is_chk, Tr.is_br, if_neg (by simp), Tr.is_leaf]; exact ⟨rfl, rfl⟩)
  refine .seq1 (runs_of (by kernel_rfl) (by kernel_rfl) hd1 ?_)
  rintro y f g ⟨rfl, hwk⟩
  refine RunsM.weaken hwk (.seq2 (.seq1 (runs_of (by kernel_rfl) (by kernel_rfl) (Tr.prune_is (is_leaf1 (has_r3 s xs) rfl rfl)) ?_)))
  rintro y f g ⟨rfl, hwk⟩
  refine RunsM.weaken hwk (.block ?_)
  refine RunsM.range (T := OP) (fuel := 100) (α := Pl) OP_sound mixed (gf := 24) (caps := [.ptr 2 0]) (p1 := 12) (p2 := 13) (d1 := 5) (d2 := 6) rfl f24_en (by kernel_rfl) (by kernel_rfl) (by decide) (by decide) (by kernel_rfl) (by kernel_rfl)
    (encs := encP) (v1 := fun x => .int .i64 (x.k : Int)) (v2 := fun x => .u8 x.b) (u1 := fun x => .int .i64 (x.k : Int)) (u2 := fun x => .int .u8 x.b.toNat) (fun _ => rfl) (fun I w ρ x => pl_v I w ρ x)
    (hG rfl) (fun _ => [.vals [.str xs], .vals [.bool false], .vals [.str s]]) (fun _ => [.vals [.str xs], .vals [.bool false], .vals [.str s]]) (fun pre => ∀ p, p ∈ pre → ¬ miss xs p) (fun pre => ∃ p, p ∈ pre ∧ miss xs p)
    (by intro pre _ b hb; simp at hb; rcases hb with rfl | rfl | rfl <;> rfl) (by intro pre _ b hb; simp at hb; rcases hb with rfl | rfl | rfl <;> rfl) rfl (by simp) (fun _ _ => rfl) ?_ ?_ ?_
  · intro pre x hok
    obtain ⟨fr', hb⟩ := has_b_is s xs x.k x.b (by have := x.lt; omega)
    rw [← fr10_put] at hb
    by_cases hm : miss xs x
    · rw [if_pos (show xs.getD x.k 0 &&& x.b = 0#8 from hm)] at hb
      exact ⟨.ret, _, _, hb, .inr ⟨rfl, rfl, x, by simp, hm⟩⟩
    · rw [if_neg (show ¬ (xs.getD x.k 0 &&& x.b = 0#8) from hm)] at hb
      refine ⟨.normal, _, _, hb, .inl ⟨rfl, rfl, ?_⟩⟩
      intro p hp
      rcases List.mem_append.1 hp with hp | hp
      · exact hok p hp
      · rw [List.mem_singleton] at hp; subst hp; exact hm
  · intro hok
    have e : hasL xs hh = true := (has_plL xs hh).2 hok
    rw [e]
    show Runs Pr _ _ E10 (fr10 s xs) _ _
    refine runs_of (by kernel_rfl) (by kernel_rfl) (Tr.prune_is (is_leaf1 (has_e s xs) rfl rfl)) ?_
    rintro y f g ⟨rfl, hwk⟩
    exact RH_2 hwk
  · rintro k hk ⟨p, hp, hm⟩
    have e : hasL xs hh = false := by
      rw [← Bool.not_eq_true, has_plL]
      intro H
      exact H p (List.mem_of_mem_take hp) hm
    rw [e]
    exact RH_2 (s := s) (xs := xs) Weaker.refl
theorem has_short (s xs : List (BitVec 8)) (hx : xs.length ≠ 256) : LFn Pr 10 [.str xs, .str s] [] (.ret (.bool false)) [] := by
  refine fnM (r := (.ret (.bool false), [])) (show Pr.funcs[10]? = some Go.Proofs.Try.f10 by kernel_rfl) (show Go.Proofs.Try.f10.body = some B10 by kernel_rfl) (Nat.le_of_ble_eq_true (by kernel_rfl)) ?_
  refine RunsM.mono (R := RH false) ?_ (fun x fr h r => r)
  rw [B10_eq]
  refine .seq1 (runs_of (by kernel_rfl) (by kernel_rfl) (Tr.prune_is (is_leaf1 (has_r0 s xs) rfl rfl)) ?_)
  rintro y f g ⟨rfl, hwk⟩
  refine RunsM.weaken hwk ?_
  have hd := has_d s xs
  have hne : ((xs.length : Int) != (256 : Int)) = true := by simp; omega
  rw [hne] at hd
  have hd1 : (execB Pr OP noLoopsT 100 D10 [((0 : Nat), V.str xs), ((1 : Nat), V.str s), ((2 : Nat), V.ptr (0 : Nat) (0 : Nat)), ((4 : Nat), V.ptr (1 : Nat) (0 : Nat))] [Blk.vals [V.str xs], Blk.vals [V.bool false]]).is _ := Tr.prune_is (s := Tr.Sh.any.both Tr.Sh.any) (by rw [hd, Tr.is_chk, Tr.is_br, if_pos rfl, Tr.is_chk, Tr.is_leaf]; exact ⟨rfl, rfl, rfl⟩)
  refine .seq1 (runs_of (by kernel_rfl) (by kernel_rfl) hd1 ?_)
  rintro y f g ⟨rfl, hwk⟩
  exact RH_1 hwk
/-- what Has answers -/
def hasV (xs hh : List (BitVec 8)) : Bool := decide (xs.length = 256) && hasL xs hh
theorem has_fn (s xs : List (BitVec 8)) (hs : s.length ≤ 140737488351232) : LFn Pr 10 [.str xs, .str s] [] (.ret (.bool (hasV xs (sumO s)))) [] := by
  unfold hasV
  by_cases hx : xs.length = 256
  · rw [decide_eq_true hx, Bool.true_and]
    exact has_aux s xs _ hx (fun hi => places_gives s hs hi)
  · rw [decide_eq_false hx, Bool.false_and]
    exact has_short s xs hx
end
end Go.Proofs.Ytklgiongdiojcaa.K
end
section
open Go Go.Lh
namespace Go.Proofs.Ytklgiongdiojcaa.K
theorem rotl_bit (x : BitVec 64) (k i : Nat) (hi : i < 64) : (rotl x k).getLsbD i = x.getLsbD ((i + 64 - k % 64) % 64) := by
  have hk : k % 64 < 64 := Nat.mod_lt _ (by omega)
  unfold rotl
  simp only [BitVec.getLsbD_or, BitVec.getLsbD_shiftLeft, BitVec.getLsbD_ushiftRight]
  by_cases h : i < k % 64
  · have e : (i + 64 - k % 64) % 64 = 64 - k % 64 + i := by omega
    rw [e]; simp [h]
  · have e : (i + 64 - k % 64) % 64 = i - k % 64 := by omega
    rw [e]
    have : x.getLsbD (64 - k % 64 + i) = false := BitVec.getLsbD_of_ge _ _ (by omega)
    simp [h, hi, this]
theorem rotl_inj {x y : BitVec 64} {k : Nat} (h : rotl x k = rotl y k) : x = y := by
  apply BitVec.eq_of_getLsbD_eq
  intro i hi
  have e := congrArg (fun z => z.getLsbD ((i + k % 64) % 64)) h
  simp only [rotl_bit _ _ _ (Nat.mod_lt _ (show 0 < 64 by omega))] at e
  have : ((i + k % 64) % 64 + 64 - k % 64) % 64 = i := by
    have hk : k % 64 < 64 := Nat.mod_lt _ (by omega)
    omega
  rwa [this] at e

/-- a plane of bits that theta makes of nothing is nothing -/
theorem plane_zero (Q : Nat → Nat → Bool) (h5 : ∀ x i, Q (x + 5) i = Q x i) (h64 : ∀ x i, Q x (i + 64) = Q x i)
    (h : ∀ x i, Q x (i + 1) = (Q (x + 4) (i + 1) ^^ Q (x + 1) i)) : ∀ x i, Q x i = false := by
  have h5s : ∀ s x i, Q (x + 5 * s) i = Q x i := by
    intro s
    induction s with
    | zero => intro x i; rfl
    | succ s ih => intro x i; rw [show x + 5 * (s + 1) = x + 5 * s + 5 by omega, h5, ih]
  have dbl : ∀ s, (∀ x i, Q x (i + s) = (Q (x + 4 * s) (i + s) ^^ Q (x + s) i)) → ∀ x i, Q x (i + 2 * s) = (Q (x + 4 * (2 * s)) (i + 2 * s) ^^ Q (x + 2 * s) i) := by
    intro s hs x i
    have a1 := hs x (i + s)
    have a2 := hs (x + 4 * s) (i + s)
    have a3 := hs (x + s) i
    rw [show i + s + s = i + 2 * s by omega] at a1 a2
    rw [show x + 4 * s + 4 * s = x + 4 * (2 * s) by omega, show x + 4 * s + s = x + 5 * s by omega, h5s] at a2
    rw [show x + s + 4 * s = x + 5 * s by omega, h5s, show x + s + s = x + 2 * s by omega] at a3
    rw [a1, a2, a3]
    cases Q (x + 4 * (2 * s)) (i + 2 * s) <;> cases Q x (i + s) <;> cases Q (x + 2 * s) i <;> rfl
  have r1 : ∀ x i, Q x (i + 1) = (Q (x + 4 * 1) (i + 1) ^^ Q (x + 1) i) := h
  have r64 := dbl 32 (dbl 16 (dbl 8 (dbl 4 (dbl 2 (dbl 1 r1)))))
  have k : ∀ x i, Q x i = (Q (x + 1) i ^^ Q (x + 4) i) := by
    intro x i
    have := r64 x i
    rw [show 2 * 32 = 64 by omega, h64, h64, show x + 4 * 64 = x + 1 + 5 * 51 by omega, h5s, show x + 64 = x + 4 + 5 * 12 by omega, h5s] at this
    exact this
  intro x i
  have k0 := k x i
  have k1 := k (x + 1) i
  have k2 := k (x + 2) i
  have k3 := k (x + 3) i
  have k4 := k (x + 4) i
  simp only [Nat.add_assoc, Nat.reduceAdd] at k0 k1 k2 k3 k4
  rw [h5] at k1
  rw [show x + 6 = x + 1 + 5 by omega, h5] at k2
  rw [show x + 7 = x + 2 + 5 by omega, h5] at k3
  rw [h5, show x + 8 = x + 3 + 5 by omega, h5] at k4
  revert k0 k1 k2 k3 k4
  cases Q x i <;> cases Q (x + 1) i <;> cases Q (x + 2) i <;> cases Q (x + 3) i <;> cases Q (x + 4) i <;> decide

theorem lanes_get (n : Nat) (f : Nat → BitVec 64) : ∀ i, i < n → col (lanes n f) i = f i := by
  have hu : ∀ n i, i < n → (upto n)[i]? = some i := by
    intro n
    induction n with
    | zero => intro i hi; omega
    | succ n ih =>
      intro i hi
      simp only [upto]
      by_cases e : i = n
      · subst e; rw [List.getElem?_append_right (by rw [upto_length]; exact Nat.le_refl _), upto_length]; simp
      · rw [List.getElem?_append_left (by rw [upto_length]; omega)]; exact ih i (by omega)
  intro i hi
  simp [col, lanes, List.getD_eq_getElem?_getD, List.getElem?_map, hu n i hi]
theorem col_ext {xs ys : List (BitVec 64)} (hx : xs.length = 25) (hy : ys.length = 25) (h : ∀ i, i < 25 → col xs i = col ys i) : xs = ys := by
  apply List.ext_getElem (by omega)
  intro j hj hj'
  have := h j (by omega)
  simpa [col, List.getD_eq_getElem?_getD, List.getElem?_eq_getElem hj, List.getElem?_eq_getElem hj'] using this

theorem theta_inj {xs ys : List (BitVec 64)} (hx : xs.length = 25) (hy : ys.length = 25) (h : thetaL xs = thetaL ys) : xs = ys := by
  have hl : ∀ i, i < 25 → col xs i ^^^ (par xs ((i + 4) % 5) ^^^ rotl (par xs ((i + 1) % 5)) 1) = col ys i ^^^ (par ys ((i + 4) % 5) ^^^ rotl (par ys ((i + 1) % 5)) 1) := by
    intro i hi
    have e := congrArg (fun l => col l i) h
    simp only [thetaL] at e
    rwa [lanes_get _ _ _ hi, lanes_get _ _ _ hi] at e
  -- the bits of what differs
  let D : Nat → Nat → Bool := fun i j => ((col xs i).getLsbD j ^^ (col ys i).getLsbD j)
  let Q : Nat → Nat → Bool := fun x j => (D (x % 5) (j % 64) ^^ D (x % 5 + 5) (j % 64) ^^ D (x % 5 + 10) (j % 64) ^^ D (x % 5 + 15) (j % 64) ^^ D (x % 5 + 20) (j % 64))
  have hpar : ∀ zs x j, (par zs x).getLsbD j = ((col zs x).getLsbD j ^^ (col zs (x + 5)).getLsbD j ^^ (col zs (x + 10)).getLsbD j ^^ (col zs (x + 15)).getLsbD j ^^ (col zs (x + 20)).getLsbD j) := by
    intro zs x j
    simp only [par, BitVec.getLsbD_xor]
    simp
  have hQ : ∀ x j, x < 5 → j < 64 → Q x j = ((par xs x).getLsbD j ^^ (par ys x).getLsbD j) := by
    intro x j hx' hj
    simp only [Q, D, hpar, Nat.mod_eq_of_lt hx', Nat.mod_eq_of_lt hj]
    cases (col xs x).getLsbD j <;> cases (col ys x).getLsbD j <;> cases (col xs (x+5)).getLsbD j <;> cases (col ys (x+5)).getLsbD j <;> cases (col xs (x+10)).getLsbD j <;> cases (col ys (x+10)).getLsbD j <;> simp <;> cases (col xs (x+15)).getLsbD j <;> cases (col ys (x+15)).getLsbD j <;> cases (col xs (x+20)).getLsbD j <;> cases (col ys (x+20)).getLsbD j <;> rfl
  have hD : ∀ i j, i < 25 → j < 64 → D i j = (Q (i + 4) j ^^ Q (i + 1) (j + 63)) := by
    intro i j hi hj
    have e := congrArg (fun z => z.getLsbD j) (hl i hi)
    simp only [BitVec.getLsbD_xor, rotl_bit _ _ _ hj] at e
    have q1 : Q (i + 4) j = Q ((i + 4) % 5) j := by simp only [Q, Nat.mod_mod]
    have q2 : Q (i + 1) (j + 63) = Q ((i + 1) % 5) ((j + 64 - 1 % 64) % 64) := by
      simp only [Q, Nat.mod_mod]
      rw [show (j + 64 - 1 % 64) = j + 63 by omega]
    rw [q1, q2, hQ _ _ (Nat.mod_lt _ (by omega)) hj, hQ _ _ (Nat.mod_lt _ (by omega)) (Nat.mod_lt _ (by omega))]
    simp only [D]
    revert e
    cases (col xs i).getLsbD j <;> cases (col ys i).getLsbD j <;> cases (par xs ((i + 4) % 5)).getLsbD j <;> cases (par ys ((i + 4) % 5)).getLsbD j <;> cases (par xs ((i + 1) % 5)).getLsbD ((j + 64 - 1 % 64) % 64) <;> cases (par ys ((i + 1) % 5)).getLsbD ((j + 64 - 1 % 64) % 64) <;> decide
  have hQ5 : ∀ x i, Q (x + 5) i = Q x i := by intro x i; simp only [Q, Nat.add_mod_right]
  have hQ64 : ∀ x i, Q x (i + 64) = Q x i := by intro x i; simp only [Q, Nat.add_mod_right]
  have hT : ∀ x j, x < 5 → j < 64 → Q x j = (Q (x + 4) j ^^ Q (x + 1) (j + 63)) := by
    intro x j hx' hj
    have e0 := hD x j (by omega) hj
    have e1 := hD (x + 5) j (by omega) hj
    have e2 := hD (x + 10) j (by omega) hj
    have e3 := hD (x + 15) j (by omega) hj
    have e4 := hD (x + 20) j (by omega) hj
    have p : ∀ k x i, Q (x + 5 * k) i = Q x i := by
      intro k; induction k with
      | zero => intro x i; rfl
      | succ k ih => intro x i; rw [show x + 5 * (k + 1) = x + 5 * k + 5 by omega, hQ5, ih]
    rw [show x + 5 + 4 = x + 4 + 5 * 1 by omega, p, show x + 5 + 1 = x + 1 + 5 * 1 by omega, p] at e1
    rw [show x + 10 + 4 = x + 4 + 5 * 2 by omega, p, show x + 10 + 1 = x + 1 + 5 * 2 by omega, p] at e2
    rw [show x + 15 + 4 = x + 4 + 5 * 3 by omega, p, show x + 15 + 1 = x + 1 + 5 * 3 by omega, p] at e3
    rw [show x + 20 + 4 = x + 4 + 5 * 4 by omega, p, show x + 20 + 1 = x + 1 + 5 * 4 by omega, p] at e4
    have e : Q x j = (D x j ^^ D (x + 5) j ^^ D (x + 10) j ^^ D (x + 15) j ^^ D (x + 20) j) := by
      simp only [Q, Nat.mod_eq_of_lt hx', Nat.mod_eq_of_lt hj]
    rw [e, e0, e1, e2, e3, e4]
    cases Q (x + 4) j <;> cases Q (x + 1) (j + 63) <;> rfl
  have hmod : ∀ x j, Q x j = Q (x % 5) (j % 64) := by intro x j; simp only [Q, Nat.mod_mod]
  have hz := plane_zero Q hQ5 hQ64 (by
    intro x i
    have e := hT (x % 5) ((i + 1) % 64) (Nat.mod_lt _ (by omega)) (Nat.mod_lt _ (by omega))
    rw [hmod x (i + 1), e, hmod (x + 4), hmod (x + 1) i, hmod (x % 5 + 4), hmod (x % 5 + 1)]
    have m1 : (x % 5 + 4) % 5 = (x + 4) % 5 := by omega
    have m2 : (x % 5 + 1) % 5 = (x + 1) % 5 := by omega
    have m3 : (i + 1) % 64 % 64 = (i + 1) % 64 := by omega
    have m4 : ((i + 1) % 64 + 63) % 64 = i % 64 := by omega
    rw [m1, m2, m3, m4])
  refine col_ext hx hy fun i hi => ?_
  apply BitVec.eq_of_getLsbD_eq
  intro j hj
  have e := hD i j hi hj
  rw [hz, hz] at e
  simp only [D] at e
  revert e
  cases (col xs i).getLsbD j <;> cases (col ys i).getLsbD j <;> decide

theorem moves_all : ∀ k, k < 25 → ∃ i, i < 25 ∧ (moves.getD i (0, 0)).1 = k := by decide
theorem rhoPi_inj {xs ys : List (BitVec 64)} (hx : xs.length = 25) (hy : ys.length = 25) (h : rhoPiL xs = rhoPiL ys) : xs = ys := by
  refine col_ext hx hy fun k hk => ?_
  obtain ⟨i, hi, rfl⟩ := moves_all k hk
  have e := congrArg (fun l => col l i) h
  simp only [rhoPiL] at e
  rw [lanes_get _ _ _ hi, lanes_get _ _ _ hi] at e
  by_cases e0 : i = 0
  · subst e0; exact e
  · have : Nat.beq i 0 = false := by rw [Bool.eq_false_iff]; intro h; exact e0 (Nat.eq_of_beq_eq_true h)
    rw [this] at e
    exact rotl_inj e

theorem chi_bits (a b c d e a' b' c' d' e' : Bool) (h0 : (a ^^ (!b && c)) = (a' ^^ (!b' && c'))) (h1 : (b ^^ (!c && d)) = (b' ^^ (!c' && d'))) (h2 : (c ^^ (!d && e)) = (c' ^^ (!d' && e')))
    (h3 : (d ^^ (!e && a)) = (d' ^^ (!e' && a'))) (h4 : (e ^^ (!a && b)) = (e' ^^ (!a' && b'))) : a = a' ∧ b = b' ∧ c = c' ∧ d = d' ∧ e = e' := by
  revert h0 h1 h2 h3 h4
  cases a <;> cases b <;> cases c <;> cases d <;> cases e <;> cases a' <;> cases b' <;> cases c' <;> cases d' <;> cases e' <;> decide
theorem chi_inj {xs ys : List (BitVec 64)} (hx : xs.length = 25) (hy : ys.length = 25) (h : chiL xs = chiL ys) : xs = ys := by
  have hl : ∀ i j, i < 25 → j < 64 → ((col xs i).getLsbD j ^^ (!(col xs (i / 5 * 5 + (i + 1) % 5)).getLsbD j && (col xs (i / 5 * 5 + (i + 2) % 5)).getLsbD j)) = ((col ys i).getLsbD j ^^ (!(col ys (i / 5 * 5 + (i + 1) % 5)).getLsbD j && (col ys (i / 5 * 5 + (i + 2) % 5)).getLsbD j)) := by
    intro i j hi hj
    have e := congrArg (fun l => (col l i).getLsbD j) h
    simp only [chiL] at e
    rw [lanes_get _ _ _ hi, lanes_get _ _ _ hi] at e
    simpa [BitVec.getLsbD_xor, BitVec.getLsbD_and, BitVec.getLsbD_not, hj] using e
  have row : ∀ y j, y < 5 → j < 64 → ∀ x, x < 5 → (col xs (5 * y + x)).getLsbD j = (col ys (5 * y + x)).getLsbD j := by
    intro y j hy' hj
    have g : ∀ x, x < 5 → ((col xs (5 * y + x)).getLsbD j ^^ (!(col xs (5 * y + (x + 1) % 5)).getLsbD j && (col xs (5 * y + (x + 2) % 5)).getLsbD j)) = ((col ys (5 * y + x)).getLsbD j ^^ (!(col ys (5 * y + (x + 1) % 5)).getLsbD j && (col ys (5 * y + (x + 2) % 5)).getLsbD j)) := by
      intro x hx'
      have := hl (5 * y + x) j (by omega) hj
      rw [show (5 * y + x) / 5 * 5 = 5 * y by omega, show (5 * y + x + 1) % 5 = (x + 1) % 5 by omega, show (5 * y + x + 2) % 5 = (x + 2) % 5 by omega] at this
      exact this
    have := chi_bits _ _ _ _ _ _ _ _ _ _ (g 0 (by omega)) (g 1 (by omega)) (g 2 (by omega)) (g 3 (by omega)) (g 4 (by omega))
    obtain ⟨p0, p1, p2, p3, p4⟩ := this
    intro x hx'
    match x, hx' with
    | 0, _ => exact p0
    | 1, _ => exact p1
    | 2, _ => exact p2
    | 3, _ => exact p3
    | 4, _ => exact p4
    | n + 5, h => omega
  refine col_ext hx hy fun i hi => ?_
  apply BitVec.eq_of_getLsbD_eq
  intro j hj
  have := row (i / 5) j (by omega) hj (i % 5) (Nat.mod_lt _ (by omega))
  rwa [show 5 * (i / 5) + i % 5 = i by omega] at this

theorem thetaL_length (xs : List (BitVec 64)) : (thetaL xs).length = 25 := lanes_length _ _
theorem rhoPiL_length (xs : List (BitVec 64)) : (rhoPiL xs).length = 25 := lanes_length _ _
theorem chiL_length (xs : List (BitVec 64)) : (chiL xs).length = 25 := lanes_length _ _
theorem round_inj {i : Nat} {xs ys : List (BitVec 64)} (hx : xs.length = 25) (hy : ys.length = 25) (h : roundL i xs = roundL i ys) : xs = ys := by
  refine theta_inj hx hy (rhoPi_inj (thetaL_length _) (thetaL_length _) (chi_inj (rhoPiL_length _) (rhoPiL_length _) ?_))
  have lx := chiL_length (rhoPiL (thetaL xs))
  have ly := chiL_length (rhoPiL (thetaL ys))
  unfold roundL at h
  refine col_ext lx ly fun k hk => ?_
  have e := congrArg (fun l => col l k) h
  simp only [col, List.getD_eq_getElem?_getD] at e ⊢
  by_cases e0 : k = 0
  · subst e0
    rw [List.getElem?_set_self (by omega), List.getElem?_set_self (by omega)] at e
    simp only [Option.getD_some] at e
    exact (BitVec.xor_left_inj _).1 e
  · rw [List.getElem?_set_ne (Ne.symm e0), List.getElem?_set_ne (Ne.symm e0)] at e
    exact e
theorem perm_inj {xs ys : List (BitVec 64)} (hx : xs.length = 25) (hy : ys.length = 25) (h : permL xs = permL ys) : xs = ys := by
  have : ∀ n, permN n xs = permN n ys → xs = ys := by
    intro n
    induction n with
    | zero => exact id
    | succ n ih => intro h; exact ih (round_inj (permN_length n xs hx) (permN_length n ys hy) h)
  exact this 24 h
end Go.Proofs.Ytklgiongdiojcaa.K
end
