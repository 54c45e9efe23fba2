import Derived.Test.YtggblpmijekemaaK1
set_option linter.unusedSimpArgs false
set_option linter.unusedVariables false
open Go Go.Lh
namespace Go.Proofs.Ytggblpmijekemaa.K
noncomputable section
set_option maxRecDepth 100000
def sts : List (BitVec 8) := [0x1, 0x80, 0xd8, 0x1a, 0xdf, 0x9, 0x35, 0x4f, 0xca, 0x70, 0x41, 0xec, 0xd5, 0xcd, 0x63, 0xab, 0xaa, 0x2a, 0xf2, 0xe8, 0x37, 0x3e, 0xb, 0x44, 0x8e]
def rcs : List (BitVec 64) := [0x1, 0x8082, 0x800000000000808a, 0x8000000080008000, 0x808b, 0x80000001, 0x8000000080008081, 0x8000000000008009, 0x8a, 0x88, 0x80008009, 0x8000000a, 0x8000808b, 0x800000000000008b, 0x8000000000008089, 0x8000000000008003, 0x8000000000008002, 0x8000000000000080, 0x800a, 0x800000008000000a, 0x8000000080008081, 0x8000000000008080, 0x80000001, 0x8000000080008008]
def st (i : Nat) : BitVec 8 := sts.getD i 0
def rc (i : Nat) : BitVec 64 := rcs.getD i 0
def roundL (i : Nat) (xs : List (BitVec 64)) : List (BitVec 64) :=
  (chiL (rhoPiL (thetaL xs))).set 0 (col (chiL (rhoPiL (thetaL xs))) 0 ^^^ rc i)
def loopBody (fn : Func) (k : Nat) : Code := (loopsOf (fn.body.getD .skip)).getD k .skip
def frP (i : Nat) : Fr := [(3, .ptr 0 0), (5, .fn 13 [.ptr 1 0] []), (8, .int .i64 (i : Int)), (2, .ptr 2 0)]
def roundX (i : Nat) (xs zs : List (BitVec 64)) : Option (Fr × Heap) :=
  match exec Pr O16 noLoops 100 (loopBody Go.Proofs.Try.f11 0) (frP i) [.b64 xs, .b8 [st i], .b64 zs] with
  | some (true, .normal, fr', h') => tell 0 [0, 1, 2] [3, 5, 8, 2] fr' h'
  | _ => none
theorem round0 (zs : List (BitVec 64)) (x0 x1 x2 x3 x4 x5 x6 x7 x8 x9 x10 x11 x12 x13 x14 x15 x16 x17 x18 x19 x20 x21 x22 x23 x24 : BitVec 64) : roundX 0 [x0, x1, x2, x3, x4, x5, x6, x7, x8, x9, x10, x11, x12, x13, x14, x15, x16, x17, x18, x19, x20, x21, x22, x23, x24] zs = some (frP 1, [.b64 (roundL 0 [x0, x1, x2, x3, x4, x5, x6, x7, x8, x9, x10, x11, x12, x13, x14, x15, x16, x17, x18, x19, x20, x21, x22, x23, x24]), .b8 [st 1], .b64 zs]) := by kernel_rfl
theorem round1 (zs : List (BitVec 64)) (x0 x1 x2 x3 x4 x5 x6 x7 x8 x9 x10 x11 x12 x13 x14 x15 x16 x17 x18 x19 x20 x21 x22 x23 x24 : BitVec 64) : roundX 1 [x0, x1, x2, x3, x4, x5, x6, x7, x8, x9, x10, x11, x12, x13, x14, x15, x16, x17, x18, x19, x20, x21, x22, x23, x24] zs = some (frP 2, [.b64 (roundL 1 [x0, x1, x2, x3, x4, x5, x6, x7, x8, x9, x10, x11, x12, x13, x14, x15, x16, x17, x18, x19, x20, x21, x22, x23, x24]), .b8 [st 2], .b64 zs]) := by kernel_rfl
theorem round2 (zs : List (BitVec 64)) (x0 x1 x2 x3 x4 x5 x6 x7 x8 x9 x10 x11 x12 x13 x14 x15 x16 x17 x18 x19 x20 x21 x22 x23 x24 : BitVec 64) : roundX 2 [x0, x1, x2, x3, x4, x5, x6, x7, x8, x9, x10, x11, x12, x13, x14, x15, x16, x17, x18, x19, x20, x21, x22, x23, x24] zs = some (frP 3, [.b64 (roundL 2 [x0, x1, x2, x3, x4, x5, x6, x7, x8, x9, x10, x11, x12, x13, x14, x15, x16, x17, x18, x19, x20, x21, x22, x23, x24]), .b8 [st 3], .b64 zs]) := by kernel_rfl
theorem round3 (zs : List (BitVec 64)) (x0 x1 x2 x3 x4 x5 x6 x7 x8 x9 x10 x11 x12 x13 x14 x15 x16 x17 x18 x19 x20 x21 x22 x23 x24 : BitVec 64) : roundX 3 [x0, x1, x2, x3, x4, x5, x6, x7, x8, x9, x10, x11, x12, x13, x14, x15, x16, x17, x18, x19, x20, x21, x22, x23, x24] zs = some (frP 4, [.b64 (roundL 3 [x0, x1, x2, x3, x4, x5, x6, x7, x8, x9, x10, x11, x12, x13, x14, x15, x16, x17, x18, x19, x20, x21, x22, x23, x24]), .b8 [st 4], .b64 zs]) := by kernel_rfl
theorem round4 (zs : List (BitVec 64)) (x0 x1 x2 x3 x4 x5 x6 x7 x8 x9 x10 x11 x12 x13 x14 x15 x16 x17 x18 x19 x20 x21 x22 x23 x24 : BitVec 64) : roundX 4 [x0, x1, x2, x3, x4, x5, x6, x7, x8, x9, x10, x11, x12, x13, x14, x15, x16, x17, x18, x19, x20, x21, x22, x23, x24] zs = some (frP 5, [.b64 (roundL 4 [x0, x1, x2, x3, x4, x5, x6, x7, x8, x9, x10, x11, x12, x13, x14, x15, x16, x17, x18, x19, x20, x21, x22, x23, x24]), .b8 [st 5], .b64 zs]) := by kernel_rfl
theorem round5 (zs : List (BitVec 64)) (x0 x1 x2 x3 x4 x5 x6 x7 x8 x9 x10 x11 x12 x13 x14 x15 x16 x17 x18 x19 x20 x21 x22 x23 x24 : BitVec 64) : roundX 5 [x0, x1, x2, x3, x4, x5, x6, x7, x8, x9, x10, x11, x12, x13, x14, x15, x16, x17, x18, x19, x20, x21, x22, x23, x24] zs = some (frP 6, [.b64 (roundL 5 [x0, x1, x2, x3, x4, x5, x6, x7, x8, x9, x10, x11, x12, x13, x14, x15, x16, x17, x18, x19, x20, x21, x22, x23, x24]), .b8 [st 6], .b64 zs]) := by kernel_rfl
theorem round6 (zs : List (BitVec 64)) (x0 x1 x2 x3 x4 x5 x6 x7 x8 x9 x10 x11 x12 x13 x14 x15 x16 x17 x18 x19 x20 x21 x22 x23 x24 : BitVec 64) : roundX 6 [x0, x1, x2, x3, x4, x5, x6, x7, x8, x9, x10, x11, x12, x13, x14, x15, x16, x17, x18, x19, x20, x21, x22, x23, x24] zs = some (frP 7, [.b64 (roundL 6 [x0, x1, x2, x3, x4, x5, x6, x7, x8, x9, x10, x11, x12, x13, x14, x15, x16, x17, x18, x19, x20, x21, x22, x23, x24]), .b8 [st 7], .b64 zs]) := by kernel_rfl
theorem round7 (zs : List (BitVec 64)) (x0 x1 x2 x3 x4 x5 x6 x7 x8 x9 x10 x11 x12 x13 x14 x15 x16 x17 x18 x19 x20 x21 x22 x23 x24 : BitVec 64) : roundX 7 [x0, x1, x2, x3, x4, x5, x6, x7, x8, x9, x10, x11, x12, x13, x14, x15, x16, x17, x18, x19, x20, x21, x22, x23, x24] zs = some (frP 8, [.b64 (roundL 7 [x0, x1, x2, x3, x4, x5, x6, x7, x8, x9, x10, x11, x12, x13, x14, x15, x16, x17, x18, x19, x20, x21, x22, x23, x24]), .b8 [st 8], .b64 zs]) := by kernel_rfl
theorem round8 (zs : List (BitVec 64)) (x0 x1 x2 x3 x4 x5 x6 x7 x8 x9 x10 x11 x12 x13 x14 x15 x16 x17 x18 x19 x20 x21 x22 x23 x24 : BitVec 64) : roundX 8 [x0, x1, x2, x3, x4, x5, x6, x7, x8, x9, x10, x11, x12, x13, x14, x15, x16, x17, x18, x19, x20, x21, x22, x23, x24] zs = some (frP 9, [.b64 (roundL 8 [x0, x1, x2, x3, x4, x5, x6, x7, x8, x9, x10, x11, x12, x13, x14, x15, x16, x17, x18, x19, x20, x21, x22, x23, x24]), .b8 [st 9], .b64 zs]) := by kernel_rfl
theorem round9 (zs : List (BitVec 64)) (x0 x1 x2 x3 x4 x5 x6 x7 x8 x9 x10 x11 x12 x13 x14 x15 x16 x17 x18 x19 x20 x21 x22 x23 x24 : BitVec 64) : roundX 9 [x0, x1, x2, x3, x4, x5, x6, x7, x8, x9, x10, x11, x12, x13, x14, x15, x16, x17, x18, x19, x20, x21, x22, x23, x24] zs = some (frP 10, [.b64 (roundL 9 [x0, x1, x2, x3, x4, x5, x6, x7, x8, x9, x10, x11, x12, x13, x14, x15, x16, x17, x18, x19, x20, x21, x22, x23, x24]), .b8 [st 10], .b64 zs]) := by kernel_rfl
theorem round10 (zs : List (BitVec 64)) (x0 x1 x2 x3 x4 x5 x6 x7 x8 x9 x10 x11 x12 x13 x14 x15 x16 x17 x18 x19 x20 x21 x22 x23 x24 : BitVec 64) : roundX 10 [x0, x1, x2, x3, x4, x5, x6, x7, x8, x9, x10, x11, x12, x13, x14, x15, x16, x17, x18, x19, x20, x21, x22, x23, x24] zs = some (frP 11, [.b64 (roundL 10 [x0, x1, x2, x3, x4, x5, x6, x7, x8, x9, x10, x11, x12, x13, x14, x15, x16, x17, x18, x19, x20, x21, x22, x23, x24]), .b8 [st 11], .b64 zs]) := by kernel_rfl
theorem round11 (zs : List (BitVec 64)) (x0 x1 x2 x3 x4 x5 x6 x7 x8 x9 x10 x11 x12 x13 x14 x15 x16 x17 x18 x19 x20 x21 x22 x23 x24 : BitVec 64) : roundX 11 [x0, x1, x2, x3, x4, x5, x6, x7, x8, x9, x10, x11, x12, x13, x14, x15, x16, x17, x18, x19, x20, x21, x22, x23, x24] zs = some (frP 12, [.b64 (roundL 11 [x0, x1, x2, x3, x4, x5, x6, x7, x8, x9, x10, x11, x12, x13, x14, x15, x16, x17, x18, x19, x20, x21, x22, x23, x24]), .b8 [st 12], .b64 zs]) := by kernel_rfl
theorem round12 (zs : List (BitVec 64)) (x0 x1 x2 x3 x4 x5 x6 x7 x8 x9 x10 x11 x12 x13 x14 x15 x16 x17 x18 x19 x20 x21 x22 x23 x24 : BitVec 64) : roundX 12 [x0, x1, x2, x3, x4, x5, x6, x7, x8, x9, x10, x11, x12, x13, x14, x15, x16, x17, x18, x19, x20, x21, x22, x23, x24] zs = some (frP 13, [.b64 (roundL 12 [x0, x1, x2, x3, x4, x5, x6, x7, x8, x9, x10, x11, x12, x13, x14, x15, x16, x17, x18, x19, x20, x21, x22, x23, x24]), .b8 [st 13], .b64 zs]) := by kernel_rfl
theorem round13 (zs : List (BitVec 64)) (x0 x1 x2 x3 x4 x5 x6 x7 x8 x9 x10 x11 x12 x13 x14 x15 x16 x17 x18 x19 x20 x21 x22 x23 x24 : BitVec 64) : roundX 13 [x0, x1, x2, x3, x4, x5, x6, x7, x8, x9, x10, x11, x12, x13, x14, x15, x16, x17, x18, x19, x20, x21, x22, x23, x24] zs = some (frP 14, [.b64 (roundL 13 [x0, x1, x2, x3, x4, x5, x6, x7, x8, x9, x10, x11, x12, x13, x14, x15, x16, x17, x18, x19, x20, x21, x22, x23, x24]), .b8 [st 14], .b64 zs]) := by kernel_rfl
theorem round14 (zs : List (BitVec 64)) (x0 x1 x2 x3 x4 x5 x6 x7 x8 x9 x10 x11 x12 x13 x14 x15 x16 x17 x18 x19 x20 x21 x22 x23 x24 : BitVec 64) : roundX 14 [x0, x1, x2, x3, x4, x5, x6, x7, x8, x9, x10, x11, x12, x13, x14, x15, x16, x17, x18, x19, x20, x21, x22, x23, x24] zs = some (frP 15, [.b64 (roundL 14 [x0, x1, x2, x3, x4, x5, x6, x7, x8, x9, x10, x11, x12, x13, x14, x15, x16, x17, x18, x19, x20, x21, x22, x23, x24]), .b8 [st 15], .b64 zs]) := by kernel_rfl
theorem round15 (zs : List (BitVec 64)) (x0 x1 x2 x3 x4 x5 x6 x7 x8 x9 x10 x11 x12 x13 x14 x15 x16 x17 x18 x19 x20 x21 x22 x23 x24 : BitVec 64) : roundX 15 [x0, x1, x2, x3, x4, x5, x6, x7, x8, x9, x10, x11, x12, x13, x14, x15, x16, x17, x18, x19, x20, x21, x22, x23, x24] zs = some (frP 16, [.b64 (roundL 15 [x0, x1, x2, x3, x4, x5, x6, x7, x8, x9, x10, x11, x12, x13, x14, x15, x16, x17, x18, x19, x20, x21, x22, x23, x24]), .b8 [st 16], .b64 zs]) := by kernel_rfl
theorem round16 (zs : List (BitVec 64)) (x0 x1 x2 x3 x4 x5 x6 x7 x8 x9 x10 x11 x12 x13 x14 x15 x16 x17 x18 x19 x20 x21 x22 x23 x24 : BitVec 64) : roundX 16 [x0, x1, x2, x3, x4, x5, x6, x7, x8, x9, x10, x11, x12, x13, x14, x15, x16, x17, x18, x19, x20, x21, x22, x23, x24] zs = some (frP 17, [.b64 (roundL 16 [x0, x1, x2, x3, x4, x5, x6, x7, x8, x9, x10, x11, x12, x13, x14, x15, x16, x17, x18, x19, x20, x21, x22, x23, x24]), .b8 [st 17], .b64 zs]) := by kernel_rfl
theorem round17 (zs : List (BitVec 64)) (x0 x1 x2 x3 x4 x5 x6 x7 x8 x9 x10 x11 x12 x13 x14 x15 x16 x17 x18 x19 x20 x21 x22 x23 x24 : BitVec 64) : roundX 17 [x0, x1, x2, x3, x4, x5, x6, x7, x8, x9, x10, x11, x12, x13, x14, x15, x16, x17, x18, x19, x20, x21, x22, x23, x24] zs = some (frP 18, [.b64 (roundL 17 [x0, x1, x2, x3, x4, x5, x6, x7, x8, x9, x10, x11, x12, x13, x14, x15, x16, x17, x18, x19, x20, x21, x22, x23, x24]), .b8 [st 18], .b64 zs]) := by kernel_rfl
theorem round18 (zs : List (BitVec 64)) (x0 x1 x2 x3 x4 x5 x6 x7 x8 x9 x10 x11 x12 x13 x14 x15 x16 x17 x18 x19 x20 x21 x22 x23 x24 : BitVec 64) : roundX 18 [x0, x1, x2, x3, x4, x5, x6, x7, x8, x9, x10, x11, x12, x13, x14, x15, x16, x17, x18, x19, x20, x21, x22, x23, x24] zs = some (frP 19, [.b64 (roundL 18 [x0, x1, x2, x3, x4, x5, x6, x7, x8, x9, x10, x11, x12, x13, x14, x15, x16, x17, x18, x19, x20, x21, x22, x23, x24]), .b8 [st 19], .b64 zs]) := by kernel_rfl
theorem round19 (zs : List (BitVec 64)) (x0 x1 x2 x3 x4 x5 x6 x7 x8 x9 x10 x11 x12 x13 x14 x15 x16 x17 x18 x19 x20 x21 x22 x23 x24 : BitVec 64) : roundX 19 [x0, x1, x2, x3, x4, x5, x6, x7, x8, x9, x10, x11, x12, x13, x14, x15, x16, x17, x18, x19, x20, x21, x22, x23, x24] zs = some (frP 20, [.b64 (roundL 19 [x0, x1, x2, x3, x4, x5, x6, x7, x8, x9, x10, x11, x12, x13, x14, x15, x16, x17, x18, x19, x20, x21, x22, x23, x24]), .b8 [st 20], .b64 zs]) := by kernel_rfl
theorem round20 (zs : List (BitVec 64)) (x0 x1 x2 x3 x4 x5 x6 x7 x8 x9 x10 x11 x12 x13 x14 x15 x16 x17 x18 x19 x20 x21 x22 x23 x24 : BitVec 64) : roundX 20 [x0, x1, x2, x3, x4, x5, x6, x7, x8, x9, x10, x11, x12, x13, x14, x15, x16, x17, x18, x19, x20, x21, x22, x23, x24] zs = some (frP 21, [.b64 (roundL 20 [x0, x1, x2, x3, x4, x5, x6, x7, x8, x9, x10, x11, x12, x13, x14, x15, x16, x17, x18, x19, x20, x21, x22, x23, x24]), .b8 [st 21], .b64 zs]) := by kernel_rfl
theorem round21 (zs : List (BitVec 64)) (x0 x1 x2 x3 x4 x5 x6 x7 x8 x9 x10 x11 x12 x13 x14 x15 x16 x17 x18 x19 x20 x21 x22 x23 x24 : BitVec 64) : roundX 21 [x0, x1, x2, x3, x4, x5, x6, x7, x8, x9, x10, x11, x12, x13, x14, x15, x16, x17, x18, x19, x20, x21, x22, x23, x24] zs = some (frP 22, [.b64 (roundL 21 [x0, x1, x2, x3, x4, x5, x6, x7, x8, x9, x10, x11, x12, x13, x14, x15, x16, x17, x18, x19, x20, x21, x22, x23, x24]), .b8 [st 22], .b64 zs]) := by kernel_rfl
theorem round22 (zs : List (BitVec 64)) (x0 x1 x2 x3 x4 x5 x6 x7 x8 x9 x10 x11 x12 x13 x14 x15 x16 x17 x18 x19 x20 x21 x22 x23 x24 : BitVec 64) : roundX 22 [x0, x1, x2, x3, x4, x5, x6, x7, x8, x9, x10, x11, x12, x13, x14, x15, x16, x17, x18, x19, x20, x21, x22, x23, x24] zs = some (frP 23, [.b64 (roundL 22 [x0, x1, x2, x3, x4, x5, x6, x7, x8, x9, x10, x11, x12, x13, x14, x15, x16, x17, x18, x19, x20, x21, x22, x23, x24]), .b8 [st 23], .b64 zs]) := by kernel_rfl
theorem round23 (zs : List (BitVec 64)) (x0 x1 x2 x3 x4 x5 x6 x7 x8 x9 x10 x11 x12 x13 x14 x15 x16 x17 x18 x19 x20 x21 x22 x23 x24 : BitVec 64) : roundX 23 [x0, x1, x2, x3, x4, x5, x6, x7, x8, x9, x10, x11, x12, x13, x14, x15, x16, x17, x18, x19, x20, x21, x22, x23, x24] zs = some (frP 24, [.b64 (roundL 23 [x0, x1, x2, x3, x4, x5, x6, x7, x8, x9, x10, x11, x12, x13, x14, x15, x16, x17, x18, x19, x20, x21, x22, x23, x24]), .b8 [st 24], .b64 zs]) := by kernel_rfl
theorem rounds (zs xs : List (BitVec 64)) (h : xs.length = 25) : ∀ i, i < 24 → roundX i xs zs = some (frP (i + 1), [.b64 (roundL i xs), .b8 [st (i + 1)], .b64 zs]) := by
  obtain ⟨x0, x1, x2, x3, x4, x5, x6, x7, x8, x9, x10, x11, x12, x13, x14, x15, x16, x17, x18, x19, x20, x21, x22, x23, x24, rfl⟩ := list25 xs h
  intro i hi
  match i, hi with
  | 0, _ => exact round0 ..
  | 1, _ => exact round1 ..
  | 2, _ => exact round2 ..
  | 3, _ => exact round3 ..
  | 4, _ => exact round4 ..
  | 5, _ => exact round5 ..
  | 6, _ => exact round6 ..
  | 7, _ => exact round7 ..
  | 8, _ => exact round8 ..
  | 9, _ => exact round9 ..
  | 10, _ => exact round10 ..
  | 11, _ => exact round11 ..
  | 12, _ => exact round12 ..
  | 13, _ => exact round13 ..
  | 14, _ => exact round14 ..
  | 15, _ => exact round15 ..
  | 16, _ => exact round16 ..
  | 17, _ => exact round17 ..
  | 18, _ => exact round18 ..
  | 19, _ => exact round19 ..
  | 20, _ => exact round20 ..
  | 21, _ => exact round21 ..
  | 22, _ => exact round22 ..
  | 23, _ => exact round23 ..
  | n + 24, h => exact absurd h (by omega)

def frE : Fr := [(3, .ptr 0 0), (5, .fn 13 [.ptr 1 0] []), (8, .int .i64 24), (2, .ptr 2 0), (9, .bool false)]
theorem roundE (xs zs : List (BitVec 64)) : exec Pr O16 noLoops 100 (loopBody Go.Proofs.Try.f11 0) (frP 24) [.b64 xs, .b8 [st 24], .b64 zs] = some (true, .exit 0, frE, [.b64 xs, .b8 [st 24], .b64 zs]) := by kernel_rfl
def permN : Nat → List (BitVec 64) → List (BitVec 64)
  | 0, xs => xs
  | n + 1, xs => roundL n (permN n xs)
def permL (xs : List (BitVec 64)) : List (BitVec 64) := permN 24 xs
theorem upto_length : ∀ n, (upto n).length = n
  | 0 => rfl
  | n + 1 => by simp [upto, upto_length n]
theorem lanes_length (n : Nat) (f : Nat → BitVec 64) : (lanes n f).length = n := by simp [lanes, upto_length]
theorem roundL_length (i : Nat) (xs : List (BitVec 64)) : (roundL i xs).length = 25 := by simp [roundL, chiL, lanes_length]
theorem permN_length (i : Nat) (xs : List (BitVec 64)) (h : xs.length = 25) : (permN i xs).length = 25 := by
  cases i with
  | zero => exact h
  | succ i => exact roundL_length _ _
def L11 : Loops := fun n fr h => if Nat.beq n 5 then (match tell 0 [2, 3, 1] [3, 5, 8, 2] fr h with
  | some ([(3, .ptr 0 0), (5, .fn 13 [.ptr 1 0] []), (8, .int .i64 0), (2, .ptr 2 0)], [.b64 xs, .b8 [s], .b64 zs]) =>
    if Nat.beq s.toNat 1 && Nat.beq xs.length 25 then some (true, .exit 0, frE, [.b64 (permL xs), .b8 [st 24], .b64 zs]) else none
  | _ => none) else none
theorem runs_exec {O : Orc} (hO : OrcSound Pr O) {fuel N n0 : Nat} {c : Code} {fr fr' : Fr} {h h' : Heap} {x : X} (hd : dstsIn N c = true) (hx : exec Pr O noLoops fuel c fr h = some (true, x, fr', h')) :
    Runs Pr N n0 c fr h (EndW N n0 x fr' h') := exec_sound hO mixed c (fun _ _ => LoopOk.none) _ _ _ _ _ hd hx
theorem L11_ok : LoopOk Pr 21 0 L11 (loopBody Go.Proofs.Try.f11 0) := by
  intro fr h x fr' h' hL
  unfold L11 at hL
  split at hL <;> try simp only [reduceCtorEq] at hL
  split at hL <;> try simp only [reduceCtorEq] at hL
  rename_i xs s zs ht
  split at hL <;> simp only [Option.some.injEq, Prod.mk.injEq, true_and, reduceCtorEq] at hL
  rename_i hc
  rw [Bool.and_eq_true] at hc
  obtain ⟨rfl, rfl, rfl⟩ := hL
  have hs : s = st 0 := by
    have := Nat.eq_of_beq_eq_true hc.1
    exact BitVec.eq_of_toNat_eq (by rw [this]; rfl)
  have hl := Nat.eq_of_beq_eq_true hc.2
  subst hs
  refine Runs.weaken (tell_weaker ht) ?_
  refine Runs.loop (fun n f k => ∃ i, i ≤ 24 ∧ n = 24 - i ∧ f = frP i ∧ k = [.b64 (permN i xs), .b8 [st i], .b64 zs]) (n := 24) ⟨0, by omega, rfl, rfl, rfl⟩ ?_
  rintro n f k ⟨i, hi, rfl, rfl, rfl⟩
  by_cases e : i = 24
  · subst e
    refine (runs_exec O16_sound (by kernel_rfl) (roundE _ _)).mono ?_
    rintro y f k ⟨rfl, hw⟩
    exact ⟨rfl, hw⟩
  · have hr := rounds zs (permN i xs) (permN_length i xs hl) i (by omega)
    unfold roundX at hr
    split at hr <;> try simp only [reduceCtorEq] at hr
    rename_i f1 h1 he
    refine (runs_exec O16_sound (by kernel_rfl) he).mono ?_
    rintro y f k ⟨rfl, hw⟩
    exact ⟨24 - (i + 1), _, _, by omega, ⟨i + 1, by omega, rfl, rfl, rfl⟩, Weaker.trans hw (tell_weaker hr)⟩
def u64s (n : Nat) (xs : List (BitVec 64)) : List V := (upto n).map fun k => .u64 (xs.getD k 0)
theorem perm_exec (x0 x1 x2 x3 x4 x5 x6 x7 x8 x9 x10 x11 x12 x13 x14 x15 x16 x17 x18 x19 x20 x21 x22 x23 x24 : BitVec 64) : execF Pr O16 L11 100 Go.Proofs.Try.f11 [.agg (u64s 25 [x0, x1, x2, x3, x4, x5, x6, x7, x8, x9, x10, x11, x12, x13, x14, x15, x16, x17, x18, x19, x20, x21, x22, x23, x24])] [] = some (true, .ret (.agg (u64s 25 (permL [x0, x1, x2, x3, x4, x5, x6, x7, x8, x9, x10, x11, x12, x13, x14, x15, x16, x17, x18, x19, x20, x21, x22, x23, x24]))), []) := by kernel_rfl

theorem u64s_map : ∀ (xs : List (BitVec 64)), xs.length = 25 → u64s 25 xs = xs.map .u64 := by
  intro xs h
  obtain ⟨x0, x1, x2, x3, x4, x5, x6, x7, x8, x9, x10, x11, x12, x13, x14, x15, x16, x17, x18, x19, x20, x21, x22, x23, x24, rfl⟩ := list25 xs h
  rfl
theorem allU64_map : ∀ (vs : List V) (xs : List (BitVec 64)), allU64 vs = some xs → vs = xs.map .u64
  | [], xs, h => by simp only [allU64, Option.some.injEq] at h; subst h; rfl
  | v :: r, xs, h => by
    cases v <;> simp only [allU64, reduceCtorEq] at h
    split at h <;> simp only [Option.some.injEq, reduceCtorEq] at h
    rename_i l hl
    subst h
    rw [List.map_cons, allU64_map r l hl]
def permG (args : List V) (h : Heap) : Option (Bool × Fin × Heap) :=
  match args, h with
  | [.agg vs], [] => (match allU64 vs with
    | some xs => some (Nat.beq xs.length 25, .ret (.agg (u64s 25 (permL xs))), [])
    | none => none)
  | _, _ => none
theorem body11 : Go.Proofs.Try.f11.body = some (Go.Proofs.Try.f11.body.getD .skip) := by kernel_rfl
theorem loops11 : loopsOf (Go.Proofs.Try.f11.body.getD .skip) = [loopBody Go.Proofs.Try.f11 0] := by kernel_rfl
theorem ntmps11 : Go.Proofs.Try.f11.ntmps = 21 := by kernel_rfl
theorem permG_sound : ∀ args h fin h', permG args h = some (true, fin, h') → LFn Pr 11 args h fin h' := by
  intro args h fin h' hg
  unfold permG at hg
  split at hg <;> try simp only [reduceCtorEq] at hg
  rename_i vs
  split at hg <;> try simp only [reduceCtorEq] at hg
  rename_i xs hvs
  simp only [Option.some.injEq, Prod.mk.injEq] at hg
  obtain ⟨hl, rfl, rfl⟩ := hg
  have hl := Nat.eq_of_beq_eq_true hl
  rw [allU64_map vs xs hvs, ← u64s_map xs hl]
  obtain ⟨x0, x1, x2, x3, x4, x5, x6, x7, x8, x9, x10, x11, x12, x13, x14, x15, x16, x17, x18, x19, x20, x21, x22, x23, x24, rfl⟩ := list25 xs hl
  refine execF_sound O16_sound mixed f11_at (L := L11) (fuel := 100) ?_ (perm_exec ..)
  intro c hc d hd
  rw [body11] at hc
  cases hc
  rw [loops11] at hd
  cases List.mem_singleton.1 hd
  rw [ntmps11]
  exact L11_ok
def O11 : Orc := know noOrc 11 permG
theorem O11_sound : OrcSound Pr O11 := know_sound (noOrc_sound _) (enters_of f11_at (by kernel_rfl) (by kernel_rfl)) permG_sound
end
end Go.Proofs.Ytggblpmijekemaa.K
