/- What one operation does on a local heap. -/
import Derived.Test.YtajbaocfdlopbaaLhA
set_option linter.unusedSimpArgs false
set_option linter.unusedVariables false
namespace Go.Lh

def inU (w : Nat) (n : Int) : Bool := decide (0 ≤ n) && decide (n < (2 ^ w : Nat))

def ofIntC (k : IntKind) (n : Int) : Option V :=
  match k with
  | .u8 => if inU 8 n then some (.u8 (BitVec.ofInt 8 n)) else none
  | .u16 => if inU 16 n then some (.u16 (BitVec.ofInt 16 n)) else none
  | .u32 => if inU 32 n then some (.u32 (BitVec.ofInt 32 n)) else none
  | .u64 => if inU 64 n then some (.u64 (BitVec.ofInt 64 n)) else none
  | k => some (.int k n)

mutual
def ofValue : Value → Option V
  | .int k n => ofIntC k n
  | .bool b => some (.bool b)
  | .string s => some (.str (bytesOf s))
  | .pointer none => some .nilPtr
  | .slice none 0 0 => some .nilSl
  | .nilFunc => some .nilFn
  | .nilIface => some .nilIface
  | .iface t v => (match ofValue v with | some x => some (.iface t x) | none => none)
  | .agg ⟨l⟩ => (match ofValues l with | some x => some (.agg x) | none => none)
  | .tuple ⟨l⟩ => (match ofValues l with | some x => some (.tup x) | none => none)
  | _ => none
def ofValues : List Value → Option (List V)
  | [] => some []
  | v :: r => match ofValue v, ofValues r with
    | some x, some y => some (x :: y)
    | _, _ => none
end

def opnd (g : Fm) : Operand → Option V
  | .tmp t => g t
  | .const v => ofValue v
  | .func f => some (.fn f [] [])
  | .global _ => none

def opnds (g : Fm) : List Operand → Option (List V)
  | [] => some []
  | x :: r => match opnd g x, opnds g r with
    | some v, some l => some (v :: l)
    | _, _ => none

def isAggT (P : Program) (t : TypeId) : Option Bool :=
  match P.underlying t with
  | some (.struct _) => some true
  | some (.array _ _) => some true
  | some _ => some false
  | none => none

def sizeT (P : Program) (t : TypeId) : Option Nat := match P.info? t with | some i => some i.size | none => none

def zeroT (P : Program) (t : TypeId) : Option V := match P.info? t with
  | some i => (match i.zero with | some z => ofValue z | none => none)
  | none => none

def allU8 : List V → Option (List (BitVec 8))
  | [] => some []
  | .u8 x :: r => (match allU8 r with | some l => some (x :: l) | none => none)
  | _ => none
def allU64 : List V → Option (List (BitVec 64))
  | [] => some []
  | .u64 x :: r => (match allU64 r with | some l => some (x :: l) | none => none)
  | _ => none
def allInt : List V → Option (List Int)
  | [] => some []
  | .int .i64 x :: r => (match allInt r with | some l => some (x :: l) | none => none)
  | _ => none

/-- a block of these cells -/
def mkBlk (cs : List V) : Blk :=
  match cs with
  | .u8 _ :: _ => (match allU8 cs with | some xs => .b8 xs | none => .vals cs)
  | .u64 _ :: _ => (match allU64 cs with | some xs => .b64 xs | none => .vals cs)
  | .int .i64 _ :: _ => (match allInt cs with | some xs => .ints xs | none => .vals cs)
  | _ => .vals cs

def zeroBlk (P : Program) (t : TypeId) : Option Blk := match zeroT P t with | some z => some (mkBlk z.cells) | none => none

def Blk.atN (b : Blk) (o : Nat) : Nat → List V
  | 0 => []
  | n + 1 => b.at o :: b.atN (o + 1) n

def Blk.st (b : Blk) (o : Nat) (v : V) : Option Blk :=
  match b, v with
  | .b8 xs, .u8 x => some (.b8 (xs.set o x))
  | .b64 xs, .u64 x => some (.b64 (xs.set o x))
  | .ints xs, .int .i64 x => some (.ints (xs.set o x))
  | .vals _, .agg _ => none
  | .vals _, .tup _ => none
  | .vals _, .any => none
  | .vals cs, v => some (.vals (cs.set o v))
  | _, _ => none

def Blk.stN (b : Blk) (o : Nat) : List V → Option Blk
  | [] => some b
  | v :: r => match b.st o v with
    | some b' => b'.stN (o + 1) r
    | none => none

def wrapI (k : IntKind) (n : Int) : Int := k.wrap n

def binU {w : Nat} (mk : BitVec w → V) (op : BinOp) (x y : BitVec w) : Option (Bool × V) :=
  match op with
  | .add => some (true, mk (x + y))
  | .sub => some (true, mk (x - y))
  | .mul => some (true, mk (x * y))
  | .quo => some (!(y == 0#w), mk (x / y))
  | .rem => some (!(y == 0#w), mk (x % y))
  | .and => some (true, mk (x &&& y))
  | .or => some (true, mk (x ||| y))
  | .xor => some (true, mk (x ^^^ y))
  | .andNot => some (true, mk (x &&& ~~~y))
  | .eql => some (true, .bool (x == y))
  | .neq => some (true, .bool (x != y))
  | .lss => some (true, .bool (decide (x < y)))
  | .leq => some (true, .bool (decide (x ≤ y)))
  | .gtr => some (true, .bool (decide (y < x)))
  | .geq => some (true, .bool (decide (y ≤ x)))
  | _ => none

def binI (k : IntKind) (op : BinOp) (x y : Int) : Option (Bool × V) :=
  match op with
  | .add => some (true, .int k (wrapI k (x + y)))
  | .sub => some (true, .int k (wrapI k (x - y)))
  | .mul => some (true, .int k (wrapI k (x * y)))
  | .quo => some (!(decide (y = 0)), .int k (wrapI k (x.tdiv y)))
  | .rem => some (!(decide (y = 0)), .int k (x.tmod y))
  | .and => some (true, .int k (wrapI k (BitVec.ofInt k.bits x &&& BitVec.ofInt k.bits y).toNat))
  | .or => some (true, .int k (wrapI k (BitVec.ofInt k.bits x ||| BitVec.ofInt k.bits y).toNat))
  | .xor => some (true, .int k (wrapI k (BitVec.ofInt k.bits x ^^^ BitVec.ofInt k.bits y).toNat))
  | .andNot => some (true, .int k (wrapI k (BitVec.ofInt k.bits x &&& ~~~ BitVec.ofInt k.bits y).toNat))
  | .eql => some (true, .bool (x == y))
  | .neq => some (true, .bool (x != y))
  | .lss => some (true, .bool (decide (x < y)))
  | .leq => some (true, .bool (decide (x ≤ y)))
  | .gtr => some (true, .bool (decide (x > y)))
  | .geq => some (true, .bool (decide (x ≥ y)))
  | _ => none

/-- how far a shift goes -/
def shiftBy : V → Option (Bool × Nat)
  | .u8 y => some (true, y.toNat)
  | .u16 y => some (true, y.toNat)
  | .u32 y => some (true, y.toNat)
  | .u64 y => some (true, y.toNat)
  | .int _ n => some (decide (0 ≤ n), n.toNat)
  | _ => none

def shlV (x : V) (n : Nat) : Option V :=
  match x with
  | .u8 x => some (.u8 (x <<< n))
  | .u16 x => some (.u16 (x <<< n))
  | .u32 x => some (.u32 (x <<< n))
  | .u64 x => some (.u64 (x <<< n))
  | .int k x => some (.int k (wrapI k (x * 2 ^ (min n k.bits))))
  | _ => none

def shrV (x : V) (n : Nat) : Option V :=
  match x with
  | .u8 x => some (.u8 (x >>> n))
  | .u16 x => some (.u16 (x >>> n))
  | .u32 x => some (.u32 (x >>> n))
  | .u64 x => some (.u64 (x >>> n))
  | .int k x => some (.int k (x.fdiv (2 ^ (min n k.bits))))
  | _ => none

def ltB : List (BitVec 8) → List (BitVec 8) → Bool
  | _, [] => false
  | [], _ :: _ => true
  | a :: x, b :: y => decide (a < b) || (a == b && ltB x y)

def maxStr : Nat := 9223372036854775807

def binS (op : BinOp) (x y : List (BitVec 8)) : Option (Bool × V) :=
  match op with
  | .add => some (decide (x.length + y.length ≤ maxStr), .str (x ++ y))
  | .eql => some (true, .bool (x == y))
  | .neq => some (true, .bool (!(x == y)))
  | .lss => some (true, .bool (ltB x y))
  | .leq => some (true, .bool (ltB x y || x == y))
  | .gtr => some (true, .bool (!(ltB x y || x == y)))
  | .geq => some (true, .bool (!ltB x y))
  | _ => none

def eqCell : V → V → Option Bool
  | .u8 x, .u8 y => some (x == y)
  | .u16 x, .u16 y => some (x == y)
  | .u32 x, .u32 y => some (x == y)
  | .u64 x, .u64 y => some (x == y)
  | .int k x, .int k' y => if k = k' then some (x == y) else none
  | _, _ => none

/-- a part of a value, by its cells -/
def partV (P : Program) (t : TypeId) (cs : List V) (off : Nat) : Option V :=
  match isAggT P t, sizeT P t with
  | some true, some n => some (.agg ((cs.drop off).take n))
  | some false, some _ => cs[off]?
  | _, _ => none

def eqFs (P : Program) (rec_ : TypeId → V → V → Option Bool) (xs ys : List V) : List Field → Option Bool
  | [] => some true
  | f :: r => if f.name ≠ "_" then (match partV P f.type xs f.offset, partV P f.type ys f.offset with
      | some a, some b => (match rec_ f.type a b, eqFs P rec_ xs ys r with
        | some p, some q => some (p && q)
        | _, _ => none)
      | _, _ => none) else eqFs P rec_ xs ys r

def eqAs (P : Program) (rec_ : TypeId → V → V → Option Bool) (e : TypeId) (s : Nat) (xs ys : List V) : Nat → Nat → Option Bool
  | 0, _ => some true
  | n + 1, i => (match partV P e xs (i * s), partV P e ys (i * s) with
      | some a, some b => (match rec_ e a b, eqAs P rec_ e s xs ys n (i + 1) with
        | some p, some q => some (p && q)
        | _, _ => none)
      | _, _ => none)

def eqIn (P : Program) : Nat → TypeId → V → V → Option Bool
  | 0, _, _, _ => none
  | d + 1, t, x, y =>
    match P.underlying t, x, y with
    | some .bool, .bool a, .bool b => some (a == b)
    | some (.int _), x, y => eqCell x y
    | some .string, .str a, .str b => some (a == b)
    | some (.pointer _), .nilPtr, .nilPtr => some true
    | some (.pointer _), .nilPtr, .ptr _ _ => some false
    | some (.pointer _), .ptr _ _, .nilPtr => some false
    | some (.slice _), .nilSl, .nilSl => some true
    | some (.slice _), .nilSl, .sl _ _ _ _ _ => some false
    | some (.slice _), .sl _ _ _ _ _, .nilSl => some false
    | some (.slice _), .nilSl, .isl _ _ _ => some false
    | some (.slice _), .isl _ _ _, .nilSl => some false
    | some (.func _ _ _), .nilFn, .nilFn => some true
    | some (.func _ _ _), .nilFn, .fn _ _ _ => some false
    | some (.func _ _ _), .fn _ _ _, .nilFn => some false
    | some (.struct fs), .agg xs, .agg ys => if P.stoodInHeld t then none else eqFs P (eqIn P d) xs ys fs.toList
    | some (.array n e), .agg xs, .agg ys => (match sizeT P e with | some s => eqAs P (eqIn P d) e s xs ys n 0 | none => none)
    | _, _, _ => none

/-- '==' of two values of a type -/
def eqV (P : Program) (t : TypeId) (x y : V) : Option Bool :=
  match x with
  | .agg _ => if P.eqGuardType P.depth t then none else eqIn P 20 t x y
  | _ => eqIn P 20 t x y

def arithV (P : Program) (op : BinOp) (t : TypeId) (x y : V) : Option (Bool × V) :=
  match x, y with
  | .u8 x, .u8 y => binU .u8 op x y
  | .u16 x, .u16 y => binU .u16 op x y
  | .u32 x, .u32 y => binU .u32 op x y
  | .u64 x, .u64 y => binU .u64 op x y
  | .int k x, .int k' y => if k = k' then binI k op x y else none
  | .str x, .str y => binS op x y
  | x, y => (match op, eqV P t x y with
    | .eql, some b => some (true, .bool b)
    | .neq, some b => some (true, .bool (!b))
    | _, _ => none)

def binOpV (P : Program) (op : BinOp) (t : TypeId) (x y : V) : Option (Bool × V) :=
  match op with
  | .shl => (match shiftBy y with
    | some (k, n) => (match shlV x n with | some v => some (k, v) | none => none)
    | none => none)
  | .shr => (match shiftBy y with
    | some (k, n) => (match shrV x n with | some v => some (k, v) | none => none)
    | none => none)
  | op => arithV P op t x y

def unOpV (op : UnOp) (x : V) : Option V :=
  match op, x with
  | .not, .bool b => some (.bool (!b))
  | .neg, .int k n => some (.int k (wrapI k (0 - n)))
  | .xor, .u8 x => some (.u8 (~~~x))
  | .xor, .u16 x => some (.u16 (~~~x))
  | .xor, .u32 x => some (.u32 (~~~x))
  | .xor, .u64 x => some (.u64 (~~~x))
  | _, _ => none

/-- a number as an index -/
def asIx : V → Option Int
  | .int _ n => some n
  | .u8 x => some x.toNat
  | .u16 x => some x.toNat
  | .u32 x => some x.toNat
  | .u64 x => some x.toNat
  | _ => none

def convInt (k : IntKind) (n : Int) : V :=
  match k with
  | .u8 => .u8 (BitVec.ofInt 8 n)
  | .u16 => .u16 (BitVec.ofInt 16 n)
  | .u32 => .u32 (BitVec.ofInt 32 n)
  | .u64 => .u64 (BitVec.ofInt 64 n)
  | k => .int k (wrapI k n)

/-- between whole numbers: from a number without sign by its width, so that it reads well -/
def convN (k : IntKind) (x : V) : Option V :=
  match k, x with
  | .u8, .u8 x => some (.u8 x)
  | .u8, .u64 x => some (.u8 (x.setWidth 8))
  | .u16, .u16 x => some (.u16 x)
  | .u64, .u8 x => some (.u64 (x.setWidth 64))
  | .u64, .u16 x => some (.u64 (x.setWidth 64))
  | .u64, .u32 x => some (.u64 (x.setWidth 64))
  | .u64, .u64 x => some (.u64 x)
  | .i64, .u8 x => some (.int .i64 x.toNat)
  | .i64, .u16 x => some (.int .i64 x.toNat)
  | .i64, .u32 x => some (.int .i64 x.toNat)
  | k, x => match asIx x with | some n => some (convInt k n) | none => none

def fieldsOf (P : Program) (t : TypeId) : Option (Array Field) := match P.underlying t with | some (.struct fs) => some fs | _ => none

def setCells (cs : List V) (off : Nat) : List V → List V
  | [] => cs
  | v :: r => setCells (cs.set off v) (off + 1) r

def fillV (place : Nat → Option (Nat × Nat)) (cells : List V) : List (Nat × V) → Option (List V)
  | [] => some cells
  | (i, v) :: rest =>
    match place i with
    | none => none
    | some (off, size) =>
      if Nat.beq v.cells.length size && Nat.ble (off + v.cells.length) cells.length then fillV place (setCells cells off v.cells) rest else none

def partsV (g : Fm) : List (Nat × Operand) → Option (List (Nat × V))
  | [] => some []
  | (i, x) :: r => match opnd g x, partsV g r with
    | some .any, _ => none
    | some v, some l => some ((i, v) :: l)
    | _, _ => none

def fieldPl (P : Program) (fs : Array Field) (i : Nat) : Option (Nat × Nat) :=
  match fs[i]? with
  | some f => (match sizeT P f.type with | some n => some (f.offset, n) | none => none)
  | none => none

/-- the places of a struct's fields, or an array's elements -/
def placeT (P : Program) (t : TypeId) : Option (Nat → Option (Nat × Nat)) :=
  match P.underlying t with
  | some (.struct fs) => if fs.toList.all (fun f => (sizeT P f.type).isSome) then some (fieldPl P fs) else none
  | some (.array _ e) => (match sizeT P e with | some n => some (fun i => some (i * n, n)) | none => none)
  | _ => none

end Go.Lh
