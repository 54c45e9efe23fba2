/- One operation that does not touch the local heap: what it does, and that the model does so. -/
import Derived.Test.YtajbaocfdlopbaaLhE
import Derived.Laws.Small
set_option linter.unusedSimpArgs false
set_option linter.unusedVariables false
namespace Go.Lh

def pickV (t : Bool) (a b : Option V) : Option V :=
  match a, b with
  | some (.bool x), some (.bool y) => some (.bool (bif t then x else y))
  | a, b => if t then a else b

def minV (x y : V) : Option V :=
  match x, y with
  | .int k x, .int _ y => some (.int k (if y < x then y else x))
  | .u64 x, .u64 y => some (.u64 (if y < x then y else x))
  | .u8 x, .u8 y => some (.u8 (if y < x then y else x))
  | _, _ => none

def maxV (x y : V) : Option V :=
  match x, y with
  | .int k x, .int _ y => some (.int k (if y > x then y else x))
  | .u64 x, .u64 y => some (.u64 (if x < y then y else x))
  | .u8 x, .u8 y => some (.u8 (if x < y then y else x))
  | _, _ => none

def foldV (f : V → V → Option V) : V → List V → Option V
  | x, [] => some x
  | x, y :: r => match f x y with | some z => foldV f z r | none => none

def lenV (P : Program) (t : TypeId) (x : V) : Option V :=
  match P.underlying t, x with
  | some .string, .str s => some (.int .i64 s.length)
  | some (.array n _), _ => some (.int .i64 n)
  | some (.pointer arr), _ => (match P.underlying arr with | some (.array n _) => some (.int .i64 n) | _ => none)
  | some (.slice _), .sl _ _ _ n _ => some (.int .i64 n)
  | some (.slice _), .isl _ n _ => some (.int .i64 n)
  | some (.slice _), .nilSl => some (.int .i64 0)
  | _, _ => none

def capV (P : Program) (t : TypeId) (x : V) : Option V :=
  match P.underlying t, x with
  | some (.array n _), _ => some (.int .i64 n)
  | some (.slice _), .sl _ _ _ _ (some n) => some (.int .i64 n)
  | some (.slice _), .nilSl => some (.int .i64 0)
  | _, _ => none

def builtinT (P : Program) (b : Builtin) (ts : List TypeId) (args : List V) : Option V :=
  match b, ts, args with
  | .len, t :: _, x :: _ => lenV P t x
  | .cap, t :: _, x :: _ => capV P t x
  | .min, _, x :: r => foldV minV x r
  | .max, _, x :: r => foldV maxV x r
  | _, _, _ => none

def convT (P : Program) (src dst : TypeId) (x : V) : Option V :=
  match P.underlying src, P.underlying dst, x with
  | some _, some (.int _), .str _ => none
  | some _, some (.int k), x => convN k x
  | some _, some .string, .str s => some (.str s)
  | _, _, _ => none

def optIx (g : Fm) : Option Operand → Int → Option Int
  | none, d => some d
  | some y, _ => match opnd g y with | some v => asIx v | none => none

def slOff (cap : Option Nat) (l : Int) (o s : Nat) : Nat :=
  match cap with
  | some c => if l = c then o else o + l.toNat * s
  | none => o + l.toNat * s

def slCap (cap : Option Nat) (l : Int) : Option Nat :=
  match cap with
  | some c => some (c - l.toNat)
  | none => none

/-- a slice of a text or of a slice -/
def sliceT (P : Program) (t : TypeId) (x : V) (lo : Option Int) (hi : Option Int) : Option (Bool × V) :=
  match P.underlying t, x with
  | some .string, .str s =>
    let l := lo.getD 0
    let u := hi.getD s.length
    some (decide (0 ≤ l) && decide (l ≤ u) && decide (u ≤ s.length), .str ((s.take u.toNat).drop l.toNat))
  | some (.slice e), .sl i o s len cap =>
    if sizeT P e = some s then
      let l := lo.getD 0
      let u := hi.getD len
      some (decide (0 ≤ l) && decide (l ≤ u) && decide (u ≤ (cap.getD len : Nat)),
        .sl i (slOff cap l o s) s (u - l).toNat (slCap cap l))
    else none
  | some (.slice e), .isl s len f =>
    if sizeT P e = some s then
      let l := lo.getD 0
      let u := hi.getD len
      some (decide (0 ≤ l) && decide (l ≤ u) && decide (u ≤ len), .isl s (u - l).toNat (fun i j => f (l.toNat + i) j))
    else none
  | some (.slice e), .nilSl =>
    if sizeT P e = none then none else
    let l := lo.getD 0
    let u := hi.getD 0
    some (decide (l = 0) && decide (u = 0), .nilSl)
  | _, _ => none

def stepT (P : Program) (g : Fm) (op : Op) : Option (Bool × V) :=
  match op with
  | .move x => (match opnd g x with | some v => some (true, v) | none => none)
  | .assign x => (match opnd g x with | some v => some (true, v) | none => none)
  | .pick c a b => (match opnd g c with
    | some (.bool t) => (match pickV t (opnd g a) (opnd g b) with | some v => some (true, v) | none => none)
    | _ => none)
  | .nilCheck x => (match opnd g x with
    | some (.ptr i o) => some (true, .ptr i o)
    | some (.iptr s n f i j) => some (true, .iptr s n f i j)
    | some (.fn f a b) => some (true, .fn f a b)
    | _ => none)
  | .binOp op t x y _ => (match opnd g x, opnd g y with
    | some a, some b => binOpV P op t a b
    | _, _ => none)
  | .unOp op _ x => (match opnd g x with
    | some a => (match unOpV op a with | some v => some (true, v) | none => none)
    | none => none)
  | .convert src dst x => (match opnd g x with
    | some a => (match convT P src dst a with | some v => some (true, v) | none => none)
    | none => none)
  | .sliceToArrayPointer arr x => (match P.underlying arr, opnd g x with
    | some (.array n _), some (.sl i o _ len _) => some (decide (n ≤ len) && decide (0 < n), .ptr i o)
    | _, _ => none)
  | .makeInterface t x => (match P.underlying t, opnd g x with
    | some (.interface _), _ => none
    | some _, some v => some (true, .iface t v)
    | _, _ => none)
  | .makeFunc (.func f) first cap => (match opnds g first.toList, opnds g cap.toList with
    | some a, some b => some (true, .fn f a b)
    | _, _ => none)
  | .slice t x lo hi none => (match opnd g x, (match lo with | none => some none | some y => (match optIx g (some y) 0 with | some n => some (some n) | none => none)),
        (match hi with | none => some none | some y => (match optIx g (some y) 0 with | some n => some (some n) | none => none)) with
    | some v, some l, some u => sliceT P t v l u
    | _, _, _ => none)
  | .fieldAddr t x n => (match P.underlying t, opnd g x with
    | some (.struct fs), some v => (match fs[n]? with
      | some f => (match sizeT P f.type, v with
        | some 0, _ => none
        | some _, .ptr i o => some (true, .ptr i (o + f.offset))
        | some _, .iptr s len h i j => some (true, .iptr s len h i (j + f.offset))
        | _, _ => none)
      | none => none)
    | _, _ => none)
  | .field t x n => (match P.underlying t, opnd g x with
    | some (.struct fs), some (.agg cs) => (match fs[n]? with
      | some f => (match partV P f.type cs f.offset with | some v => some (true, v) | none => none)
      | none => none)
    | _, _ => none)
  | .indexAddr t x ix => (match P.underlying t, opnd g x, opnd g ix with
    | some (.array len e), some (.ptr i o), some iv => (match asIx iv, sizeT P e with
      | some n, some s => some (decide (0 ≤ n) && decide (n < len), .ptr i (o + n.toNat * s))
      | _, _ => none)
    | some (.slice e), some (.sl i o s len _), some iv => (match asIx iv, sizeT P e with
      | some n, some s' => if s' = s then some (decide (0 ≤ n) && decide (n < len), .ptr i (o + n.toNat * s)) else none
      | _, _ => none)
    | some (.slice e), some (.isl s len f), some iv => (match asIx iv, sizeT P e with
      | some n, some s' => if s' = s then some (decide (0 ≤ n) && decide (n < len), .iptr s len f n.toNat 0) else none
      | _, _ => none)
    | _, _, _ => none)
  | .index t x ix => (match P.underlying t, opnd g x, opnd g ix with
    | some .string, some (.str s), some iv => (match asIx iv with
      | some n => some (decide (0 ≤ n) && decide (n < s.length), .u8 (s.getD n.toNat 0))
      | none => none)
    | some (.array len e), some (.agg cs), some iv => (match asIx iv, sizeT P e with
      | some n, some s => (match partV P e cs (n.toNat * s) with
        | some v => some (decide (0 ≤ n) && decide (n < len), v)
        | none => none)
      | _, _ => none)
    | _, _, _ => none)
  | .extract x n => (match opnd g x with
    | some (.tup vs) => (match vs[n]? with | some v => some (true, v) | none => none)
    | _ => none)
  | .build t parts => (match partsV g parts.toList, zeroT P t, placeT P t with
    | some ps, some z, some pl => (match fillV pl z.cells ps with | some cs => some (true, .agg cs) | none => none)
    | _, _, _ => none)
  | .typeAssert x _ asserted true => (match P.underlying asserted, opnd g x, zeroT P asserted with
    | some (.interface _), _, _ => none
    | some _, some .nilIface, some z => some (true, .tup [z, .bool false])
    | some _, some (.iface t v), some z => some (true, if t = asserted then .tup [v, .bool true] else .tup [z, .bool false])
    | _, _, _ => none)
  | .call c => (match c.callee, opnds g c.args.toList with
    | .builtin b, some args => (match builtinT P b c.argTypes.toList args with | some v => some (true, v) | none => none)
    | _, _ => none)
  | _ => none

end Go.Lh
