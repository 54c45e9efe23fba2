/- What the operations do that touch the local heap. -/
import Derived.Test.YtajbaocfdlopbaaLhJ
set_option linter.unusedSimpArgs false
set_option linter.unusedVariables false
namespace Go.Lh

inductive Fin where
  | ret (v : V)
  | pan (v : V)
  deriving Inhabited

abbrev Res := Option (Bool × V × Heap)

def Blk.cut (b : Blk) (o n : Nat) : Blk :=
  match b with
  | .dead => .dead
  | .b8 xs => .b8 ((xs.drop o).take n)
  | .b64 xs => .b64 ((xs.drop o).take n)
  | .ints xs => .ints ((xs.drop o).take n)
  | .vals xs => .vals ((xs.drop o).take n)

def Blk.app (b c : Blk) : Option Blk :=
  match b, c with
  | .vals [], c => some c
  | b, .vals [] => some b
  | .b8 xs, .b8 ys => some (.b8 (xs ++ ys))
  | .b64 xs, .b64 ys => some (.b64 (xs ++ ys))
  | .ints xs, .ints ys => some (.ints (xs ++ ys))
  | .vals xs, .vals ys => some (.vals (xs ++ ys))
  | _, _ => none

def Blk.over (b : Blk) (o : Nat) (c : Blk) : Option Blk :=
  match b, c with
  | b, .vals [] => some b
  | .b8 xs, .b8 ys => some (.b8 (xs.take o ++ ys ++ xs.drop (o + ys.length)))
  | .b64 xs, .b64 ys => some (.b64 (xs.take o ++ ys ++ xs.drop (o + ys.length)))
  | .ints xs, .ints ys => some (.ints (xs.take o ++ ys ++ xs.drop (o + ys.length)))
  | .vals xs, .vals ys => some (.vals (xs.take o ++ ys ++ xs.drop (o + ys.length)))
  | _, _ => none

def isDead : Blk → Bool
  | .dead => true
  | _ => false

/-- a cell that one may store: no struct, and known -/
def V.one : V → Bool
  | .agg _ => false
  | .tup _ => false
  | .any => false
  | _ => true

def Blk.ones : Blk → Bool
  | .vals cs => cs.all V.one
  | .dead => false
  | _ => true

/-- n times the zero of a type -/
def zeroN (P : Program) (e : TypeId) (n : Nat) : Option Blk :=
  match zeroT P e with
  | some (.u8 x) => some (.b8 (List.replicate n x))
  | some (.u64 x) => some (.b64 (List.replicate n x))
  | some (.int .i64 x) => some (.ints (List.replicate n x))
  | some (.agg cs) => (match allU64 cs with
    | some xs => some (.b64 (List.replicate n xs).flatten)
    | none => some (.vals (List.replicate n cs).flatten))
  | some z => some (.vals (List.replicate n z.cells).flatten)
  | none => none

/-- what is told behind append's first argument, or copy's: how many elements, their cells -/
def srcB (h : Heap) (s : Nat) (x : V) : Option (Bool × Nat × Blk) :=
  match x with
  | .str t => if s = 1 then some (true, t.length, .b8 t) else none
  | .nilSl => some (true, 0, .vals [])
  | .sl j o s' len _ => if s' = s then (match h[j]? with
      | some b => if isDead b then none else some (decide (o + len * s ≤ b.len), len, b.cut o (len * s))
      | none => none) else none
  | _ => none

def bytesT (P : Program) (t : TypeId) : Nat := match P.info? t with | some i => i.bytes | none => 0

def most46 : Nat := 2 ^ 46
def most48 : Nat := 2 ^ 48

/-- a type's zero has as many cells as the type -/
def zeroFits (P : Program) (e : TypeId) (s : Nat) : Bool := match zeroT P e with | some z => Nat.beq z.cells.length s | none => false

def appRoom (P : Program) (e : TypeId) (s need : Nat) : Bool := decide (need ≤ most46) && decide ((2 * need + 1024) * bytesT P e ≤ most48) && zeroFits P e s

/-- append of n elements, cells c -/
def appH (P : Program) (idx : Nat) (h : Heap) (e : TypeId) (s : Nat) (x : V) (n : Nat) (c : Blk) : Res :=
  match x with
  | .nilSl => if n = 0 then some (true, .nilSl, h) else some (appRoom P e s n, .sl idx 0 s n none, h.set idx c)
  | .sl i o s' len cap =>
    if s' = s then (match h[i]? with
      | some b => if isDead b then none else (match cap with
        | some k => if len + n ≤ k then (match b.over (o + len * s) c with
              | some b' => some (decide (o + (len + n) * s ≤ b.len) && c.ones, .sl i o s (len + n) (some k), h.set i b')
              | none => none)
            else (match (b.cut o (len * s)).app c with
              | some b' => some (decide (o + len * s ≤ b.len) && appRoom P e s (len + n), .sl idx 0 s (len + n) none, h.set idx b')
              | none => none)
        | none => (match (b.cut o (len * s)).app c with
            | some b' => some (decide (o + len * s ≤ b.len) && appRoom P e s (len + n) && c.ones, .sl idx 0 s (len + n) none, (h.set i .dead).set idx b')
            | none => none))
      | none => none) else none
  | _ => none

/-- does an operation make a block of its own? -/
def Op.makes (P : Program) : Op → Bool
  | .alloc _ => true
  | .box _ _ => true
  | .buildSlice _ _ _ => true
  | .makeSlice _ _ _ => true
  | .convert src dst _ => (match P.underlying src, P.underlying dst with
    | some .string, some (.slice _) => true
    | _, _ => false)
  | .call { callee := .builtin .append, .. } => true
  | _ => false

/-- an operation that touches the heap (no call of a function of Go's): idx: the number of the block that it makes -/
def stepH (P : Program) (idx : Nat) (g : Fm) (h : Heap) (op : Op) : Res :=
  match op with
  | .alloc e => (match zeroBlk P e with
    | some b => some (true, .ptr idx 0, h.set idx b)
    | none => none)
  | .box _ x => (match opnd g x with
    | some .any => none
    | some v => some (true, .ptr idx 0, h.set idx (mkBlk v.cells))
    | none => none)
  | .load t a => (match opnd g a, isAggT P t, sizeT P t with
    | some (.ptr i o), some true, some n => (match h[i]? with
      | some b => if isDead b then none else some (decide (o + n ≤ b.len), .agg (b.atN o n), h)
      | none => none)
    | some (.ptr i o), some false, some _ => (match h[i]? with
      | some b => if isDead b then none else some (decide (o < b.len), b.at o, h)
      | none => none)
    | some (.iptr s len f i j), some true, some n => some (decide (i < len) && decide (j + n ≤ s), .agg ((List.range n).map fun k => f i (j + k)), h)
    | some (.iptr s len f i j), some false, some _ => some (decide (i < len) && decide (j < s), f i j, h)
    | _, _, _ => none)
  | .store t a x => (match opnd g a, opnd g x, sizeT P t with
    | _, some .any, _ => none
    | some (.ptr i o), some v, some n => if n = v.cells.length then (match h[i]? with
      | some b => if isDead b then none else (match b.stN o v.cells with
        | some b' => some (decide (o + v.cells.length ≤ b.len), .any, h.set i b')
        | none => none)
      | none => none) else none
    | _, _, _ => none)
  | .slice t x lo hi none => (match P.underlying t, opnd g x with
    | some (.array n e), some (.ptr i o) => (match sizeT P e, h[i]?, optIx g lo 0, optIx g hi n with
      | some s, some b, some l, some u => if isDead b then none else
        some (decide (0 ≤ l) && decide (l ≤ u) && decide (u ≤ n) && decide (o + n * s ≤ b.len), .sl i (if l = n then o else o + l.toNat * s) s (u - l).toNat (some (n - l.toNat)), h)
      | _, _, _, _ => none)
    | _, _ => none)
  | .buildSlice t len parts => (match P.underlying t, partsV g parts.toList with
    | some (.slice e), some ps => (match sizeT P e, zeroT P e with
      | some s, some z => (match fillV (fun i => some (i * s, s)) (List.replicate len z.cells).flatten ps with
        | some cs => some (decide (len * s ≤ 2 ^ 24) && decide (z.cells.length = s), .sl idx 0 s len (some len), h.set idx (mkBlk cs))
        | none => none)
      | _, _ => none)
    | _, _ => none)
  | .makeSlice t l c => (match P.underlying t, opnd g l, opnd g c with
    | some (.slice e), some lv, some cv => (match asIx lv, asIx cv, sizeT P e with
      | some l, some c, some s => (match zeroN P e c.toNat with
        | some b => some (decide (0 ≤ l) && decide (l ≤ c) && decide (c ≤ (most48 : Nat)) && decide (c.toNat * bytesT P e ≤ most48) && decide (b.len = c.toNat * s),
            .sl idx 0 s l.toNat (some c.toNat), h.set idx b)
        | none => none)
      | _, _, _ => none)
    | _, _, _ => none)
  | .convert src dst x => (match P.underlying src, P.underlying dst, opnd g x with
    | some .string, some (.slice e), some (.str s) => (match P.underlying e with
      | some (.int .u8) => some (true, .sl idx 0 1 s.length none, h.set idx (.b8 s))
      | _ => none)
    | some (.slice e), some .string, some (.sl i o s len _) => (match P.underlying e, h[i]? with
      | some (.int .u8), some (.b8 xs) => if s = 1 then some (decide (o + len ≤ xs.length), .str ((xs.drop o).take len), h) else none
      | _, _ => none)
    | some (.slice e), some .string, some .nilSl => (match P.underlying e with
      | some (.int .u8) => some (true, .str [], h)
      | _ => none)
    | _, _, _ => none)
  | .call { callee := .builtin .append, args, argTypes } => (match argTypes.toList, opnds g args.toList with
    | t :: t' :: _, some [x, y] => (match P.underlying t with
      | some (.slice e) => (match sizeT P e, P.underlying t' with
        | some s, some (.int _) => (match asIx y with
          | some n => (match zeroN P e n.toNat with
            | some c => (match appH P idx h e s x n.toNat c with
              | some (k, r) => some (decide (0 ≤ n) && decide (n ≤ (most46 : Nat)) && decide (n.toNat * bytesT P e ≤ most48) && decide (c.len = n.toNat * s) && k, r)
              | none => none)
            | none => none)
          | none => none)
        | some s, some _ => (match srcB h s y with
          | some (k, n, c) => (match appH P idx h e s x n c with
            | some (k', r) => some (k && k', r)
            | none => none)
          | none => none)
        | _, _ => none)
      | _ => none)
    | _, _ => none)
  | .call { callee := .builtin .copy, args, argTypes } => (match argTypes.toList, opnds g args.toList with
    | t :: _, some [.sl i o s len _, y] => (match P.underlying t with
      | some (.slice e) => if sizeT P e = some s then (match srcB h s y, h[i]? with
        | some (k, n, c), some b => if isDead b then none else (match b.over o (c.cut 0 (min n len * s)) with
          | some b' => some (k && decide (o + min n len * s ≤ b.len) && c.ones, .int .i64 (min n len : Nat), h.set i b')
          | none => none)
        | _, _ => none) else none
      | _ => none)
    | _, _ => none)
  | _ => none

end Go.Lh
