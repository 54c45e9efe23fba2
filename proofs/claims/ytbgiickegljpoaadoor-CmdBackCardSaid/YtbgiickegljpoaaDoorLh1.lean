/- A reckoner for functions over a local heap: what each operation does, and that it is sound; numbers of 256 bits. -/
import Derived.Calls
import Derived.Orders
import Derived.Laws.Sem
import Derived.Laws.World
import Derived.Laws.Cells
import GoSem.Dispatch
import Derived.LaidEql
import Derived.Laws.StructEq
import Derived.ChangeKeysEq
import Derived.Laws.Small
import Derived.IntWalk
import Derived.MapKept
import Derived.Lib.Builder
import Derived.Lib.UnsafeStr
import Derived.Laws.BytesString
set_option linter.unusedSimpArgs false
set_option linter.unusedVariables false
section
namespace Go.Lh
inductive MapK where
  | f (es : List (BitVec 8 × FuncId))
  | s (es : List (List (BitVec 8) × List (BitVec 8)))
def strV (l : List (BitVec 8)) : Value := .string ⟨⟨l.map UInt8.ofBitVec⟩⟩
def MapK.ents : MapK → List (Value × Value)
  | .f es => es.map fun p => (.int .u8 p.1.toNat, .func (.func p.2) #[] #[])
  | .s es => es.map fun p => (strV p.1, strV p.2)
inductive V where
  | any
  | u8 (x : BitVec 8) | u16 (x : BitVec 16) | u32 (x : BitVec 32) | u64 (x : BitVec 64)
  | int (k : IntKind) (n : Int)
  | bool (b : Bool)
  | str (s : List (BitVec 8))
  | ptr (i o : Nat)
  | nilPtr
  | sl (i o s len : Nat) (cap : Option Nat)
  | nilSl
  | isl (s len : Nat) (f : Nat → Nat → V)
  | iptr (s len : Nat) (f : Nat → Nat → V) (i j : Nat)
  | fn (f : FuncId) (first captured : List V)
  | nilFn
  | agg (cs : List V)
  | tup (vs : List V)
  | iface (t : TypeId) (v : V)
  | nilIface
  /-- a loop body's 'yield' -/
  | yld (l : Nat)
  /-- a map that nobody writes any more -/
  | fmap (m : MapK)
  deriving Inhabited
inductive Blk where
  | dead
  | b8 (xs : List (BitVec 8))
  | b64 (xs : List (BitVec 64))
  | ints (xs : List Int)
  | vals (cs : List V)
  /-- a row of bytes, of which one knows that it is a whole block of that type -/
  | buf (e : TypeId) (xs : List (BitVec 8))
  /-- two cells, a pointer and a slice, that are a whole block of that type (a strings.Builder) -/
  | bld (e : TypeId) (a b : V)
  deriving Inhabited
abbrev Heap := List Blk
abbrev Fr := List (Nat × V)
abbrev Fm := Nat → Option V
def Fr.get : Fr → Nat → Option V
  | [], _ => none
  | (i, v) :: r, t => if Nat.beq i t then some v else Fr.get r t
def Fr.put (t : Nat) (v : V) : Fr → Fr
  | [] => [(t, v)]
  | (i, u) :: r => if Nat.beq i t then (i, v) :: r else (i, u) :: Fr.put t v r
def Fm.put (g : Fm) (d : Option Tmp) (v : V) : Fm :=
  match d with
  | some t => fun x => if x = t then some v else g x
  | none => g
theorem beq_iff (i t : Nat) : (Nat.beq i t = true) = (i = t) := by simp
theorem Fr.get_cons (i : Nat) (v : V) (r : Fr) (t : Nat) : Fr.get ((i, v) :: r) t = if i = t then some v else Fr.get r t := by
  show (if Nat.beq i t = true then some v else Fr.get r t) = _
  simp only [beq_iff]
theorem Fr.put_cons (i : Nat) (u : V) (r : Fr) (t : Nat) (v : V) : Fr.put t v ((i, u) :: r) = if i = t then (i, v) :: r else (i, u) :: Fr.put t v r := by
  show (if Nat.beq i t = true then (i, v) :: r else (i, u) :: Fr.put t v r) = _
  simp only [beq_iff]
theorem Fr.get_put (t : Nat) (v : V) (fr : Fr) : (Fr.put t v fr).get = Fm.put fr.get (some t) v := by
  funext x
  induction fr with
  | nil =>
    show Fr.get [(t, v)] x = if x = t then some v else none
    rw [Fr.get_cons]
    by_cases h : t = x
    · subst h; simp
    · rw [if_neg h, if_neg (fun e => h e.symm)]; rfl
  | cons p r ih =>
    obtain ⟨i, u⟩ := p
    simp only [Fm.put] at ih ⊢
    rw [Fr.put_cons]
    by_cases hi : i = t
    · subst hi
      rw [if_pos rfl, Fr.get_cons, Fr.get_cons]
      by_cases hx : i = x
      · subst hx; simp
      · rw [if_neg hx, if_neg (fun e => hx e.symm), if_neg hx]
    · rw [if_neg hi, Fr.get_cons, Fr.get_cons, ih]
      by_cases hx : i = x
      · subst hx; simp [hi]
      · simp [hx]
def bytesOf (s : ByteArray) : List (BitVec 8) := s.data.toList.map UInt8.toBitVec
def V.cells : V → List V
  | .agg cs => cs
  | v => [v]
def Blk.len : Blk → Nat
  | .dead => 0
  | .b8 xs => xs.length
  | .b64 xs => xs.length
  | .ints xs => xs.length
  | .vals cs => cs.length
  | .buf _ xs => xs.length
  | .bld _ _ _ => 2
def Blk.tag : Blk → Option (TypeId × Nat)
  | .buf e _ => some (e, 0)
  | .bld e _ _ => some (e, 2)
  | _ => none
def Blk.at (b : Blk) (o : Nat) : V :=
  match b with
  | .dead => .any
  | .b8 xs => .u8 (xs.getD o 0)
  | .b64 xs => .u64 (xs.getD o 0)
  | .ints xs => .int .i64 (xs.getD o 0)
  | .vals cs => cs.getD o .any
  | .buf _ xs => .u8 (xs.getD o 0)
  | .bld _ a b => [a, b].getD o .any
structure Loc where
  b : Nat
  d : Nat
  room : Nat
abbrev Ren := Nat → Option Loc
mutual
inductive VRel (I : Nat → Prop) (w : World) : Ren → V → Value → Prop where
  | any (ρ : Ren) (v : Value) : VRel I w ρ .any v
  | u8 (ρ : Ren) (x : BitVec 8) : VRel I w ρ (.u8 x) (.int .u8 x.toNat)
  | u16 (ρ : Ren) (x : BitVec 16) : VRel I w ρ (.u16 x) (.int .u16 x.toNat)
  | u32 (ρ : Ren) (x : BitVec 32) : VRel I w ρ (.u32 x) (.int .u32 x.toNat)
  | u64 (ρ : Ren) (x : BitVec 64) : VRel I w ρ (.u64 x) (.int .u64 x.toNat)
  | int (ρ : Ren) (k : IntKind) (n : Int) (hk : k.signed = true) : VRel I w ρ (.int k n) (.int k n)
  | bool (ρ : Ren) (b : Bool) : VRel I w ρ (.bool b) (.bool b)
  | str (ρ : Ren) (s : ByteArray) : VRel I w ρ (.str (bytesOf s)) (.string s)
  | ptr (ρ : Ren) (i o : Nat) (l : Loc) (h : ρ i = some l) : VRel I w ρ (.ptr i o) (.pointer (some ⟨l.b, l.d + o, none⟩))
  | nilPtr (ρ : Ren) : VRel I w ρ .nilPtr (.pointer none)
  | sl (ρ : Ren) (i o s len : Nat) (cap : Option Nat) (c : Nat) (l : Loc) (h : ρ i = some l) (h1 : len ≤ c) (h2 : o + c * s ≤ l.room) (h3 : ∀ n, cap = some n → n = c) :
      VRel I w ρ (.sl i o s len cap) (.slice (some ⟨l.b, l.d + o, none⟩) len c)
  | slz (ρ : Ren) (i o s : Nat) (cap : Option Nat) (y : Nat) (l : Loc) (h : ρ i = some l) (h3 : ∀ n, cap = some n → n = 0) :
      VRel I w ρ (.sl i o s 0 cap) (.slice (some ⟨l.b, y, none⟩) 0 0)
  | nilSl (ρ : Ren) : VRel I w ρ .nilSl (.slice none 0 0)
  | isl (ρ : Ren) (s len : Nat) (f : Nat → Nat → V) (b o c : Nat) (g : Nat → Nat → Value) (hI : I b) (hc : len ≤ c)
      (hw : ∀ i j, i < len → j < s → w.cell? ⟨b, o + i * s + j, none⟩ = some (g i j))
      (hv : ∀ i j, i < len → j < s → VRel I w (fun _ => none) (f i j) (g i j)) :
      VRel I w ρ (.isl s len f) (.slice (some ⟨b, o, none⟩) len c)
  | islz (ρ : Ren) (s : Nat) (f : Nat → Nat → V) (a : Option Addr) (c : Nat) (h : a = none → c = 0) : VRel I w ρ (.isl s 0 f) (.slice a 0 c)
  | iptr (ρ : Ren) (s len : Nat) (f : Nat → Nat → V) (b o i j : Nat) (g : Nat → Nat → Value) (hI : I b)
      (hw : ∀ i j, i < len → j < s → w.cell? ⟨b, o + i * s + j, none⟩ = some (g i j))
      (hv : ∀ i j, i < len → j < s → VRel I w (fun _ => none) (f i j) (g i j)) :
      VRel I w ρ (.iptr s len f i j) (.pointer (some ⟨b, o + i * s + j, none⟩))
  | fn (ρ : Ren) (f : FuncId) (a b : List V) (a' b' : List Value) (ha : VsRel I w ρ a a') (hb : VsRel I w ρ b b') : VRel I w ρ (.fn f a b) (.func (.func f) ⟨a'⟩ ⟨b'⟩)
  | nilFn (ρ : Ren) : VRel I w ρ .nilFn .nilFunc
  | agg (ρ : Ren) (cs : List V) (cs' : List Value) (h : VsRel I w ρ cs cs') : VRel I w ρ (.agg cs) (.agg ⟨cs'⟩)
  | tup (ρ : Ren) (cs : List V) (cs' : List Value) (h : VsRel I w ρ cs cs') : VRel I w ρ (.tup cs) (.tuple ⟨cs'⟩)
  | iface (ρ : Ren) (t : TypeId) (v : V) (v' : Value) (h : VRel I w ρ v v') : VRel I w ρ (.iface t v) (.iface t v')
  | nilIface (ρ : Ren) : VRel I w ρ .nilIface .nilIface
  | yld (ρ : Ren) (l : Nat) : VRel I w ρ (.yld l) (.func (.yield l) #[] #[])
  | fmap (ρ : Ren) (m : MapK) (r : Nat) (xs : Array MapEntry) (clk : Nat) (hI : I r) (hw : w.heap[r]? = some (.map xs clk))
      (hx : xs.toList.map (fun e => (e.key, e.val)) = m.ents) : VRel I w ρ (.fmap m) (.map (some r))
inductive VsRel (I : Nat → Prop) (w : World) : Ren → List V → List Value → Prop where
  | nil (ρ : Ren) : VsRel I w ρ [] []
  | cons (ρ : Ren) (v : V) (v' : Value) (r : List V) (r' : List Value) (h : VRel I w ρ v v') (hr : VsRel I w ρ r r') : VsRel I w ρ (v :: r) (v' :: r')
end
structure Le (ρ : Ren) (I : Nat → Prop) (w : World) (ρ' : Ren) (I' : Nat → Prop) (w' : World) : Prop where
  ren : ∀ i l, ρ i = some l → ρ' i = some l
  imm : ∀ b, I b → I' b
  mem : ∀ b, I b → w'.heap[b]? = w.heap[b]?
theorem Le.refl (ρ : Ren) (I : Nat → Prop) (w : World) : Le ρ I w ρ I w := ⟨fun _ _ h => h, fun _ h => h, fun _ _ => rfl⟩
theorem cell_of_heap {w w' : World} {b : Nat} (h : w'.heap[b]? = w.heap[b]?) (o : Nat) : w'.cell? ⟨b, o, none⟩ = w.cell? ⟨b, o, none⟩ := by
  simp only [World.cell?]; rw [h]
mutual
theorem VRel.mono {I I' : Nat → Prop} {w w' : World} (hI : ∀ b, I b → I' b) (hm : ∀ b, I b → w'.heap[b]? = w.heap[b]?) {ρ : Ren} {v : V} {v' : Value} (h : VRel I w ρ v v') :
    ∀ ρ' : Ren, (∀ i l, ρ i = some l → ρ' i = some l) → VRel I' w' ρ' v v' := by
  intro ρ' hr
  cases h with
  | any => exact .any _ _
  | u8 => exact .u8 _ _
  | u16 => exact .u16 _ _
  | u32 => exact .u32 _ _
  | u64 => exact .u64 _ _
  | int _ _ _ hk => exact .int _ _ _ hk
  | bool => exact .bool _ _
  | str => exact .str _ _
  | ptr _ i o l h => exact .ptr _ _ _ _ (hr _ _ h)
  | nilPtr => exact .nilPtr _
  | sl _ i o s len cap c l h h1 h2 h3 => exact .sl _ _ _ _ _ _ _ _ (hr _ _ h) h1 h2 h3
  | slz _ i o s cap y l h h3 => exact .slz _ _ _ _ _ _ _ (hr _ _ h) h3
  | nilSl => exact .nilSl _
  | isl _ s len f b o c g hI' hc hw hv =>
    exact .isl _ s len f b o c g (hI _ hI') hc (fun i j hi hj => by rw [cell_of_heap (hm _ hI')]; exact hw i j hi hj) (fun i j hi hj => (hv i j hi hj).mono hI hm _ (fun _ _ h => h))
  | islz _ _ _ _ _ h => exact .islz _ _ _ _ _ h
  | iptr _ s len f b o i j g hI' hw hv =>
    exact .iptr _ s len f b o i j g (hI _ hI') (fun i j hi hj => by rw [cell_of_heap (hm _ hI')]; exact hw i j hi hj) (fun i j hi hj => (hv i j hi hj).mono hI hm _ (fun _ _ h => h))
  | fn _ f a b a' b' ha hb => exact .fn _ _ _ _ _ _ (ha.mono hI hm _ hr) (hb.mono hI hm _ hr)
  | nilFn => exact .nilFn _
  | agg _ cs cs' h => exact .agg _ _ _ (h.mono hI hm _ hr)
  | tup _ cs cs' h => exact .tup _ _ _ (h.mono hI hm _ hr)
  | iface _ t v v' h => exact .iface _ _ _ _ (h.mono hI hm _ hr)
  | nilIface => exact .nilIface _
  | yld _ l => exact .yld _ _
  | fmap _ es r xs clk hI' hw hx => exact .fmap _ es r xs clk (hI _ hI') (by rw [hm _ hI']; exact hw) hx
theorem VsRel.mono {I I' : Nat → Prop} {w w' : World} (hI : ∀ b, I b → I' b) (hm : ∀ b, I b → w'.heap[b]? = w.heap[b]?) {ρ : Ren} {v : List V} {v' : List Value} (h : VsRel I w ρ v v') :
    ∀ ρ' : Ren, (∀ i l, ρ i = some l → ρ' i = some l) → VsRel I' w' ρ' v v' := by
  intro ρ' hr
  cases h with
  | nil => exact .nil _
  | cons _ v v' r r' h hr' => exact .cons _ _ _ _ _ (h.mono hI hm _ hr) (hr'.mono hI hm _ hr)
end
theorem VRel.le {ρ ρ' : Ren} {I I' : Nat → Prop} {w w' : World} (L : Le ρ I w ρ' I' w') {v : V} {v' : Value} (h : VRel I w ρ v v') : VRel I' w' ρ' v v' := h.mono L.imm L.mem _ L.ren
theorem VsRel.le {ρ ρ' : Ren} {I I' : Nat → Prop} {w w' : World} (L : Le ρ I w ρ' I' w') {v : List V} {v' : List Value} (h : VsRel I w ρ v v') : VsRel I' w' ρ' v v' := h.mono L.imm L.mem _ L.ren
theorem VsRel.length {I : Nat → Prop} {w : World} {ρ : Ren} : ∀ {v : List V} {v' : List Value}, VsRel I w ρ v v' → v.length = v'.length
  | [], _, h => by cases h; rfl
  | _ :: r, _, h => by cases h with | cons _ _ _ _ _ _ hr => simp [hr.length]
theorem VsRel.get {I : Nat → Prop} {w : World} {ρ : Ren} : ∀ {v : List V} {v' : List Value}, VsRel I w ρ v v' → ∀ (n : Nat) (x : V), v[n]? = some x → ∃ x', v'[n]? = some x' ∧ VRel I w ρ x x'
  | [], _, _, n, x, hx => by simp at hx
  | a :: r, _, h, n, x, hx => by
    cases h with
    | cons _ _ v' _ r' h hr =>
      cases n with
      | zero => simp at hx; subst hx; exact ⟨v', rfl, h⟩
      | succ n => simp at hx; simpa using hr.get n x hx
theorem VsRel.append {I : Nat → Prop} {w : World} {ρ : Ren} {b : List V} {b' : List Value} (hb : VsRel I w ρ b b') : ∀ {a : List V} {a' : List Value}, VsRel I w ρ a a' → VsRel I w ρ (a ++ b) (a' ++ b')
  | [], _, h => by cases h; exact hb
  | _ :: _, _, h => by cases h with | cons _ _ _ _ _ h hr => exact .cons _ _ _ _ _ h (VsRel.append hb hr)
theorem VsRel.of_get {I : Nat → Prop} {w : World} {ρ : Ren} : ∀ {v : List V} {v' : List Value}, v.length = v'.length → (∀ (n : Nat) (x : V) (x' : Value), v[n]? = some x → v'[n]? = some x' → VRel I w ρ x x') → VsRel I w ρ v v'
  | [], [], _, _ => .nil _
  | [], _ :: _, h, _ => by simp at h
  | _ :: _, [], h, _ => by simp at h
  | x :: r, y :: s, h, H => .cons _ _ _ _ _ (H 0 x y rfl rfl) (.of_get (by simpa using h) (fun n a b ha hb => H (n + 1) a b (by simpa using ha) (by simpa using hb)))
structure BRel (I : Nat → Prop) (w : World) (ρ : Ren) (l : Loc) (b : Blk) : Prop where
  mem : ∃ C e fz, w.heap[l.b]? = some (.cells C e fz) ∧ C.size = l.d + l.room ∧ (∀ o, o < l.room → ¬ (fz.1 ≤ l.d + o ∧ l.d + o < fz.2)) ∧
    ∀ o, o < b.len → ∃ c, C[l.d + o]? = some c ∧ VRel I w ρ (b.at o) c
  fits : b.len ≤ l.room
  ty : ∀ e n, b.tag = some (e, n) → l.d = 0 ∧ ∃ C fz, w.heap[l.b]? = some (.cells C e fz) ∧ (n ≠ 0 → C.size = n)
structure Rel (ρ : Ren) (I : Nat → Prop) (w : World) (h : Heap) (F : Nat → Prop) : Prop where
  blk : ∀ (i : Nat) (b : Blk), h[i]? = some b → b ≠ .dead → ∃ l, ρ i = some l ∧ BRel I w ρ l b ∧ ¬ I l.b
  free : ∀ i, F i → ρ i = none
  out : ∀ i, h.length ≤ i → ρ i = none
  apart : ∀ (i j : Nat) (x y : Blk) (l l' : Loc), i ≠ j → h[i]? = some x → x ≠ .dead → h[j]? = some y → y ≠ .dead → ρ i = some l → ρ j = some l' → l.b ≠ l'.b
  lt : ∀ b, I b → b < w.heap.size
def Own (ρ : Ren) (h : Heap) (b : Nat) : Prop := ∃ i x l, h[i]? = some x ∧ x ≠ Blk.dead ∧ ρ i = some l ∧ l.b = b
structure Went (ρ : Ren) (I : Nat → Prop) (w : World) (h : Heap) (ρ' : Ren) (I' : Nat → Prop) (w' : World) (h' : Heap) : Prop where
  ren : ∀ i l, ρ i = some l → ρ' i = some l
  imm : ∀ b, I b → I' b
  os : w'.os = w.os
  tape : w'.tape = w.tape
  output : w'.output = w.output
  size : w.heap.size ≤ w'.heap.size
  keep : ∀ b, b < w.heap.size → ¬ Own ρ h b → w'.heap[b]? = w.heap[b]?
  own : ∀ b, Own ρ' h' b → Own ρ h b ∨ w.heap.size ≤ b
  fresh : ∀ b, I' b → I b ∨ Own ρ h b ∨ w.heap.size ≤ b
theorem Went.refl (ρ : Ren) (I : Nat → Prop) (w : World) (h : Heap) : Went ρ I w h ρ I w h :=
  ⟨fun _ _ h => h, fun _ h => h, rfl, rfl, rfl, Nat.le_refl _, fun _ _ _ => rfl, fun _ h => .inl h, fun _ h => .inl h⟩
theorem Went.trans {ρ₁ ρ₂ ρ₃ : Ren} {I₁ I₂ I₃ : Nat → Prop} {w₁ w₂ w₃ : World} {h₁ h₂ h₃ : Heap} (a : Went ρ₁ I₁ w₁ h₁ ρ₂ I₂ w₂ h₂) (b : Went ρ₂ I₂ w₂ h₂ ρ₃ I₃ w₃ h₃) : Went ρ₁ I₁ w₁ h₁ ρ₃ I₃ w₃ h₃ where
  ren i l h := b.ren i l (a.ren i l h)
  imm x h := b.imm x (a.imm x h)
  os := b.os.trans a.os
  tape := b.tape.trans a.tape
  output := b.output.trans a.output
  size := Nat.le_trans a.size b.size
  keep x hx hn := by
    rw [b.keep x (Nat.lt_of_lt_of_le hx a.size) (fun ho => (a.own x ho).elim hn (fun h => by omega))]
    exact a.keep x hx hn
  own x hx := by
    rcases b.own x hx with h | h
    · exact a.own x h
    · exact .inr (Nat.le_trans a.size h)
  fresh x hx := by
    rcases b.fresh x hx with h | h | h
    · exact a.fresh x h
    · rcases a.own x h with h | h
      · exact .inr (.inl h)
      · exact .inr (.inr h)
    · exact .inr (.inr (Nat.le_trans a.size h))
theorem Rel.not_own {ρ : Ren} {I : Nat → Prop} {w : World} {h : Heap} {F : Nat → Prop} (R : Rel ρ I w h F) {b : Nat} (hb : I b) : ¬ Own ρ h b := by
  rintro ⟨i, x, l, hx, hd, hl, rfl⟩
  obtain ⟨l', hl', _, hn⟩ := R.blk i x hx hd
  rw [hl] at hl'
  cases hl'
  exact hn hb
theorem Went.le {ρ ρ' : Ren} {I I' : Nat → Prop} {w w' : World} {h h' : Heap} {F : Nat → Prop} (a : Went ρ I w h ρ' I' w' h') (R : Rel ρ I w h F) : Le ρ I w ρ' I' w' :=
  ⟨a.ren, a.imm, fun b hb => a.keep b (R.lt b hb) (R.not_own hb)⟩
end Go.Lh
end
section
namespace Go.Lh
def inU (w : Nat) (n : Int) : Bool := decide (0 ≤ n) && decide (n < (2 ^ w : Nat))
def ofIntC (k : IntKind) (n : Int) : Option V :=
  match k with
  | .u8 => if inU 8 n then some (.u8 (BitVec.ofInt 8 n)) else none
  | .u16 => if inU 16 n then some (.u16 (BitVec.ofInt 16 n)) else none
  | .u32 => if inU 32 n then some (.u32 (BitVec.ofInt 32 n)) else none
  | .u64 => if inU 64 n then some (.u64 (BitVec.ofInt 64 n)) else none
  | k => some (.int k n)
mutual
def ofValue : Value → Option V
  | .int k n => ofIntC k n
  | .bool b => some (.bool b)
  | .string s => some (.str (bytesOf s))
  | .pointer none => some .nilPtr
  | .slice none 0 0 => some .nilSl
  | .nilFunc => some .nilFn
  | .nilIface => some .nilIface
  | .iface t v => (match ofValue v with | some x => some (.iface t x) | none => none)
  | .agg ⟨l⟩ => (match ofValues l with | some x => some (.agg x) | none => none)
  | .tuple ⟨l⟩ => (match ofValues l with | some x => some (.tup x) | none => none)
  | _ => none
def ofValues : List Value → Option (List V)
  | [] => some []
  | v :: r => match ofValue v, ofValues r with
    | some x, some y => some (x :: y)
    | _, _ => none
end
def opnd (g : Fm) : Operand → Option V
  | .tmp t => g t
  | .const v => ofValue v
  | .func f => some (.fn f [] [])
  | .global _ => none
def opnds (g : Fm) : List Operand → Option (List V)
  | [] => some []
  | x :: r => match opnd g x, opnds g r with
    | some v, some l => some (v :: l)
    | _, _ => none
def isAggT (P : Program) (t : TypeId) : Option Bool :=
  match P.underlying t with
  | some (.struct _) => some true
  | some (.array _ _) => some true
  | some _ => some false
  | none => none
def sizeT (P : Program) (t : TypeId) : Option Nat := match P.info? t with | some i => some i.size | none => none
def zeroT (P : Program) (t : TypeId) : Option V := match P.info? t with
  | some i => (match i.zero with | some z => ofValue z | none => none)
  | none => none
def allU8 : List V → Option (List (BitVec 8))
  | [] => some []
  | .u8 x :: r => (match allU8 r with | some l => some (x :: l) | none => none)
  | _ => none
def allU64 : List V → Option (List (BitVec 64))
  | [] => some []
  | .u64 x :: r => (match allU64 r with | some l => some (x :: l) | none => none)
  | _ => none
def allInt : List V → Option (List Int)
  | [] => some []
  | .int .i64 x :: r => (match allInt r with | some l => some (x :: l) | none => none)
  | _ => none
def mkBlk (cs : List V) : Blk :=
  match cs with
  | .u8 _ :: _ => (match allU8 cs with | some xs => .b8 xs | none => .vals cs)
  | .u64 _ :: _ => (match allU64 cs with | some xs => .b64 xs | none => .vals cs)
  | .int .i64 _ :: _ => (match allInt cs with | some xs => .ints xs | none => .vals cs)
  | _ => .vals cs
def zeroBlk (P : Program) (t : TypeId) : Option Blk := match zeroT P t with
  | some (.agg [.nilPtr, .nilSl]) => some (.bld t .nilPtr .nilSl)
  | some z => some (mkBlk z.cells)
  | none => none
def Blk.atN (b : Blk) (o : Nat) : Nat → List V
  | 0 => []
  | n + 1 => b.at o :: b.atN (o + 1) n
def Blk.st (b : Blk) (o : Nat) (v : V) : Option Blk :=
  match b, v with
  | .b8 xs, .u8 x => some (.b8 (xs.set o x))
  | .b64 xs, .u64 x => some (.b64 (xs.set o x))
  | .ints xs, .int .i64 x => some (.ints (xs.set o x))
  | .buf e xs, .u8 x => some (.buf e (xs.set o x))
  | .bld _ _ _, .agg _ => none
  | .bld _ _ _, .tup _ => none
  | .bld _ _ _, .any => none
  | .bld e a b, v => (match o with | 0 => some (.bld e v b) | 1 => some (.bld e a v) | _ => none)
  | .vals _, .agg _ => none
  | .vals _, .tup _ => none
  | .vals _, .any => none
  | .vals cs, v => some (.vals (cs.set o v))
  | _, _ => none
def Blk.stN (b : Blk) (o : Nat) : List V → Option Blk
  | [] => some b
  | v :: r => match b.st o v with
    | some b' => b'.stN (o + 1) r
    | none => none
def wrapI (k : IntKind) (n : Int) : Int := k.wrap n
def binU {w : Nat} (mk : BitVec w → V) (op : BinOp) (x y : BitVec w) : Option (Bool × V) :=
  match op with
  | .add => some (true, mk (x + y))
  | .sub => some (true, mk (x - y))
  | .mul => some (true, mk (x * y))
  | .quo => some (!(y == 0#w), mk (x / y))
  | .rem => some (!(y == 0#w), mk (x % y))
  | .and => some (true, mk (x &&& y))
  | .or => some (true, mk (x ||| y))
  | .xor => some (true, mk (x ^^^ y))
  | .andNot => some (true, mk (x &&& ~~~y))
  | .eql => some (true, .bool (x == y))
  | .neq => some (true, .bool (x != y))
  | .lss => some (true, .bool (decide (x < y)))
  | .leq => some (true, .bool (decide (x ≤ y)))
  | .gtr => some (true, .bool (decide (y < x)))
  | .geq => some (true, .bool (decide (y ≤ x)))
  | _ => none
def binI (k : IntKind) (op : BinOp) (x y : Int) : Option (Bool × V) :=
  match op with
  | .add => some (true, .int k (wrapI k (x + y)))
  | .sub => some (true, .int k (wrapI k (x - y)))
  | .mul => some (true, .int k (wrapI k (x * y)))
  | .quo => some (!(decide (y = 0)), .int k (wrapI k (x.tdiv y)))
  | .rem => some (!(decide (y = 0)), .int k (x.tmod y))
  | .and => some (true, .int k (wrapI k (BitVec.ofInt k.bits x &&& BitVec.ofInt k.bits y).toNat))
  | .or => some (true, .int k (wrapI k (BitVec.ofInt k.bits x ||| BitVec.ofInt k.bits y).toNat))
  | .xor => some (true, .int k (wrapI k (BitVec.ofInt k.bits x ^^^ BitVec.ofInt k.bits y).toNat))
  | .andNot => some (true, .int k (wrapI k (BitVec.ofInt k.bits x &&& ~~~ BitVec.ofInt k.bits y).toNat))
  | .eql => some (true, .bool (x == y))
  | .neq => some (true, .bool (x != y))
  | .lss => some (true, .bool (decide (x < y)))
  | .leq => some (true, .bool (decide (x ≤ y)))
  | .gtr => some (true, .bool (decide (x > y)))
  | .geq => some (true, .bool (decide (x ≥ y)))
  | _ => none
def shiftBy : V → Option (Bool × Nat)
  | .u8 y => some (true, y.toNat)
  | .u16 y => some (true, y.toNat)
  | .u32 y => some (true, y.toNat)
  | .u64 y => some (true, y.toNat)
  | .int _ n => some (decide (0 ≤ n), n.toNat)
  | _ => none
def shlV (x : V) (n : Nat) : Option V :=
  match x with
  | .u8 x => some (.u8 (x <<< n))
  | .u16 x => some (.u16 (x <<< n))
  | .u32 x => some (.u32 (x <<< n))
  | .u64 x => some (.u64 (x <<< n))
  | .int k x => some (.int k (wrapI k (x * 2 ^ (min n k.bits))))
  | _ => none
def shrV (x : V) (n : Nat) : Option V :=
  match x with
  | .u8 x => some (.u8 (x >>> n))
  | .u16 x => some (.u16 (x >>> n))
  | .u32 x => some (.u32 (x >>> n))
  | .u64 x => some (.u64 (x >>> n))
  | .int k x => some (.int k (x.fdiv (2 ^ (min n k.bits))))
  | _ => none
def ltB : List (BitVec 8) → List (BitVec 8) → Bool
  | _, [] => false
  | [], _ :: _ => true
  | a :: x, b :: y => decide (a < b) || (a == b && ltB x y)
def maxStr : Nat := 9223372036854775807
def binS (op : BinOp) (x y : List (BitVec 8)) : Option (Bool × V) :=
  match op with
  | .add => some (decide (x.length + y.length ≤ maxStr), .str (x ++ y))
  | .eql => some (true, .bool (x == y))
  | .neq => some (true, .bool (!(x == y)))
  | .lss => some (true, .bool (ltB x y))
  | .leq => some (true, .bool (ltB x y || x == y))
  | .gtr => some (true, .bool (!(ltB x y || x == y)))
  | .geq => some (true, .bool (!ltB x y))
  | _ => none
def eqCell : V → V → Option Bool
  | .u8 x, .u8 y => some (x == y)
  | .u16 x, .u16 y => some (x == y)
  | .u32 x, .u32 y => some (x == y)
  | .u64 x, .u64 y => some (x == y)
  | .int k x, .int k' y => if k = k' then some (x == y) else none
  | _, _ => none
def partV (P : Program) (t : TypeId) (cs : List V) (off : Nat) : Option V :=
  match isAggT P t, sizeT P t with
  | some true, some n => some (.agg ((cs.drop off).take n))
  | some false, some _ => cs[off]?
  | _, _ => none
def eqFs (P : Program) (rec_ : TypeId → V → V → Option Bool) (xs ys : List V) : List Field → Option Bool
  | [] => some true
  | f :: r => if f.name ≠ "_" then (match partV P f.type xs f.offset, partV P f.type ys f.offset with
      | some a, some b => (match rec_ f.type a b, eqFs P rec_ xs ys r with
        | some p, some q => some (p && q)
        | _, _ => none)
      | _, _ => none) else eqFs P rec_ xs ys r
def eqAs (P : Program) (rec_ : TypeId → V → V → Option Bool) (e : TypeId) (s : Nat) (xs ys : List V) : Nat → Nat → Option Bool
  | 0, _ => some true
  | n + 1, i => (match partV P e xs (i * s), partV P e ys (i * s) with
      | some a, some b => (match rec_ e a b, eqAs P rec_ e s xs ys n (i + 1) with
        | some p, some q => some (p && q)
        | _, _ => none)
      | _, _ => none)
def eqIn (P : Program) : Nat → TypeId → V → V → Option Bool
  | 0, _, _, _ => none
  | d + 1, t, x, y =>
    match P.underlying t, x, y with
    | some .bool, .bool a, .bool b => some (a == b)
    | some (.int _), x, y => eqCell x y
    | some .string, .str a, .str b => some (a == b)
    | some (.pointer _), .nilPtr, .nilPtr => some true
    | some (.pointer _), .nilPtr, .ptr _ _ => some false
    | some (.pointer _), .ptr _ _, .nilPtr => some false
    | some (.pointer e), .ptr i o, .ptr j o' => if Nat.beq i j && Nat.beq o o' then (match P.info? e with
      | some k => if Nat.beq k.size 0 then none else some true
      | none => none) else none
    | some (.slice _), .nilSl, .nilSl => some true
    | some (.slice _), .nilSl, .sl _ _ _ _ _ => some false
    | some (.slice _), .sl _ _ _ _ _, .nilSl => some false
    | some (.func _ _ _), .nilFn, .nilFn => some true
    | some (.func _ _ _), .nilFn, .fn _ _ _ => some false
    | some (.func _ _ _), .fn _ _ _, .nilFn => some false
    | some (.struct fs), .agg xs, .agg ys => if P.stoodInHeld t then none else eqFs P (eqIn P d) xs ys fs.toList
    | some (.array n e), .agg xs, .agg ys => (match sizeT P e with | some s => eqAs P (eqIn P d) e s xs ys n 0 | none => none)
    | _, _, _ => none
def eqV (P : Program) (t : TypeId) (x y : V) : Option Bool :=
  match x with
  | .agg _ => if P.eqGuardType P.depth t then none else eqIn P 20 t x y
  | _ => eqIn P 20 t x y
def arithV (P : Program) (op : BinOp) (t : TypeId) (x y : V) : Option (Bool × V) :=
  match x, y with
  | .u8 x, .u8 y => binU .u8 op x y
  | .u16 x, .u16 y => binU .u16 op x y
  | .u32 x, .u32 y => binU .u32 op x y
  | .u64 x, .u64 y => binU .u64 op x y
  | .int k x, .int k' y => if k = k' then binI k op x y else none
  | .str x, .str y => binS op x y
  | x, y => (match op, eqV P t x y with
    | .eql, some b => some (true, .bool b)
    | .neq, some b => some (true, .bool (!b))
    | _, _ => none)
def binOpV (P : Program) (op : BinOp) (t : TypeId) (x y : V) : Option (Bool × V) :=
  match op with
  | .shl => (match shiftBy y with
    | some (k, n) => (match shlV x n with | some v => some (k, v) | none => none)
    | none => none)
  | .shr => (match shiftBy y with
    | some (k, n) => (match shrV x n with | some v => some (k, v) | none => none)
    | none => none)
  | op => arithV P op t x y
def unOpV (op : UnOp) (x : V) : Option V :=
  match op, x with
  | .not, .bool b => some (.bool (!b))
  | .neg, .int k n => some (.int k (wrapI k (0 - n)))
  | .xor, .u8 x => some (.u8 (~~~x))
  | .xor, .u16 x => some (.u16 (~~~x))
  | .xor, .u32 x => some (.u32 (~~~x))
  | .xor, .u64 x => some (.u64 (~~~x))
  | _, _ => none
def asIx : V → Option Int
  | .int _ n => some n
  | .u8 x => some x.toNat
  | .u16 x => some x.toNat
  | .u32 x => some x.toNat
  | .u64 x => some x.toNat
  | _ => none
def convInt (k : IntKind) (n : Int) : V :=
  match k with
  | .u8 => .u8 (BitVec.ofInt 8 n)
  | .u16 => .u16 (BitVec.ofInt 16 n)
  | .u32 => .u32 (BitVec.ofInt 32 n)
  | .u64 => .u64 (BitVec.ofInt 64 n)
  | k => .int k (wrapI k n)
def convN (k : IntKind) (x : V) : Option V :=
  match k, x with
  | .u8, .u8 x => some (.u8 x)
  | .u8, .u64 x => some (.u8 (x.setWidth 8))
  | .u16, .u16 x => some (.u16 x)
  | .u64, .u8 x => some (.u64 (x.setWidth 64))
  | .u64, .u16 x => some (.u64 (x.setWidth 64))
  | .u64, .u32 x => some (.u64 (x.setWidth 64))
  | .u64, .u64 x => some (.u64 x)
  | .i64, .u8 x => some (.int .i64 x.toNat)
  | .i64, .u16 x => some (.int .i64 x.toNat)
  | .i64, .u32 x => some (.int .i64 x.toNat)
  | k, x => match asIx x with | some n => some (convInt k n) | none => none
def fieldsOf (P : Program) (t : TypeId) : Option (Array Field) := match P.underlying t with | some (.struct fs) => some fs | _ => none
def setCells (cs : List V) (off : Nat) : List V → List V
  | [] => cs
  | v :: r => setCells (cs.set off v) (off + 1) r
def fillV (place : Nat → Option (Nat × Nat)) (cells : List V) : List (Nat × V) → Option (List V)
  | [] => some cells
  | (i, v) :: rest =>
    match place i with
    | none => none
    | some (off, size) =>
      if Nat.beq v.cells.length size && Nat.ble (off + v.cells.length) cells.length then fillV place (setCells cells off v.cells) rest else none
def partsV (g : Fm) : List (Nat × Operand) → Option (List (Nat × V))
  | [] => some []
  | (i, x) :: r => match opnd g x, partsV g r with
    | some .any, _ => none
    | some v, some l => some ((i, v) :: l)
    | _, _ => none
def fieldPl (P : Program) (fs : Array Field) (i : Nat) : Option (Nat × Nat) :=
  match fs[i]? with
  | some f => (match sizeT P f.type with | some n => some (f.offset, n) | none => none)
  | none => none
def placeT (P : Program) (t : TypeId) : Option (Nat → Option (Nat × Nat)) :=
  match P.underlying t with
  | some (.struct fs) => if fs.toList.all (fun f => (sizeT P f.type).isSome) then some (fieldPl P fs) else none
  | some (.array _ e) => (match sizeT P e with | some n => some (fun i => some (i * n, n)) | none => none)
  | _ => none
end Go.Lh
end
section
namespace Go.Lh
theorem wrap_uns (k : IntKind) (hs : k.signed = false) (n : Int) : k.wrap n = n % (2 ^ k.bits : Int) := by
  simp [IntKind.wrap, hs]
theorem toNat_lt_int {w : Nat} (x : BitVec w) : (x.toNat : Int) < 2 ^ w := by
  have := x.isLt
  exact_mod_cast this
theorem wrap_toNat (k : IntKind) (hs : k.signed = false) (x : BitVec k.bits) : k.wrap (x.toNat : Int) = x.toNat := by
  rw [wrap_uns k hs]
  exact Int.emod_eq_of_lt (by omega) (toNat_lt_int x)
section
variable {P : Program} {w : World}
theorem binU_sound (k : IntKind) (hs : k.signed = false) (mk : BitVec k.bits → V) (op : BinOp) (t : TypeId) (x y : BitVec k.bits) (v : V)
    (hop : op ≠ .shl) (hop' : op ≠ .shr) (h : binU mk op x y = some (true, v)) :
    (∃ z, v = mk z ∧ (binOp op t (.int k x.toNat) (.int k y.toNat)).run P w = .ok (.int k z.toNat) w) ∨
    (∃ b, v = .bool b ∧ (binOp op t (.int k x.toNat) (.int k y.toNat)).run P w = .ok (.bool b) w) := by
  have ofInt_cast : ∀ z : BitVec k.bits, BitVec.ofInt k.bits (z.toNat : Int) = z := fun z => by
    apply BitVec.eq_of_toNat_eq
    rw [BitVec.toNat_ofInt]
    have := toNat_lt_int z
    rw [Int.emod_eq_of_lt (by omega) (by exact_mod_cast this)]
    simp
  cases op <;> simp only [binU, Option.some.injEq, Prod.mk.injEq, reduceCtorEq] at h
  all_goals first | exact absurd rfl hop | exact absurd rfl hop' | skip
  case add =>
    refine .inl ⟨_, h.2.symm, ?_⟩
    simp only [binOp, ne_eq, not_true, if_false, Op.intArith, Sem.run_pure, wrap_uns k hs]
    rw [BitVec.toNat_add]; push_cast; rfl
  case sub =>
    refine .inl ⟨_, h.2.symm, ?_⟩
    simp only [binOp, ne_eq, not_true, if_false, Op.intArith, Sem.run_pure, wrap_uns k hs]
    rw [BitVec.toNat_sub]
    have e : ((x.toNat : Int) - y.toNat) % (2 ^ k.bits : Int) = (((2 ^ k.bits - y.toNat + x.toNat) % 2 ^ k.bits : Nat) : Int) := by
      have hy := y.isLt
      rw [Int.natCast_emod, Int.natCast_add, Int.natCast_sub (by omega)]
      push_cast
      rw [show ((2 : Int) ^ k.bits - y.toNat + x.toNat) = (x.toNat - y.toNat) + (2 : Int) ^ k.bits from by omega, Int.add_emod_right]
    rw [e]
  case mul =>
    refine .inl ⟨_, h.2.symm, ?_⟩
    simp only [binOp, ne_eq, not_true, if_false, Op.intArith, Sem.run_pure, wrap_uns k hs]
    rw [BitVec.toNat_mul]; push_cast; rfl
  case quo =>
    obtain ⟨hy, hv⟩ := h
    refine .inl ⟨_, hv.symm, ?_⟩
    have hy0 : ¬ ((y.toNat : Int) = 0) := by
      intro e
      have : y = 0#k.bits := BitVec.eq_of_toNat_eq (by simpa using e)
      simp [this] at hy
    simp only [binOp, ne_eq, not_true, if_false, Op.intDiv, hy0, Sem.run_pure]
    have e : ((x.toNat : Int).tdiv y.toNat) = ((x / y).toNat : Int) := by
      rw [BitVec.toNat_udiv, Int.ofNat_tdiv]
    rw [e, wrap_toNat k hs]
  case rem =>
    obtain ⟨hy, hv⟩ := h
    refine .inl ⟨_, hv.symm, ?_⟩
    have hy0 : ¬ ((y.toNat : Int) = 0) := by
      intro e
      have : y = 0#k.bits := BitVec.eq_of_toNat_eq (by simpa using e)
      simp [this] at hy
    simp only [binOp, ne_eq, not_true, if_false, Op.intDiv, hy0, Sem.run_pure]
    have e : ((x.toNat : Int).tmod y.toNat) = ((x % y).toNat : Int) := by
      rw [BitVec.toNat_umod, Int.ofNat_tmod]
    rw [e]
  case and => exact .inl ⟨_, h.2.symm, by simp only [binOp, ne_eq, not_true, if_false, Op.intBits, Sem.run_pure, ofInt_cast, wrap_toNat k hs]⟩
  case or => exact .inl ⟨_, h.2.symm, by simp only [binOp, ne_eq, not_true, if_false, Op.intBits, Sem.run_pure, ofInt_cast, wrap_toNat k hs]⟩
  case xor => exact .inl ⟨_, h.2.symm, by simp only [binOp, ne_eq, not_true, if_false, Op.intBits, Sem.run_pure, ofInt_cast, wrap_toNat k hs]⟩
  case andNot => exact .inl ⟨_, h.2.symm, by simp only [binOp, ne_eq, not_true, if_false, Op.intBits, Sem.run_pure, ofInt_cast, wrap_toNat k hs]⟩
  case eql =>
    refine .inr ⟨_, h.2.symm, ?_⟩
    simp only [binOp, ne_eq, not_true, if_false, Op.intCmp, Sem.run_pure]
    have e : ((x.toNat : Int) == y.toNat) = (x == y) := by
      rw [Bool.eq_iff_iff]; simp only [beq_iff_eq, Int.natCast_inj]; exact BitVec.toNat_inj
    rw [e]
  case neq =>
    refine .inr ⟨_, h.2.symm, ?_⟩
    simp only [binOp, ne_eq, not_true, if_false, Op.intCmp, Sem.run_pure]
    have e : ((x.toNat : Int) != y.toNat) = (x != y) := by
      rw [Bool.eq_iff_iff]; simp only [bne_iff_ne, ne_eq, Int.natCast_inj]; rw [BitVec.toNat_inj]
    rw [e]
  all_goals
    refine .inr ⟨_, h.2.symm, ?_⟩
    simp only [binOp, ne_eq, not_true, if_false, Op.intCmp, Sem.run_pure]
    simp only [BitVec.lt_def, BitVec.le_def, Int.ofNat_lt, Int.ofNat_le, gt_iff_lt, ge_iff_le]
theorem binI_sound (k : IntKind) (op : BinOp) (t : TypeId) (x y : Int) (v : V)
    (h : binI k op x y = some (true, v)) :
    (∃ z, v = .int k z ∧ (binOp op t (.int k x) (.int k y)).run P w = .ok (.int k z) w) ∨
    (∃ b, v = .bool b ∧ (binOp op t (.int k x) (.int k y)).run P w = .ok (.bool b) w) := by
  cases op <;> simp only [binI, Option.some.injEq, Prod.mk.injEq, reduceCtorEq, Bool.not_eq_true', decide_eq_false_iff_not, true_and] at h
  case quo => exact .inl ⟨_, h.2.symm, by simp only [binOp, ne_eq, not_true, if_false, Op.intDiv, h.1, Sem.run_pure, wrapI]⟩
  case rem => exact .inl ⟨_, h.2.symm, by simp only [binOp, ne_eq, not_true, if_false, Op.intDiv, h.1, Sem.run_pure]⟩
  case add => exact .inl ⟨_, h.symm, by simp only [binOp, ne_eq, not_true, if_false, Op.intArith, Sem.run_pure, wrapI]⟩
  case sub => exact .inl ⟨_, h.symm, by simp only [binOp, ne_eq, not_true, if_false, Op.intArith, Sem.run_pure, wrapI]⟩
  case mul => exact .inl ⟨_, h.symm, by simp only [binOp, ne_eq, not_true, if_false, Op.intArith, Sem.run_pure, wrapI]⟩
  case and => exact .inl ⟨_, h.symm, by simp only [binOp, ne_eq, not_true, if_false, Op.intBits, Sem.run_pure, wrapI]⟩
  case or => exact .inl ⟨_, h.symm, by simp only [binOp, ne_eq, not_true, if_false, Op.intBits, Sem.run_pure, wrapI]⟩
  case xor => exact .inl ⟨_, h.symm, by simp only [binOp, ne_eq, not_true, if_false, Op.intBits, Sem.run_pure, wrapI]⟩
  case andNot => exact .inl ⟨_, h.symm, by simp only [binOp, ne_eq, not_true, if_false, Op.intBits, Sem.run_pure, wrapI]⟩
  all_goals exact .inr ⟨_, h.symm, by simp only [binOp, ne_eq, not_true, if_false, Op.intCmp, Sem.run_pure]⟩
theorem shl_toNat (n m : Nat) (x : BitVec m) : ((x.toNat : Int) * 2 ^ (min n m)) % (2 ^ m : Int) = ((x <<< n).toNat : Int) := by
  rw [BitVec.toNat_shiftLeft, Nat.shiftLeft_eq]
  rcases Nat.le_total n m with h | h
  · rw [Nat.min_eq_left h]; push_cast; rfl
  · rw [Nat.min_eq_right h, Int.mul_emod_left]
    obtain ⟨d, rfl⟩ := Nat.exists_eq_add_of_le h
    rw [Nat.pow_add, ← Nat.mul_assoc, Nat.mul_right_comm, Nat.mul_mod_left]; rfl
theorem shr_toNat (n m : Nat) (x : BitVec m) : (x.toNat : Int).fdiv (2 ^ (min n m)) = ((x >>> n).toNat : Int) := by
  rw [BitVec.toNat_ushiftRight, Nat.shiftRight_eq_div_pow]
  have e : ∀ k : Nat, (x.toNat : Int).fdiv (2 ^ k) = ((x.toNat / 2 ^ k : Nat) : Int) := fun k => by
    rw [Int.fdiv_eq_ediv_of_nonneg _ (by exact Int.le_of_lt (Int.pow_pos (by omega)))]; push_cast; rfl
  rw [e]
  rcases Nat.le_total n m with h | h
  · rw [Nat.min_eq_left h]
  · rw [Nat.min_eq_right h, Nat.div_eq_of_lt x.isLt, Nat.div_eq_of_lt (Nat.lt_of_lt_of_le x.isLt (Nat.pow_le_pow_right (by omega) h))]
end
end Go.Lh
end
section
namespace Go.Lh
section
variable {P : Program} {w : World} {I : Nat → Prop} {ρ : Ren}
theorem bytesOf_length (s : ByteArray) : (bytesOf s).length = s.size := by
  simp [bytesOf]
theorem bytesOf_get (s : ByteArray) (i : Nat) : (bytesOf s)[i]? = (s[i]?).map UInt8.toBitVec := by
  have h : s.data.toList[i]? = s[i]? := by
    rw [Array.getElem?_toList]
    rcases Nat.lt_or_ge i s.size with h | h
    · rw [Array.getElem?_eq_getElem h, getElem?_pos s i h]; rfl
    · rw [Array.getElem?_eq_none h, getElem?_neg s i (by omega)]
  simp only [bytesOf, List.getElem?_map, h]
theorem ba_toList (s : ByteArray) : s.toList = s.data.toList := by
  have key : ∀ (n i : Nat) (r : List UInt8), s.size - i = n → ByteArray.toList.loop s i r = r.reverse ++ s.data.toList.drop i := by
    intro n
    induction n with
    | zero =>
      intro i r h
      unfold ByteArray.toList.loop
      have : ¬ i < s.size := by omega
      rw [if_neg this, List.drop_eq_nil_of_le (by simp; omega)]; simp
    | succ n ih =>
      intro i r h
      unfold ByteArray.toList.loop
      have hi : i < s.size := by omega
      rw [if_pos hi, ih (i + 1) _ (by omega)]
      have hi' : i < s.data.toList.length := by simpa using hi
      have e : s.data.toList.drop i = s.data.toList[i] :: s.data.toList.drop (i + 1) := List.drop_eq_getElem_cons hi'
      have e2 : s.get! i = s.data.toList[i] := by
        show s.data[i]! = _
        rw [getElem!_pos s.data i (by simpa using hi)]; simp
      rw [e, e2]; simp
  have := key s.size 0 [] (by omega)
  simpa [ByteArray.toList] using this
theorem bytesOf_inj {s t : ByteArray} : bytesOf s = bytesOf t ↔ s.toList = t.toList := by
  rw [ba_toList, ba_toList]
  constructor
  · intro h
    have := congrArg (List.map UInt8.ofBitVec) h
    simpa [bytesOf, List.map_map, Function.comp_def] using this
  · intro h; simp [bytesOf, h]
theorem bytesOf_beq (s t : ByteArray) : (s.toList == t.toList) = (bytesOf s == bytesOf t) := by
  rw [Bool.eq_iff_iff]; simp only [beq_iff_eq]; exact bytesOf_inj.symm
theorem bytesLess_eq : ∀ (x y : List UInt8), Op.bytesLess x y = ltB (x.map UInt8.toBitVec) (y.map UInt8.toBitVec)
  | [], [] => rfl
  | _ :: _, [] => by simp [Op.bytesLess, ltB]
  | [], _ :: _ => rfl
  | a :: x, b :: y => by
    simp only [Op.bytesLess, ltB, List.map_cons, bytesLess_eq x y]
    have h1 : (a == b) = (a.toBitVec == b.toBitVec) := by
      rw [Bool.eq_iff_iff]; simp only [beq_iff_eq]; exact ⟨fun h => by rw [h], fun h => UInt8.toBitVec_inj.1 h⟩
    have h2 : (a < b) = (a.toBitVec < b.toBitVec) := rfl
    simp only [h1, h2]
theorem bytesOf_append (s t : ByteArray) : bytesOf (s ++ t) = bytesOf s ++ bytesOf t := by
  simp [bytesOf, ByteArray.data_append]
theorem binS_sound (op : BinOp) (t : TypeId) (x y : ByteArray) (v : V) (hop : op ≠ .shl) (hop' : op ≠ .shr) (h : binS op (bytesOf x) (bytesOf y) = some (true, v)) :
    ∃ v', (binOp op t (.string x) (.string y)).run P w = .ok v' w ∧ VRel I w ρ v v' := by
  have hl : Op.bytesLess x.toList y.toList = ltB (bytesOf x) (bytesOf y) := by rw [bytesLess_eq, ba_toList, ba_toList]; rfl
  cases op <;> simp only [binS, Option.some.injEq, Prod.mk.injEq, reduceCtorEq, true_and, decide_eq_true_eq, bytesOf_length] at h
  all_goals first | exact absurd rfl hop | exact absurd rfl hop' | skip
  case add =>
    obtain ⟨h1, rfl⟩ := h
    refine ⟨.string (x ++ y), ?_, ?_⟩
    · simp only [binOp, Op.stringOp]
      rw [if_neg]
      · rfl
      · have : IntKind.i64.max = 9223372036854775807 := by simp [IntKind.max, IntKind.signed, IntKind.bits]
        unfold maxStr at h1
        rw [this]; omega
    · rw [← bytesOf_append]; exact .str _ _
  all_goals
    subst h
    refine ⟨_, by simp only [binOp, Op.stringOp, Sem.run_pure]; rfl, ?_⟩
    first
      | (rw [bytesOf_beq]; exact .bool _ _)
      | (rw [hl]; exact .bool _ _)
      | (rw [bytesOf_beq, hl]; exact .bool _ _)
theorem shift_sound (op : BinOp) (t : TypeId) {x y v : V} {x' y' : Value} {n : Nat} (hx : VRel I w ρ x x') (hy : VRel I w ρ y y') (hs : shiftBy y = some (true, n))
    (hop : op = .shl ∧ shlV x n = some v ∨ op = .shr ∧ shrV x n = some v) : ∃ v', (binOp op t x' y').run P w = .ok v' w ∧ VRel I w ρ v v' := by
  obtain ⟨yk, b, rfl, hb, rfl⟩ : ∃ yk b, y' = .int yk b ∧ 0 ≤ b ∧ n = b.toNat := by
    cases hy <;> simp [shiftBy] at hs <;> exact ⟨_, _, rfl, by omega, by omega⟩
  have neg : ¬ b < 0 := by omega
  rcases hop with ⟨rfl, h⟩ | ⟨rfl, h⟩
  · cases hx <;> simp only [shlV, Option.some.injEq, reduceCtorEq] at h
    case int k a hk => subst h; exact ⟨_, by simp only [binOp, Op.shift, neg, if_false, Sem.run_pure]; rfl, .int _ _ _ hk⟩
    case u8 a => subst h; exact ⟨_, by simp only [binOp, Op.shift, neg, if_false, Sem.run_pure, wrap_uns .u8 rfl, show IntKind.u8.bits = 8 from rfl, shl_toNat], .u8 _ _⟩
    case u16 a => subst h; exact ⟨_, by simp only [binOp, Op.shift, neg, if_false, Sem.run_pure, wrap_uns .u16 rfl, show IntKind.u16.bits = 16 from rfl, shl_toNat], .u16 _ _⟩
    case u32 a => subst h; exact ⟨_, by simp only [binOp, Op.shift, neg, if_false, Sem.run_pure, wrap_uns .u32 rfl, show IntKind.u32.bits = 32 from rfl, shl_toNat], .u32 _ _⟩
    case u64 a => subst h; exact ⟨_, by simp only [binOp, Op.shift, neg, if_false, Sem.run_pure, wrap_uns .u64 rfl, show IntKind.u64.bits = 64 from rfl, shl_toNat], .u64 _ _⟩
  · cases hx <;> simp only [shrV, Option.some.injEq, reduceCtorEq] at h
    case int k a hk => subst h; exact ⟨_, by simp only [binOp, Op.shift, neg, if_false, Sem.run_pure], .int _ _ _ hk⟩
    case u8 a => subst h; exact ⟨_, by simp only [binOp, Op.shift, neg, if_false, Sem.run_pure, show IntKind.u8.bits = 8 from rfl, shr_toNat], .u8 _ _⟩
    case u16 a => subst h; exact ⟨_, by simp only [binOp, Op.shift, neg, if_false, Sem.run_pure, show IntKind.u16.bits = 16 from rfl, shr_toNat], .u16 _ _⟩
    case u32 a => subst h; exact ⟨_, by simp only [binOp, Op.shift, neg, if_false, Sem.run_pure, show IntKind.u32.bits = 32 from rfl, shr_toNat], .u32 _ _⟩
    case u64 a => subst h; exact ⟨_, by simp only [binOp, Op.shift, neg, if_false, Sem.run_pure, show IntKind.u64.bits = 64 from rfl, shr_toNat], .u64 _ _⟩
end
end Go.Lh
end
section
namespace Go.Lh
section
variable {P : Program} {w : World} {I : Nat → Prop} {ρ : Ren}
theorem run_isAggT {t : TypeId} {b : Bool} (h : isAggT P t = some b) : (isAgg t).run P w = .ok b w := by
  unfold isAggT at h
  cases hu : P.underlying t with
  | none => simp [hu] at h
  | some d =>
    simp only [isAgg, Sem.run_bind, run_underlying hu, Result.andThen_ok]
    rw [hu] at h
    cases d <;> simp at h <;> subst h <;> rfl
theorem run_sizeT {t : TypeId} {n : Nat} (h : sizeT P t = some n) : (sizeOf t).run P w = .ok n w := by
  unfold sizeT at h
  cases hi : P.info? t with
  | none => simp [hi] at h
  | some i =>
    simp only [hi, Option.some.injEq] at h
    rw [run_sizeOf w hi]
    simp [Program.cellsOf, hi, h]
theorem VsRel.take {xs : List V} {xs' : List Value} (h : VsRel I w ρ xs xs') (n : Nat) : VsRel I w ρ (xs.take n) (xs'.take n) := by
  refine .of_get (by simp [h.length]) (fun i x x' hx hx' => ?_)
  rw [List.getElem?_take] at hx hx'
  split at hx
  · obtain ⟨y, hy, hr⟩ := h.get i x hx
    rename_i hlt
    rw [if_pos hlt, hy] at hx'
    cases hx'; exact hr
  · cases hx
theorem VsRel.drop {xs : List V} {xs' : List Value} (h : VsRel I w ρ xs xs') (n : Nat) : VsRel I w ρ (xs.drop n) (xs'.drop n) := by
  refine .of_get (by simp [h.length]) (fun i x x' hx hx' => ?_)
  rw [List.getElem?_drop] at hx hx'
  obtain ⟨y, hy, hr⟩ := h.get _ x hx
  rw [hy] at hx'
  cases hx'; exact hr
theorem VsRel.set {xs : List V} {xs' : List Value} (h : VsRel I w ρ xs xs') (n : Nat) {v : V} {v' : Value} (hv : VRel I w ρ v v') : VsRel I w ρ (xs.set n v) (xs'.set n v') := by
  refine .of_get (by simp [h.length]) (fun i x x' hx hx' => ?_)
  rw [List.getElem?_set] at hx hx'
  split at hx
  · rename_i he
    subst he
    simp only [if_true] at hx'
    split at hx
    · split at hx'
      · cases hx; cases hx'; exact hv
      · cases hx'
    · cases hx
  · rename_i he
    rw [if_neg he] at hx'
    obtain ⟨y, hy, hr⟩ := h.get _ x hx
    rw [hy] at hx'
    cases hx'; exact hr
theorem partV_sound {t : TypeId} {xs : List V} {xs' : List Value} {off : Nat} {v : V} (hx : VsRel I w ρ xs xs') (h : partV P t xs off = some v) :
    ∃ v', (part t ⟨xs'⟩ off).run P w = .ok v' w ∧ VRel I w ρ v v' := by
  unfold partV at h
  cases ha : isAggT P t with
  | none => simp [ha] at h
  | some b =>
    cases hs : sizeT P t with
    | none => cases b <;> simp [ha, hs] at h
    | some n =>
      simp only [part, Sem.run_bind, run_isAggT ha, Result.andThen_ok]
      cases b
      · simp only [ha, hs] at h
        obtain ⟨v', hv', hr⟩ := hx.get off v h
        refine ⟨v', ?_, hr⟩
        have : (⟨xs'⟩ : Array Value)[off]? = some v' := by simpa using hv'
        simp [this]
      · simp only [ha, hs, Option.some.injEq] at h
        subst h
        refine ⟨.agg ⟨(xs'.drop off).take n⟩, ?_, .agg _ _ _ ((hx.drop off).take n)⟩
        simp [run_sizeT hs, List.extract_eq_take_drop]
theorem eqCell_sound (d : Nat) {t : TypeId} {k : IntKind} {x y : V} {x' y' : Value} {b : Bool} (hu : P.underlying t = some (.int k)) (hx : VRel I w ρ x x') (hy : VRel I w ρ y y') (h : eqCell x y = some b) :
    (Op.equalIn (d + 1) t x' y').run P w = .ok b w := by
  have nat : ∀ {m : Nat} (p q : BitVec m), ((p.toNat : Int) == q.toNat) = (p == q) := fun p q => by
    rw [Bool.eq_iff_iff]; simp only [beq_iff_eq, Int.natCast_inj]; exact BitVec.toNat_inj
  cases hx <;> cases hy <;> simp only [eqCell, Option.some.injEq, reduceCtorEq] at h
  case u8.u8 => subst h; rw [run_equalIn_int w d t _ _ _ _ hu, nat]
  case u16.u16 => subst h; rw [run_equalIn_int w d t _ _ _ _ hu, nat]
  case u32.u32 => subst h; rw [run_equalIn_int w d t _ _ _ _ hu, nat]
  case u64.u64 => subst h; rw [run_equalIn_int w d t _ _ _ _ hu, nat]
  case int.int k1 a hk k2 c hk2 =>
    split at h
    · rename_i he; subst he; simp only [Option.some.injEq] at h; subst h
      rw [run_equalIn_int w d t _ _ _ _ hu]
    · cases h
def EqSound (P : Program) (w : World) (I : Nat → Prop) (ρ : Ren) (e : Nat) (r : TypeId → V → V → Option Bool) : Prop :=
  ∀ t x y x' y' b, VRel I w ρ x x' → VRel I w ρ y y' → r t x y = some b → (Op.equalIn e t x' y').run P w = .ok b w
theorem eqFs_sound {e : Nat} {r : TypeId → V → V → Option Bool} (hr : EqSound P w I ρ e r) {xs ys : List V} {xs' ys' : List Value} (hx : VsRel I w ρ xs xs') (hy : VsRel I w ρ ys ys') :
    ∀ (fs : List Field) (b : Bool), eqFs P r xs ys fs = some b → (Op.eqFields e ⟨xs'⟩ ⟨ys'⟩ fs).run P w = .ok b w
  | [], b, h => by simp [eqFs] at h; subst h; simp [Op.eqFields]
  | f :: fs, b, h => by
    simp only [eqFs] at h
    simp only [Op.eqFields, Sem.run_ite]
    split at h
    · rename_i hn
      rw [if_pos hn]
      cases h1 : partV P f.type xs f.offset with
      | none => simp [h1] at h
      | some a =>
        cases h2 : partV P f.type ys f.offset with
        | none => simp [h1, h2] at h
        | some c =>
          cases h3 : r f.type a c with
          | none => simp [h1, h2, h3] at h
          | some p =>
            cases h4 : eqFs P r xs ys fs with
            | none => simp [h1, h2, h3, h4] at h
            | some q =>
              simp only [h1, h2, h3, h4, Option.some.injEq] at h
              subst h
              obtain ⟨a', ha', hra⟩ := partV_sound (P := P) hx h1
              obtain ⟨c', hc', hrc⟩ := partV_sound (P := P) hy h2
              simp only [Sem.run_bind, ha', hc', Result.andThen_ok, hr _ _ _ _ _ _ hra hrc h3]
              cases p
              · simp
              · simp [eqFs_sound hr hx hy fs q h4]
    · rename_i hn
      rw [if_neg hn]
      exact eqFs_sound hr hx hy fs b h
def eqElems (d : Nat) (elem : TypeId) (n : Nat) (xs ys : Array Value) : List Nat → Sem Bool
  | [] => pure true
  | i :: r => do
    let a ← part elem xs (i * n)
    let b ← part elem ys (i * n)
    let q ← Op.equalIn d elem a b
    if (!q) = true then pure false else eqElems d elem n xs ys r
theorem run_equalIn_array (d : Nat) (t elem : TypeId) (len n : Nat) (xs ys : Array Value) (ht : P.underlying t = some (.array len elem)) (hn : sizeT P elem = some n) :
    (Op.equalIn (d + 1) t (.agg xs) (.agg ys)).run P w = (eqElems d elem n xs ys (List.range' 0 len)).run P w := by
  simp only [Op.equalIn, Sem.run_bind, run_underlying ht, run_sizeT hn, Result.andThen_ok]
  rw [Std.Legacy.Range.forIn_eq_forIn_range']
  have e : Std.Legacy.Range.size [:len] = len := by simp [Std.Legacy.Range.size]
  simp only [e]
  generalize List.range' 0 len 1 = l
  clear ht hn
  induction l generalizing w with
  | nil => simp [eqElems]
  | cons i l ih =>
    simp only [List.forIn_cons, eqElems, Sem.run_bind, Sem.run_ite]
    generalize (part elem xs (i * n)).run P w = r1
    cases r1 with
    | ok a w1 =>
      simp only [Result.andThen_ok]
      generalize (part elem ys (i * n)).run P w1 = r2
      cases r2 with
      | ok b w2 =>
        simp only [Result.andThen_ok]
        generalize (Op.equalIn d elem a b).run P w2 = r3
        cases r3 with
        | ok r w3 =>
          cases r
          · simp only [Result.andThen_ok, Bool.not_false, if_true, Sem.run_pure]
          · simp only [Result.andThen_ok, Bool.not_true, Bool.false_eq_true, if_false, Sem.run_pure]
            exact ih
        | halt x w3 => simp [Result.andThen]
      | halt x w2 => simp [Result.andThen]
    | halt x w1 => simp [Result.andThen]
theorem eqAs_sound {e : Nat} {r : TypeId → V → V → Option Bool} (hr : EqSound P w I ρ e r) {elem : TypeId} {s : Nat} {xs ys : List V} {xs' ys' : List Value} (hx : VsRel I w ρ xs xs') (hy : VsRel I w ρ ys ys') :
    ∀ (n i : Nat) (b : Bool), eqAs P r elem s xs ys n i = some b → (eqElems e elem s ⟨xs'⟩ ⟨ys'⟩ (List.range' i n)).run P w = .ok b w
  | 0, _, b, h => by simp [eqAs] at h; subst h; simp [eqElems]
  | n + 1, i, b, h => by
    simp only [eqAs] at h
    rw [List.range'_succ]
    simp only [eqElems]
    cases h1 : partV P elem xs (i * s) with
    | none => simp [h1] at h
    | some a =>
      cases h2 : partV P elem ys (i * s) with
      | none => simp [h1, h2] at h
      | some c =>
        cases h3 : r elem a c with
        | none => simp [h1, h2, h3] at h
        | some p =>
          cases h4 : eqAs P r elem s xs ys n (i + 1) with
          | none => simp [h1, h2, h3, h4] at h
          | some q =>
            simp only [h1, h2, h3, h4, Option.some.injEq] at h
            subst h
            obtain ⟨a', ha', hra⟩ := partV_sound (P := P) hx h1
            obtain ⟨c', hc', hrc⟩ := partV_sound (P := P) hy h2
            simp only [Sem.run_bind, ha', hc', Result.andThen_ok, hr _ _ _ _ _ _ hra hrc h3]
            cases p
            · simp
            · simpa using eqAs_sound hr hx hy n (i + 1) q h4
theorem eqIn_sound : ∀ (d e : Nat), d ≤ e → EqSound P w I ρ e (eqIn P d)
  | 0, _, _ => fun _ _ _ _ _ _ _ _ h => by simp [eqIn] at h
  | d + 1, 0, hle => by omega
  | d + 1, e + 1, hle => fun t x y x' y' b hx hy h => by
    have ih := eqIn_sound d e (by omega)
    simp only [eqIn] at h
    cases hu : P.underlying t with
    | none => simp [hu] at h
    | some ty =>
      rw [hu] at h
      split at h <;> rename_i hd <;> first | cases h | skip
      all_goals try (injection hd with hd; subst hd)
      · cases hx; cases hy; exact run_equalIn_bool' w e t _ _ hu
      · exact eqCell_sound e hu hx hy h
      · cases hx; cases hy
        rw [run_equalIn_string w e t _ _ hu, bytesOf_beq]
      · cases hx <;> cases hy <;> simp [Op.equalIn, run_underlying hu]
      · cases hx <;> cases hy <;> simp [Op.equalIn, run_underlying hu]
      · cases hx <;> cases hy <;> simp [Op.equalIn, run_underlying hu]
      · rename_i e0 i0 o0 j0 o1
        split at h
        · rename_i hc
          rw [Bool.and_eq_true] at hc
          have c1 := Nat.eq_of_beq_eq_true hc.1
          have c2 := Nat.eq_of_beq_eq_true hc.2
          subst c1; subst c2
          split at h
          · rename_i k hk
            split at h
            · cases h
            · rename_i hz
              cases h
              have hz : k.size ≠ 0 := fun e => hz (by rw [e]; rfl)
              cases hx with
              | ptr _ _ _ l hl =>
                cases hy with
                | ptr _ _ _ l' hl' =>
                  rw [hl] at hl'; cases hl'
                  simp [Op.equalIn, run_underlying hu, sizeOf, typeInfo, hk, hz, run_sameAddr_same]
          · cases h
        · cases h
      · cases hx <;> cases hy <;> simp [Op.equalIn, run_underlying hu]
      · cases hx <;> cases hy <;> simp [Op.equalIn, run_underlying hu]
      · cases hx <;> cases hy <;> simp [Op.equalIn, run_underlying hu]
      · cases hx <;> cases hy <;> simp [Op.equalIn, run_underlying hu]
      · cases hx <;> cases hy <;> simp [Op.equalIn, run_underlying hu]
      · cases hx <;> cases hy <;> simp [Op.equalIn, run_underlying hu]
      · rename_i fs xs ys
        split at h
        · cases h
        · rename_i hst
          cases hx with
          | agg _ _ xs' hxs =>
            cases hy with
            | agg _ _ ys' hys =>
              have hf : P.fieldsOf t = fs := by simp [Program.fieldsOf, hu]
              rw [run_equalIn_struct w e t _ _ (by rw [hf]; exact hu) (by simpa using hst), hf]
              exact eqFs_sound ih hxs hys _ _ h
      · rename_i n el xs ys
        cases hs : sizeT P el with
        | none => simp [hs] at h
        | some s =>
          simp only [hs] at h
          cases hx with
          | agg _ _ xs' hxs =>
            cases hy with
            | agg _ _ ys' hys =>
              rw [run_equalIn_array e t el n s _ _ hu hs]
              exact eqAs_sound ih hxs hys n 0 b h
theorem eqIn_agg {d : Nat} {t : TypeId} {xs : List V} {y : V} {b : Bool} (h : eqIn P d t (.agg xs) y = some b) : ∃ ys, y = .agg ys := by
  cases d with
  | zero => simp [eqIn] at h
  | succ d =>
    cases y <;> first | exact ⟨_, rfl⟩ | (simp only [eqIn] at h; split at h <;> simp_all [eqCell])
theorem eqIn_any {d : Nat} {t : TypeId} {y : V} {b : Bool} (h : eqIn P d t .any y = some b) : False := by
  cases d with
  | zero => simp [eqIn] at h
  | succ d => simp only [eqIn] at h; split at h <;> simp_all [eqCell]
theorem eqIn_nilIface {d : Nat} {t : TypeId} {y : V} {b : Bool} (h : eqIn P d t .nilIface y = some b) : False := by
  cases d with
  | zero => simp [eqIn] at h
  | succ d => simp only [eqIn] at h; split at h <;> simp_all [eqCell]
theorem eqV_sound {t : TypeId} {x y : V} {x' y' : Value} {b : Bool} (X Y : Operand) (hx : VRel I w ρ x x') (hy : VRel I w ρ y y') (h : eqV P t x y = some b) (op : BinOp) :
    (eqGuard op t X Y x' y').run P w = .ok () w ∧ (Op.equal t x' y').run P w = .ok b w := by
  unfold eqV at h
  split at h
  · split at h
    · cases h
    · rename_i hg
      refine ⟨?_, eqIn_sound 20 Op.maxDepth (by decide) _ _ _ _ _ _ hx hy h⟩
      obtain ⟨ys, rfl⟩ := eqIn_agg h
      cases hx with
      | agg _ _ xs' hxs =>
        cases hy with
        | agg _ _ ys' hys => exact run_eqGuard_agg w op t X Y _ _ (by simpa using hg)
  · rename_i hna
    refine ⟨?_, eqIn_sound 20 Op.maxDepth (by decide) _ _ _ _ _ _ hx hy h⟩
    have h1 : ∀ c, x' = .agg c → False := by
      rintro c rfl
      cases hx with
      | any => exact eqIn_any h
      | agg => exact hna _ rfl
    have h2 : x' = .nilIface → False := by
      rintro rfl
      cases hx with
      | any => exact eqIn_any h
      | nilIface => exact eqIn_nilIface h
    unfold eqGuard
    simp only [Sem.run_ite]
    split
    all_goals first
      | (simp only [Bool.not_true, Bool.false_eq_true, if_false]; split <;> first | exact (h2 rfl).elim | exact (h1 _ rfl).elim | rfl)
      | simp
end
end Go.Lh
end
section
namespace Go.Lh
def pickV (t : Bool) (a b : Option V) : Option V :=
  match a, b with
  | some (.bool x), some (.bool y) => some (.bool (bif t then x else y))
  | a, b => if t then a else b
def minV (x y : V) : Option V :=
  match x, y with
  | .int k x, .int _ y => some (.int k (if y < x then y else x))
  | .u64 x, .u64 y => some (.u64 (if y < x then y else x))
  | .u8 x, .u8 y => some (.u8 (if y < x then y else x))
  | _, _ => none
def maxV (x y : V) : Option V :=
  match x, y with
  | .int k x, .int _ y => some (.int k (if y > x then y else x))
  | .u64 x, .u64 y => some (.u64 (if x < y then y else x))
  | .u8 x, .u8 y => some (.u8 (if x < y then y else x))
  | _, _ => none
def foldV (f : V → V → Option V) : V → List V → Option V
  | x, [] => some x
  | x, y :: r => match f x y with | some z => foldV f z r | none => none
def lenV (P : Program) (t : TypeId) (x : V) : Option V :=
  match P.underlying t, x with
  | some .string, .str s => some (.int .i64 s.length)
  | some (.array n _), _ => some (.int .i64 n)
  | some (.pointer arr), _ => (match P.underlying arr with | some (.array n _) => some (.int .i64 n) | _ => none)
  | some (.slice _), .sl _ _ _ n _ => some (.int .i64 n)
  | some (.slice _), .isl _ n _ => some (.int .i64 n)
  | some (.slice _), .nilSl => some (.int .i64 0)
  | _, _ => none
def capV (P : Program) (t : TypeId) (x : V) : Option V :=
  match P.underlying t, x with
  | some (.array n _), _ => some (.int .i64 n)
  | some (.slice _), .sl _ _ _ _ (some n) => some (.int .i64 n)
  | some (.slice _), .nilSl => some (.int .i64 0)
  | _, _ => none
def builtinT (P : Program) (b : Builtin) (ts : List TypeId) (args : List V) : Option V :=
  match b, ts, args with
  | .len, t :: _, x :: _ => lenV P t x
  | .cap, t :: _, x :: _ => capV P t x
  | .min, _, x :: r => foldV minV x r
  | .max, _, x :: r => foldV maxV x r
  | _, _, _ => none
def convT (P : Program) (src dst : TypeId) (x : V) : Option V :=
  match P.underlying src, P.underlying dst, x with
  | some _, some (.int _), .str _ => none
  | some _, some (.int k), x => convN k x
  | some _, some .string, .str s => some (.str s)
  | _, _, _ => none
def optIx (g : Fm) : Option Operand → Int → Option Int
  | none, d => some d
  | some y, _ => match opnd g y with | some v => asIx v | none => none
def slOff (cap : Option Nat) (l : Int) (o s : Nat) : Nat :=
  match cap with
  | some c => if l = c then o else o + l.toNat * s
  | none => o + l.toNat * s
def slCap (cap : Option Nat) (l : Int) : Option Nat :=
  match cap with
  | some c => some (c - l.toNat)
  | none => none
def sliceT (P : Program) (t : TypeId) (x : V) (lo : Option Int) (hi : Option Int) : Option (Bool × V) :=
  match P.underlying t, x with
  | some .string, .str s =>
    let l := lo.getD 0
    let u := hi.getD s.length
    some (decide (0 ≤ l) && decide (l ≤ u) && decide (u ≤ s.length), .str ((s.take u.toNat).drop l.toNat))
  | some (.slice e), .sl i o s len cap =>
    if sizeT P e = some s then
      let l := lo.getD 0
      let u := hi.getD len
      some (decide (0 ≤ l) && decide (l ≤ u) && decide (u ≤ (cap.getD len : Nat)),
        .sl i (slOff cap l o s) s (u - l).toNat (slCap cap l))
    else none
  | some (.slice e), .isl s len f =>
    if sizeT P e = some s then
      let l := lo.getD 0
      let u := hi.getD len
      some (decide (0 ≤ l) && decide (l ≤ u) && decide (u ≤ len), .isl s (u - l).toNat (fun i j => f (l.toNat + i) j))
    else none
  | some (.slice e), .nilSl =>
    if sizeT P e = none then none else
    let l := lo.getD 0
    let u := hi.getD 0
    some (decide (l = 0) && decide (u = 0), .nilSl)
  | _, _ => none
def lookF : List (BitVec 8 × FuncId) → BitVec 8 → Option FuncId
  | [], _ => none
  | (k, f) :: r, b => if Nat.beq k.toNat b.toNat then some f else lookF r b
def eqB : List (BitVec 8) → List (BitVec 8) → Bool
  | [], [] => true
  | x :: r, y :: s => Nat.beq x.toNat y.toNat && eqB r s
  | _, _ => false
def lookS : List (List (BitVec 8) × List (BitVec 8)) → List (BitVec 8) → List (BitVec 8)
  | [], _ => []
  | (k, v) :: r, s => bif eqB k s then v else lookS r s
def hasS : List (List (BitVec 8) × List (BitVec 8)) → List (BitVec 8) → Bool
  | [], _ => false
  | (k, _) :: r, s => bif eqB k s then true else hasS r s
def isSmap (P : Program) (t : TypeId) : Bool :=
  match P.underlying t with
  | some (.map k e) => (match P.underlying k, zeroT P e with | some .string, some (.str []) => true | _, _ => false)
  | _ => false
def isU8map (P : Program) (t : TypeId) : Bool :=
  match P.underlying t with
  | some (.map k _) => (match P.underlying k with | some (.int .u8) => true | _ => false)
  | _ => false
def stepT (P : Program) (g : Fm) (op : Op) : Option (Bool × V) :=
  match op with
  | .move x => (match opnd g x with | some v => some (true, v) | none => none)
  | .assign x => (match opnd g x with | some v => some (true, v) | none => none)
  | .pick c a b => (match opnd g c with
    | some (.bool t) => (match pickV t (opnd g a) (opnd g b) with | some v => some (true, v) | none => none)
    | _ => none)
  | .lookup t x k false => (match opnd g x, opnd g k with
    | some (.fmap (.f es)), some (.u8 b) => if isU8map P t then (match lookF es b with | some f => some (true, .fn f [] []) | none => none) else none
    | _, _ => none)
  | .lookup t x k true => (match opnd g x, opnd g k with
    | some (.fmap (.s es)), some (.str s) => if isSmap P t then some (true, .tup [.str (lookS es s), .bool (hasS es s)]) else none
    | _, _ => none)
  | .nilCheck x => (match opnd g x with
    | some (.ptr i o) => some (true, .ptr i o)
    | some (.iptr s n f i j) => some (true, .iptr s n f i j)
    | some (.fn f a b) => some (true, .fn f a b)
    | _ => none)
  | .binOp op t x y _ => (match opnd g x, opnd g y with
    | some a, some b => binOpV P op t a b
    | _, _ => none)
  | .unOp op _ x => (match opnd g x with
    | some a => (match unOpV op a with | some v => some (true, v) | none => none)
    | none => none)
  | .convert src dst x => (match opnd g x with
    | some a => (match convT P src dst a with | some v => some (true, v) | none => none)
    | none => none)
  | .sliceToArrayPointer arr x => (match P.underlying arr, opnd g x with
    | some (.array n _), some (.sl i o _ len _) => some (decide (n ≤ len) && decide (0 < n), .ptr i o)
    | _, _ => none)
  | .makeInterface t x => (match P.underlying t, opnd g x with
    | some (.interface _), _ => none
    | some _, some v => some (true, .iface t v)
    | _, _ => none)
  | .makeFunc (.func f) first cap => (match opnds g first.toList, opnds g cap.toList with
    | some a, some b => some (true, .fn f a b)
    | _, _ => none)
  | .slice t x lo hi none => (match opnd g x, (match lo with | none => some none | some y => (match optIx g (some y) 0 with | some n => some (some n) | none => none)),
        (match hi with | none => some none | some y => (match optIx g (some y) 0 with | some n => some (some n) | none => none)) with
    | some v, some l, some u => sliceT P t v l u
    | _, _, _ => none)
  | .fieldAddr t x n => (match P.underlying t, opnd g x with
    | some (.struct fs), some v => (match fs[n]? with
      | some f => (match sizeT P f.type, v with
        | some 0, _ => none
        | some _, .ptr i o => some (true, .ptr i (o + f.offset))
        | some _, .iptr s len h i j => some (true, .iptr s len h i (j + f.offset))
        | _, _ => none)
      | none => none)
    | _, _ => none)
  | .field t x n => (match P.underlying t, opnd g x with
    | some (.struct fs), some (.agg cs) => (match fs[n]? with
      | some f => (match partV P f.type cs f.offset with | some v => some (true, v) | none => none)
      | none => none)
    | _, _ => none)
  | .indexAddr t x ix => (match P.underlying t, opnd g x, opnd g ix with
    | some (.array len e), some (.ptr i o), some iv => (match asIx iv, sizeT P e with
      | some n, some s => some (decide (0 ≤ n) && decide (n < len), .ptr i (o + n.toNat * s))
      | _, _ => none)
    | some (.slice e), some (.sl i o s len _), some iv => (match asIx iv, sizeT P e with
      | some n, some s' => if s' = s then some (decide (0 ≤ n) && decide (n < len), .ptr i (o + n.toNat * s)) else none
      | _, _ => none)
    | some (.slice e), some (.isl s len f), some iv => (match asIx iv, sizeT P e with
      | some n, some s' => if s' = s then some (decide (0 ≤ n) && decide (n < len), .iptr s len f n.toNat 0) else none
      | _, _ => none)
    | _, _, _ => none)
  | .index t x ix => (match P.underlying t, opnd g x, opnd g ix with
    | some .string, some (.str s), some iv => (match asIx iv with
      | some n => some (decide (0 ≤ n) && decide (n < s.length), .u8 (s.getD n.toNat 0))
      | none => none)
    | some (.array len e), some (.agg cs), some iv => (match asIx iv, sizeT P e with
      | some n, some s => (match partV P e cs (n.toNat * s) with
        | some v => some (decide (0 ≤ n) && decide (n < len), v)
        | none => none)
      | _, _ => none)
    | _, _, _ => none)
  | .extract x n => (match opnd g x with
    | some (.tup vs) => (match vs[n]? with | some v => some (true, v) | none => none)
    | _ => none)
  | .build t parts => (match partsV g parts.toList, zeroT P t, placeT P t with
    | some ps, some z, some pl => (match fillV pl z.cells ps with | some cs => some (true, .agg cs) | none => none)
    | _, _, _ => none)
  | .typeAssert x _ asserted true => (match P.underlying asserted, opnd g x, zeroT P asserted with
    | some (.interface _), _, _ => none
    | some _, some .nilIface, some z => some (true, .tup [z, .bool false])
    | some _, some (.iface t v), some z => some (true, if t = asserted then .tup [v, .bool true] else .tup [z, .bool false])
    | _, _, _ => none)
  | .call c => (match c.callee, opnds g c.args.toList with
    | .builtin b, some args => (match builtinT P b c.argTypes.toList args with | some v => some (true, v) | none => none)
    | _, _ => none)
  | _ => none
end Go.Lh
end
section
namespace Go.Lh
def FRel (I : Nat → Prop) (w : World) (ρ : Ren) (g : Fm) (a : Act) : Prop := ∀ t v, g t = some v → VRel I w ρ v (a.tmps.getD t undef)
section
variable {P : Program} {w : World} {I : Nat → Prop} {ρ : Ren}
theorem ofIntC_sound {k : IntKind} {n : Int} {v : V} (h : ofIntC k n = some v) : VRel I w ρ v (.int k n) := by
  have key : ∀ m : Nat, inU m n = true → ((BitVec.ofInt m n).toNat : Int) = n := fun m hm => by
    simp only [inU, Bool.and_eq_true, decide_eq_true_eq] at hm
    rw [BitVec.toNat_ofInt]
    have h1 : n % ((2 ^ m : Nat) : Int) = n := Int.emod_eq_of_lt hm.1 hm.2
    rw [h1]; omega
  cases k <;> simp only [ofIntC] at h
  case u8 => split at h <;> simp at h; subst h; rename_i hm; have e := key 8 hm; have r := VRel.u8 (I := I) (w := w) ρ (BitVec.ofInt 8 n); rw [e] at r; exact r
  case u16 => split at h <;> simp at h; subst h; rename_i hm; have e := key 16 hm; have r := VRel.u16 (I := I) (w := w) ρ (BitVec.ofInt 16 n); rw [e] at r; exact r
  case u32 => split at h <;> simp at h; subst h; rename_i hm; have e := key 32 hm; have r := VRel.u32 (I := I) (w := w) ρ (BitVec.ofInt 32 n); rw [e] at r; exact r
  case u64 => split at h <;> simp at h; subst h; rename_i hm; have e := key 64 hm; have r := VRel.u64 (I := I) (w := w) ρ (BitVec.ofInt 64 n); rw [e] at r; exact r
  all_goals (simp at h; subst h; exact .int _ _ _ rfl)
mutual
theorem ofValue_sound : ∀ {x : Value} {v : V}, ofValue x = some v → VRel I w ρ v x
  | .int k n, v, h => by rw [ofValue] at h; exact ofIntC_sound h
  | .bool b, v, h => by rw [ofValue] at h; injection h with h; subst h; exact .bool _ _
  | .string s, v, h => by rw [ofValue] at h; injection h with h; subst h; exact .str _ _
  | .pointer none, v, h => by rw [ofValue] at h; injection h with h; subst h; exact .nilPtr _
  | .pointer (some _), v, h => by simp [ofValue] at h
  | .slice none 0 0, v, h => by rw [ofValue] at h; injection h with h; subst h; exact .nilSl _
  | .slice none 0 (_ + 1), v, h => by simp [ofValue] at h
  | .slice none (_ + 1) _, v, h => by simp [ofValue] at h
  | .slice (some _) _ _, v, h => by simp [ofValue] at h
  | .nilFunc, v, h => by rw [ofValue] at h; injection h with h; subst h; exact .nilFn _
  | .nilIface, v, h => by rw [ofValue] at h; injection h with h; subst h; exact .nilIface _
  | .iface t x, v, h => by
    rw [ofValue] at h
    split at h <;> simp at h
    rename_i y hy; subst h; exact .iface _ _ _ _ (ofValue_sound hy)
  | .agg ⟨l⟩, v, h => by
    rw [ofValue] at h
    split at h <;> simp at h
    rename_i y hy; subst h; exact .agg _ _ _ (ofValues_sound hy)
  | .tuple ⟨l⟩, v, h => by
    rw [ofValue] at h
    split at h <;> simp at h
    rename_i y hy; subst h; exact .tup _ _ _ (ofValues_sound hy)
  | .float _ _, v, h => by simp [ofValue] at h
  | .complex _ _ _, v, h => by simp [ofValue] at h
  | .map _, v, h => by simp [ofValue] at h
  | .chan _, v, h => by simp [ofValue] at h
  | .func _ _ _, v, h => by simp [ofValue] at h
theorem ofValues_sound : ∀ {x : List Value} {v : List V}, ofValues x = some v → VsRel I w ρ v x
  | [], v, h => by rw [ofValues] at h; injection h with h; subst h; exact .nil _
  | x :: r, v, h => by
    rw [ofValues] at h
    split at h <;> simp at h
    rename_i y z hy hz; subst h; exact .cons _ _ _ _ _ (ofValue_sound hy) (ofValues_sound hz)
end
theorem opnd_sound {g : Fm} {a : Act} (F : FRel I w ρ g a) {x : Operand} {v : V} (h : opnd g x = some v) : VRel I w ρ v (a.eval x) := by
  cases x with
  | tmp t => exact F t v h
  | const c => exact ofValue_sound h
  | global _ => simp [opnd] at h
  | func f =>
    simp only [opnd, Option.some.injEq] at h; subst h
    exact .fn _ _ _ _ _ _ (.nil _) (.nil _)
theorem opnds_sound {g : Fm} {a : Act} (F : FRel I w ρ g a) : ∀ {x : List Operand} {v : List V}, opnds g x = some v → VsRel I w ρ v (x.map a.eval)
  | [], v, h => by simp [opnds] at h; subst h; exact .nil _
  | x :: r, v, h => by
    simp only [opnds] at h
    split at h <;> simp at h
    rename_i y z hy hz; subst h; exact .cons _ _ _ _ _ (opnd_sound F hy) (opnds_sound F hz)
theorem partsV_sound {g : Fm} {a : Act} (F : FRel I w ρ g a) : ∀ {x : List (Nat × Operand)} {v : List (Nat × V)}, partsV g x = some v →
    v.map (·.1) = x.map (·.1) ∧ VsRel I w ρ (v.map (·.2)) (x.map fun p => a.eval p.2)
  | [], v, h => by simp [partsV] at h; subst h; exact ⟨rfl, .nil _⟩
  | (i, x) :: r, v, h => by
    simp only [partsV] at h
    split at h <;> simp at h
    rename_i y z hy hz; subst h
    obtain ⟨h1, h2⟩ := partsV_sound F hz
    exact ⟨by simp [h1], .cons _ _ _ _ _ (opnd_sound F hy) h2⟩
theorem asIx_sound {v : V} {v' : Value} {n : Int} (h : VRel I w ρ v v') (hn : asIx v = some n) : ∃ k, v' = .int k n := by
  cases h <;> simp [asIx] at hn <;> subst hn <;> exact ⟨_, rfl⟩
theorem eqIn_u8 {d : Nat} {t : TypeId} {a : BitVec 8} {y : V} {b : Bool} (h : eqIn P d t (.u8 a) y = some b) : ∃ c, y = .u8 c := by
  cases d with
  | zero => simp [eqIn] at h
  | succ d => cases y <;> first | exact ⟨_, rfl⟩ | (simp only [eqIn] at h; split at h <;> simp_all [eqCell])
theorem eqIn_u16 {d : Nat} {t : TypeId} {a : BitVec 16} {y : V} {b : Bool} (h : eqIn P d t (.u16 a) y = some b) : ∃ c, y = .u16 c := by
  cases d with
  | zero => simp [eqIn] at h
  | succ d => cases y <;> first | exact ⟨_, rfl⟩ | (simp only [eqIn] at h; split at h <;> simp_all [eqCell])
theorem eqIn_u32 {d : Nat} {t : TypeId} {a : BitVec 32} {y : V} {b : Bool} (h : eqIn P d t (.u32 a) y = some b) : ∃ c, y = .u32 c := by
  cases d with
  | zero => simp [eqIn] at h
  | succ d => cases y <;> first | exact ⟨_, rfl⟩ | (simp only [eqIn] at h; split at h <;> simp_all [eqCell])
theorem eqIn_u64 {d : Nat} {t : TypeId} {a : BitVec 64} {y : V} {b : Bool} (h : eqIn P d t (.u64 a) y = some b) : ∃ c, y = .u64 c := by
  cases d with
  | zero => simp [eqIn] at h
  | succ d => cases y <;> first | exact ⟨_, rfl⟩ | (simp only [eqIn] at h; split at h <;> simp_all [eqCell])
theorem eqIn_str {d : Nat} {t : TypeId} {a : List (BitVec 8)} {y : V} {b : Bool} (h : eqIn P d t (.str a) y = some b) : ∃ c, y = .str c := by
  cases d with
  | zero => simp [eqIn] at h
  | succ d => cases y <;> first | exact ⟨_, rfl⟩ | (simp only [eqIn] at h; split at h <;> simp_all [eqCell])
theorem eqIn_int {d : Nat} {t : TypeId} {k : IntKind} {a : Int} {y : V} {b : Bool} (h : eqIn P d t (.int k a) y = some b) : ∃ k' c, y = .int k' c := by
  cases d with
  | zero => simp [eqIn] at h
  | succ d => cases y <;> first | exact ⟨_, _, rfl⟩ | (simp only [eqIn] at h; split at h <;> simp_all [eqCell])
theorem binOpV_sound {op : BinOp} {t : TypeId} {x y v : V} {x' y' : Value} (X Y : Operand) (hx : VRel I w ρ x x') (hy : VRel I w ρ y y') (h : binOpV P op t x y = some (true, v)) :
    ∃ v', (do eqGuard op t X Y x' y'; binOp op t x' y' : Sem Value).run P w = .ok v' w ∧ VRel I w ρ v v' := by
  by_cases hl : op = .shl
  · subst hl
    simp only [binOpV] at h
    cases hs : shiftBy y with
    | none => simp [hs] at h
    | some p =>
      obtain ⟨k, n⟩ := p
      cases hv : shlV x n with
      | none => simp [hs, hv] at h
      | some z =>
        simp only [hs, hv, Option.some.injEq, Prod.mk.injEq] at h
        obtain ⟨rfl, rfl⟩ := h
        obtain ⟨v', h1, h2⟩ := shift_sound (P := P) .shl t hx hy hs (.inl ⟨rfl, hv⟩)
        exact ⟨v', by simp [eqGuard, h1], h2⟩
  by_cases hr : op = .shr
  · subst hr
    simp only [binOpV] at h
    cases hs : shiftBy y with
    | none => simp [hs] at h
    | some p =>
      obtain ⟨k, n⟩ := p
      cases hv : shrV x n with
      | none => simp [hs, hv] at h
      | some z =>
        simp only [hs, hv, Option.some.injEq, Prod.mk.injEq] at h
        obtain ⟨rfl, rfl⟩ := h
        obtain ⟨v', h1, h2⟩ := shift_sound (P := P) .shr t hx hy hs (.inr ⟨rfl, hv⟩)
        exact ⟨v', by simp [eqGuard, h1], h2⟩
  have guard : ∀ u u' : Value, (∀ c, u ≠ .agg c) → u ≠ .nilIface → (eqGuard op t X Y u u').run P w = .ok () w := by
    intro u u' h1 h2
    unfold eqGuard
    simp only [Sem.run_ite]
    split
    all_goals first
      | (simp only [Bool.not_true, Bool.false_eq_true, if_false]; split <;> first | exact (h2 rfl).elim | exact (h1 _ rfl).elim | rfl)
      | simp
  have guardI : ∀ (k : IntKind) (n : Int) (u : Value), (eqGuard op t X Y (.int k n) u).run P w = .ok () w := fun k n u => guard _ _ (fun _ e => by cases e) (fun e => by cases e)
  have uns : ∀ (k : IntKind) (hs : k.signed = false) (mk : BitVec k.bits → V) (a b : BitVec k.bits), (∀ z : BitVec k.bits, VRel I w ρ (mk z) (.int k z.toNat)) →
      binU mk op a b = some (true, v) → ∃ v', (do eqGuard op t X Y (.int k a.toNat) (.int k b.toNat); binOp op t (.int k a.toNat) (.int k b.toNat) : Sem Value).run P w = .ok v' w ∧ VRel I w ρ v v' := by
    intro k hs mk a b hmk hb
    rcases binU_sound (P := P) (w := w) k hs mk op t a b v hl hr hb with ⟨z, rfl, hz⟩ | ⟨z, rfl, hz⟩
    · exact ⟨_, by simp only [Sem.run_bind, guard (.int k a.toNat) (.int k b.toNat) (fun _ e => by cases e) (fun e => by cases e), Result.andThen_ok, hz], hmk z⟩
    · exact ⟨_, by simp only [Sem.run_bind, guard (.int k a.toNat) (.int k b.toNat) (fun _ e => by cases e) (fun e => by cases e), Result.andThen_ok, hz], .bool _ _⟩
  have h' : arithV P op t x y = some (true, v) := by
    cases op <;> first | exact absurd rfl hl | exact absurd rfl hr | exact h
  clear h
  unfold arithV at h'
  split at h'
  · cases hx; cases hy; exact uns .u8 rfl .u8 _ _ (fun z => .u8 _ z) h'
  · cases hx; cases hy; exact uns .u16 rfl .u16 _ _ (fun z => .u16 _ z) h'
  · cases hx; cases hy; exact uns .u32 rfl .u32 _ _ (fun z => .u32 _ z) h'
  · cases hx; cases hy; exact uns .u64 rfl .u64 _ _ (fun z => .u64 _ z) h'
  · split at h'
    · rename_i e; subst e
      cases hx with
      | int _ kk nn hk =>
        cases hy with | int _ _ mm _ =>
        rcases binI_sound (P := P) (w := w) _ op t _ _ v h' with ⟨z, rfl, hz⟩ | ⟨z, rfl, hz⟩
        · exact ⟨_, by simp only [Sem.run_bind, guardI, Result.andThen_ok, hz], .int _ _ _ hk⟩
        · exact ⟨_, by simp only [Sem.run_bind, guardI, Result.andThen_ok, hz], .bool _ _⟩
    · cases h'
  · cases hx with
    | str _ s =>
      cases hy with
      | str _ s' =>
        obtain ⟨v', h1, h2⟩ := binS_sound (P := P) (w := w) (I := I) (ρ := ρ) op t s s' v hl hr h'
        exact ⟨v', by simp only [Sem.run_bind, guard (.string s) (.string s') (fun _ e => by cases e) (fun e => by cases e), Result.andThen_ok, h1], h2⟩
  · rename_i n1 n2 n3 n4 n5 n6
    have shape : ∀ b, eqV P t x y = some b → ((binOp .eql t x' y' = do pure (.bool (← Op.equal t x' y'))) ∧ (binOp .neq t x' y' = do pure (.bool (!(← Op.equal t x' y'))))) := by
      intro b hb
      have nx : ∀ d, eqIn P d t x y ≠ some b ∨ ((∀ k n, x' ≠ .int k n) ∧ (∀ k n, x' ≠ .float k n) ∧ (∀ k n m, x' ≠ .complex k n m) ∧ (∀ s, x' ≠ .string s)) := by
        intro d
        cases d with
        | zero => left; simp [eqIn]
        | succ d =>
          cases hx
          case any => left; intro h; exact eqIn_any h
          case u8 a => left; intro h; obtain ⟨c, rfl⟩ := eqIn_u8 h; exact n1 _ _ rfl rfl
          case u16 a => left; intro h; obtain ⟨c, rfl⟩ := eqIn_u16 h; exact n2 _ _ rfl rfl
          case u32 a => left; intro h; obtain ⟨c, rfl⟩ := eqIn_u32 h; exact n3 _ _ rfl rfl
          case u64 a => left; intro h; obtain ⟨c, rfl⟩ := eqIn_u64 h; exact n4 _ _ rfl rfl
          case int k a hk => left; intro h; obtain ⟨k2, c, rfl⟩ := eqIn_int h; exact n5 _ _ _ _ rfl rfl
          case str s => left; intro h; obtain ⟨c, rfl⟩ := eqIn_str h; exact n6 _ _ rfl rfl
          all_goals (right; refine ⟨?_, ?_, ?_, ?_⟩ <;> (intros; intro e; cases e))
      have hin : eqIn P 20 t x y = some b := by
        unfold eqV at hb
        split at hb
        · split at hb
          · cases hb
          · exact hb
        · exact hb
      obtain ⟨h1, h2, h3, h4⟩ := (nx 20).resolve_left (fun h => h hin)
      cases x' <;> first | exact absurd rfl (h1 _ _) | exact absurd rfl (h2 _ _) | exact absurd rfl (h3 _ _ _) | exact absurd rfl (h4 _) | exact ⟨by cases y' <;> rfl, by cases y' <;> rfl⟩
    have run : ∀ b, eqV P t x y = some b → (op = .eql → (do eqGuard op t X Y x' y'; binOp op t x' y' : Sem Value).run P w = .ok (.bool b) w) ∧
        (op = .neq → (do eqGuard op t X Y x' y'; binOp op t x' y' : Sem Value).run P w = .ok (.bool (!b)) w) := by
      intro b hb
      obtain ⟨hg, he⟩ := eqV_sound X Y hx hy hb op
      constructor
      · rintro rfl
        simp only [Sem.run_bind, hg, Result.andThen_ok, (shape b hb).1, he, Sem.run_pure]
      · rintro rfl
        simp only [Sem.run_bind, hg, Result.andThen_ok, (shape b hb).2, he, Sem.run_pure]
    split at h'
    · rename_i b hb
      injection h' with h'; injection h' with _ h'; subst h'
      exact ⟨_, (run b hb).1 rfl, .bool _ _⟩
    · rename_i b hb
      injection h' with h'; injection h' with _ h'; subst h'
      exact ⟨_, (run b hb).2 rfl, .bool _ _⟩
    · cases h'
end
end Go.Lh
end
section
namespace Go.Lh
section
variable {P : Program} {w : World} {I : Nat → Prop} {ρ : Ren}
theorem foldV_sound {f : V → V → Option V} {f' : Value → Value → Sem Value}
    (hf : ∀ x y z x' y', VRel I w ρ x x' → VRel I w ρ y y' → f x y = some z → ∃ z', (f' x' y').run P w = .ok z' w ∧ VRel I w ρ z z') :
    ∀ (l : List V) (l' : List Value) (x : V) (x' : Value) (z : V), VsRel I w ρ l l' → VRel I w ρ x x' → foldV f x l = some z → ∃ z', (l'.foldlM f' x').run P w = .ok z' w ∧ VRel I w ρ z z'
  | [], _, x, x', z, hl, hx, h => by cases hl; simp [foldV] at h; subst h; exact ⟨x', by simp, hx⟩
  | y :: r, _, x, x', z, hl, hx, h => by
    cases hl with
    | cons _ _ y' _ r' hy hr =>
      simp only [foldV] at h
      cases hq : f x y with
      | none => simp [hq] at h
      | some q =>
        simp only [hq] at h
        obtain ⟨q', h1, h2⟩ := hf _ _ _ _ _ hx hy hq
        obtain ⟨z', h3, h4⟩ := foldV_sound hf r r' q q' z hr h2 h
        exact ⟨z', by simp [h1, h3], h4⟩
theorem minV_sound {x y z : V} {x' y' : Value} (hx : VRel I w ρ x x') (hy : VRel I w ρ y y') (h : minV x y = some z) : ∃ z', (Builtin.min2 x' y').run P w = .ok z' w ∧ VRel I w ρ z z' := by
  cases hx <;> cases hy <;> simp only [minV, Option.some.injEq, reduceCtorEq] at h <;> subst h
  case u8.u8 a b => exact ⟨_, rfl, by simp only [Int.ofNat_lt, ← BitVec.lt_def]; split <;> exact .u8 _ _⟩
  case u64.u64 a b => exact ⟨_, rfl, by simp only [Int.ofNat_lt, ← BitVec.lt_def]; split <;> exact .u64 _ _⟩
  case int.int k a hk k' b hk' => exact ⟨_, rfl, .int _ _ _ hk⟩
theorem maxV_sound {x y z : V} {x' y' : Value} (hx : VRel I w ρ x x') (hy : VRel I w ρ y y') (h : maxV x y = some z) : ∃ z', (Builtin.max2 x' y').run P w = .ok z' w ∧ VRel I w ρ z z' := by
  cases hx <;> cases hy <;> simp only [maxV, Option.some.injEq, reduceCtorEq] at h <;> subst h
  case u8.u8 a b => exact ⟨_, rfl, by simp only [gt_iff_lt, Int.ofNat_lt, ← BitVec.lt_def]; split <;> exact .u8 _ _⟩
  case u64.u64 a b => exact ⟨_, rfl, by simp only [gt_iff_lt, Int.ofNat_lt, ← BitVec.lt_def]; split <;> exact .u64 _ _⟩
  case int.int k a hk k' b hk' => exact ⟨_, rfl, .int _ _ _ hk⟩
theorem lenV_sound {t : TypeId} {x z : V} {x' : Value} {ts : Array TypeId} {args : Array Value} {ty : TypeId} (h0 : ts[0]? = some t) (h1 : args[0]? = some x') (hx : VRel I w ρ x x') (h : lenV P t x = some z) :
    ∃ z', (Builtin.len_ ts ty args).run P w = .ok z' w ∧ VRel I w ρ z z' := by
  unfold lenV at h
  unfold Builtin.len_
  split at h <;> try simp only [Option.some.injEq, reduceCtorEq] at h
  · rename_i hu; subst h
    cases hx with
    | str _ s => exact ⟨.int .i64 s.size, by simp [h0, h1, run_underlying hu, goInt], by rw [bytesOf_length]; exact .int _ _ _ rfl⟩
  · rename_i hu; subst h; exact ⟨_, by simp [h0, h1, run_underlying hu, goInt], .int _ _ _ rfl⟩
  · rename_i hu
    split at h <;> try simp only [Option.some.injEq, reduceCtorEq] at h
    rename_i hu2; subst h
    exact ⟨_, by simp [h0, h1, run_underlying hu, run_underlying hu2, goInt], .int _ _ _ rfl⟩
  · rename_i hu; subst h; cases hx <;> exact ⟨_, by simp [h0, h1, run_underlying hu, goInt], .int _ _ _ rfl⟩
  · rename_i hu; subst h; cases hx <;> exact ⟨_, by simp [h0, h1, run_underlying hu, goInt], .int _ _ _ rfl⟩
  · rename_i hu; subst h; cases hx; exact ⟨_, by simp [h0, h1, run_underlying hu, goInt], .int _ _ _ rfl⟩
theorem capV_sound {t : TypeId} {x z : V} {x' : Value} {ts : Array TypeId} {args : Array Value} {ty : TypeId} (h0 : ts[0]? = some t) (h1 : args[0]? = some x') (hx : VRel I w ρ x x') (h : capV P t x = some z) :
    ∃ z', (Builtin.cap_ ts ty args).run P w = .ok z' w ∧ VRel I w ρ z z' := by
  unfold capV at h
  unfold Builtin.cap_
  split at h <;> try simp only [Option.some.injEq, reduceCtorEq] at h
  · rename_i hu; subst h; exact ⟨_, by simp [h0, h1, run_underlying hu, goInt], .int _ _ _ rfl⟩
  · rename_i hu; subst h
    cases hx with
    | sl _ i o s len cap c l hl k1 k2 k3 => rw [k3 _ rfl]; exact ⟨_, by simp [h0, h1, run_underlying hu, goInt], .int _ _ _ rfl⟩
    | slz _ i o s cap y l hl k3 => rw [k3 _ rfl]; exact ⟨_, by simp [h0, h1, run_underlying hu, goInt], .int _ _ _ rfl⟩
  · rename_i hu; subst h; cases hx; exact ⟨_, by simp [h0, h1, run_underlying hu, goInt], .int _ _ _ rfl⟩
theorem builtinT_sound {b : Builtin} {ts : Array TypeId} {args : List V} {args' : List Value} {z : V} (ty : TypeId) (cs : Array Bool) (ha : VsRel I w ρ args args') (h : builtinT P b ts.toList args = some z) :
    ∃ z', (builtin b ts ty cs ⟨args'⟩).run P w = .ok (.value z') w ∧ VRel I w ρ z z' := by
  unfold builtinT at h
  split at h
  · rename_i t tr x r hts
    cases ha with
    | cons _ _ x' _ r' hx hr =>
      have h0 : ts[0]? = some t := by rw [← Array.getElem?_toList, hts]; rfl
      obtain ⟨z', h1, h2⟩ := lenV_sound (P := P) (args := ⟨x' :: r'⟩) (ty := ty) h0 rfl hx h
      exact ⟨z', by simp [builtin, h1], h2⟩
  · rename_i t tr x r hts
    cases ha with
    | cons _ _ x' _ r' hx hr =>
      have h0 : ts[0]? = some t := by rw [← Array.getElem?_toList, hts]; rfl
      obtain ⟨z', h1, h2⟩ := capV_sound (P := P) (args := ⟨x' :: r'⟩) (ty := ty) h0 rfl hx h
      exact ⟨z', by simp [builtin, h1], h2⟩
  · rename_i x r
    cases ha with
    | cons _ _ x' _ r' hx hr =>
      obtain ⟨z', h1, h2⟩ := foldV_sound (P := P) (f' := Builtin.min2) (fun _ _ _ _ _ a b c => minV_sound a b c) r r' x x' z hr hx h
      exact ⟨z', by simp [builtin, Builtin.min_, h1], h2⟩
  · rename_i x r
    cases ha with
    | cons _ _ x' _ r' hx hr =>
      obtain ⟨z', h1, h2⟩ := foldV_sound (P := P) (f' := Builtin.max2) (fun _ _ _ _ _ a b c => maxV_sound a b c) r r' x x' z hr hx h
      exact ⟨z', by simp [builtin, Builtin.max_, h1], h2⟩
  · cases h
theorem wrap_i64_small (n : Nat) (h : n < 4294967296) : IntKind.i64.wrap (n : Int) = n := IntWalk.i64_in _ (by omega)
theorem emod_pow (n m : Nat) : ((n % 2 ^ m : Nat) : Int) = (n : Int) % (2 : Int) ^ m := by push_cast; rfl
theorem convInt_sound (k : IntKind) (n : Int) : VRel I w ρ (convInt k n) (.int k (k.wrap n)) := by
  have u : ∀ m : Nat, (n % (2 ^ m : Int)) = ((BitVec.ofInt m n).toNat : Int) := fun m => by
    rw [BitVec.toNat_ofInt]
    have : 0 ≤ n % ((2 ^ m : Nat) : Int) := Int.emod_nonneg _ (by have := Nat.two_pow_pos m; omega)
    push_cast at *
    omega
  cases k
  case u8 => rw [wrap_uns .u8 rfl]; simp only [convInt]; rw [show IntKind.u8.bits = 8 from rfl, u]; exact .u8 _ _
  case u16 => rw [wrap_uns .u16 rfl]; simp only [convInt]; rw [show IntKind.u16.bits = 16 from rfl, u]; exact .u16 _ _
  case u32 => rw [wrap_uns .u32 rfl]; simp only [convInt]; rw [show IntKind.u32.bits = 32 from rfl, u]; exact .u32 _ _
  case u64 => rw [wrap_uns .u64 rfl]; simp only [convInt]; rw [show IntKind.u64.bits = 64 from rfl, u]; exact .u64 _ _
  all_goals exact .int _ _ _ rfl
theorem convN_sound {k : IntKind} {x z : V} {x' : Value} (hx : VRel I w ρ x x') (h : convN k x = some z) : ∃ j n, x' = .int j n ∧ VRel I w ρ z (.int k (k.wrap n)) := by
  have gen : ∀ x, VRel I w ρ x x' → (match asIx x with | some n => some (convInt k n) | none => none) = some z → ∃ j n, x' = .int j n ∧ VRel I w ρ z (.int k (k.wrap n)) := by
    intro x hx h
    cases hn : asIx x with
    | none => simp [hn] at h
    | some n =>
      obtain ⟨j, rfl⟩ := asIx_sound hx hn
      simp only [hn, Option.some.injEq] at h; subst h
      exact ⟨j, n, rfl, convInt_sound k n⟩
  have up : ∀ (m : Nat) (a : BitVec m), m ≤ 64 → IntKind.u64.wrap (a.toNat : Int) = ((a.setWidth 64).toNat : Int) := fun m a hm => by
    rw [wrap_uns .u64 rfl, show IntKind.u64.bits = 64 from rfl, BitVec.toNat_setWidth, emod_pow]
  unfold convN at h
  split at h
  · rename_i a; injection h with h; subst h; cases hx; exact ⟨_, _, rfl, by rw [show IntKind.u8.wrap (a.toNat : Int) = a.toNat from wrap_toNat .u8 rfl a]; exact .u8 _ _⟩
  · rename_i a; injection h with h; subst h
    cases hx with
    | u64 =>
      refine ⟨_, _, rfl, ?_⟩
      have : IntKind.u8.wrap (a.toNat : Int) = ((a.setWidth 8).toNat : Int) := by rw [wrap_uns .u8 rfl, show IntKind.u8.bits = 8 from rfl, BitVec.toNat_setWidth, emod_pow]
      rw [this]; exact .u8 _ _
  · rename_i a; injection h with h; subst h; cases hx; exact ⟨_, _, rfl, by rw [show IntKind.u16.wrap (a.toNat : Int) = a.toNat from wrap_toNat .u16 rfl a]; exact .u16 _ _⟩
  · rename_i a; injection h with h; subst h; cases hx; exact ⟨_, _, rfl, by rw [up 8 a (by omega)]; exact .u64 _ _⟩
  · rename_i a; injection h with h; subst h; cases hx; exact ⟨_, _, rfl, by rw [up 16 a (by omega)]; exact .u64 _ _⟩
  · rename_i a; injection h with h; subst h; cases hx; exact ⟨_, _, rfl, by rw [up 32 a (by omega)]; exact .u64 _ _⟩
  · rename_i a; injection h with h; subst h; cases hx; exact ⟨_, _, rfl, by rw [show IntKind.u64.wrap (a.toNat : Int) = a.toNat from wrap_toNat .u64 rfl a]; exact .u64 _ _⟩
  · rename_i a; injection h with h; subst h; cases hx; exact ⟨_, _, rfl, by rw [wrap_i64_small _ (by have := a.isLt; omega)]; exact .int _ _ _ rfl⟩
  · rename_i a; injection h with h; subst h; cases hx; exact ⟨_, _, rfl, by rw [wrap_i64_small _ (by have := a.isLt; omega)]; exact .int _ _ _ rfl⟩
  · rename_i a; injection h with h; subst h; cases hx; exact ⟨_, _, rfl, by rw [wrap_i64_small _ (by have := a.isLt; omega)]; exact .int _ _ _ rfl⟩
  · exact gen _ hx h
theorem convT_sound {src dst : TypeId} {x z : V} {x' : Value} (hx : VRel I w ρ x x') (h : convT P src dst x = some z) : ∃ z', (convert src dst x').run P w = .ok z' w ∧ VRel I w ρ z z' := by
  unfold convT at h
  split at h
  · cases h
  · rename_i d k hs hd _
    obtain ⟨j, n, rfl, hr⟩ := convN_sound hx h
    refine ⟨_, ?_, hr⟩
    simp only [convert, Sem.run_bind, run_underlying hs, run_underlying hd, Result.andThen_ok]
    cases d <;> rfl
  · rename_i d s hs hd
    injection h with h; subst h
    cases hx with
    | str _ s =>
      refine ⟨_, ?_, .str _ s⟩
      simp only [convert, Sem.run_bind, run_underlying hs, run_underlying hd, Result.andThen_ok]
      cases d <;> rfl
  · cases h
theorem unOpV_sound {op : UnOp} {x z : V} {x' : Value} (hx : VRel I w ρ x x') (h : unOpV op x = some z) : ∃ z', (Op.unary op x').run P w = .ok z' w ∧ VRel I w ρ z z' := by
  have notN : ∀ (k : IntKind), k.signed = false → ∀ (a : BitVec k.bits), (Op.unary .xor (.int k a.toNat)).run P w = .ok (.int k (~~~a).toNat) w := by
    intro k hs a
    have e : BitVec.ofInt k.bits k.max ^^^ BitVec.ofInt k.bits (a.toNat : Int) = ~~~a := by
      have h1 : BitVec.ofInt k.bits (a.toNat : Int) = a := by
        apply BitVec.eq_of_toNat_eq; rw [BitVec.toNat_ofInt]
        rw [Int.emod_eq_of_lt (by omega) (by exact_mod_cast toNat_lt_int a)]; simp
      have h2 : BitVec.ofInt k.bits k.max = BitVec.allOnes k.bits := by
        apply BitVec.eq_of_toNat_eq
        rw [BitVec.toNat_ofInt, BitVec.toNat_allOnes]
        have hp : (0 : Int) < 2 ^ k.bits := Int.pow_pos (by omega)
        have : k.max = (2 : Int) ^ k.bits - 1 := by simp [IntKind.max, hs]
        rw [this]; push_cast
        rw [Int.emod_eq_of_lt (by omega) (by omega)]
        have hq : (2 : Int) ^ k.bits = ((2 ^ k.bits : Nat) : Int) := by push_cast; rfl
        rw [hq]; omega
      rw [h1, h2, BitVec.allOnes_xor]
    simp only [Op.unary, hs, Bool.false_eq_true, if_false, Op.intBits, Sem.run_pure, e, wrap_toNat k hs]
  unfold unOpV at h
  split at h <;> first | cases h | (injection h with h; subst h)
  · cases hx; exact ⟨_, rfl, .bool _ _⟩
  · cases hx with | int _ _ _ hk => exact ⟨_, rfl, .int _ _ _ hk⟩
  · rename_i a; cases hx with | u8 => exact ⟨_, notN .u8 rfl a, .u8 _ _⟩
  · rename_i a; cases hx with | u16 => exact ⟨_, notN .u16 rfl a, .u16 _ _⟩
  · rename_i a; cases hx with | u32 => exact ⟨_, notN .u32 rfl a, .u32 _ _⟩
  · rename_i a; cases hx with | u64 => exact ⟨_, notN .u64 rfl a, .u64 _ _⟩
end
end Go.Lh
end
section
namespace Go.Lh
section
variable {P : Program} {w : World} {I : Nat → Prop} {ρ : Ren}
theorem add_eq (b o n : Nat) : Addr.add ⟨b, o, none⟩ n = ⟨b, o + n, none⟩ := by
  unfold Addr.add
  split
  · rename_i h; subst h; rfl
  · rfl
theorem bytesOf_extract (s : ByteArray) (l u : Nat) (_ : u ≤ s.size) : bytesOf (s.extract l u) = ((bytesOf s).take u).drop l := by
  unfold bytesOf
  rw [ByteArray.data_extract]
  simp only [Array.toList_extract, List.extract_eq_take_drop, List.map_take, List.map_drop]
  rw [List.drop_take]
theorem optIx_sound {g : Fm} {a : Act} (F : FRel I w ρ g a) {y : Operand} {d n : Int} (h : optIx g (some y) d = some n) : ∃ k, a.eval y = .int k n := by
  simp only [optIx] at h
  cases hv : opnd g y with
  | none => simp [hv] at h
  | some v => simp only [hv] at h; exact asIx_sound (opnd_sound F hv) h
def BdEq (lo : Option Value) (n d : Int) : Prop := match lo with
  | none => n = d
  | some v => ∃ k, v = .int k n
theorem sliceBounds_run {isSlice : Bool} {len cap : Nat} {lo hi : Option Value} {l u : Int}
    (hlo : BdEq lo l 0) (hhi : BdEq hi u len) (h0 : 0 ≤ l) (h1 : l ≤ u) (h2 : u ≤ cap) :
    (Instr.sliceBounds isSlice len cap lo hi none).run P w = .ok (l.toNat, u.toNat, cap) w := by
  have bound : ∀ (k : IntKind) (i : Int) (y : Nat) (c : BoundsCode), 0 ≤ i → i ≤ y → (Instr.sliceBound (.int k i) y c).run P w = .ok i.toNat w := by
    intro k i y c ha hb
    have : 0 ≤ i ∧ i ≤ (y : Int) := ⟨ha, hb⟩
    simp [Instr.sliceBound, asIntOf, this]
  unfold Instr.sliceBounds
  cases hi with
  | none =>
    simp only [BdEq] at hhi
    subst hhi
    cases lo with
    | none => simp only [BdEq] at hlo; subst hlo; simp
    | some v =>
      obtain ⟨k, rfl⟩ := hlo
      simp only [Sem.run_bind, Sem.run_pure, Result.andThen_ok]
      rw [bound k l _ _ h0 (by omega)]
      simp
  | some v =>
    obtain ⟨k, rfl⟩ := hhi
    simp only [Sem.run_bind, Sem.run_pure, Result.andThen_ok]
    rw [bound k u _ _ (by omega) h2]
    cases lo with
    | none => simp only [BdEq] at hlo; subst hlo; simp
    | some v =>
      obtain ⟨k', rfl⟩ := hlo
      simp only [Result.andThen_ok, Sem.run_bind]
      rw [bound k' l _ _ h0 (by omega)]
      simp
def Bd (lo : Option Value) (l : Option Int) : Prop := match lo, l with
  | none, none => True
  | some v, some n => ∃ k, v = .int k n
  | _, _ => False
theorem Bd.eq {lo : Option Value} {l : Option Int} (h : Bd lo l) (d : Int) : BdEq lo (l.getD d) d := by
  cases lo <;> cases l <;> simp only [Bd] at h
  · rfl
  · exact h
theorem sliceT_sound {t : TypeId} {x z : V} {x' : Value} {lo hi : Option Value} {l u : Option Int} (hx : VRel I w ρ x x') (hl : Bd lo l) (hu : Bd hi u) (h : sliceT P t x l u = some (true, z)) :
    ∃ z', (Instr.slice t x' lo hi none).run P w = .ok z' w ∧ VRel I w ρ z z' := by
  unfold sliceT at h
  split at h
  · rename_i s ht
    simp only [Option.some.injEq, Prod.mk.injEq, Bool.and_eq_true, decide_eq_true_eq] at h
    obtain ⟨⟨⟨h0, h1⟩, h2⟩, rfl⟩ := h
    cases hx with
    | str _ s =>
      rw [bytesOf_length] at h1 h2 ⊢
      refine ⟨.string (s.extract (l.getD 0).toNat (u.getD s.size).toNat), ?_, ?_⟩
      · simp only [Instr.slice, Sem.run_bind, run_underlying ht, Result.andThen_ok, Option.isSome_none, Bool.false_eq_true, if_false, Sem.run_pure]
        rw [sliceBounds_run (hl.eq 0) (hu.eq s.size) h0 h1 h2]
        rfl
      · rw [← bytesOf_extract _ _ _ (by omega)]; exact .str _ _
  · rename_i e i o s len cap ht
    split at h
    · rename_i hs
      simp only [Option.some.injEq, Prod.mk.injEq, Bool.and_eq_true, decide_eq_true_eq] at h
      obtain ⟨⟨⟨h0, h1⟩, h2⟩, rfl⟩ := h
      have go : ∀ (b d c : Nat), (cap.getD len ≤ c) → (∀ n, cap = some n → n = c) → ∃ z', (Instr.slice t (.slice (some ⟨b, d, none⟩) len c) lo hi none).run P w = .ok z' w ∧
          z' = .slice (some (if c = (l.getD 0).toNat then ⟨b, d, none⟩ else ⟨b, d + (l.getD 0).toNat * s, none⟩)) ((u.getD len).toNat - (l.getD 0).toNat) (c - (l.getD 0).toNat) := by
        intro b d c hc _
        refine ⟨_, ?_, rfl⟩
        simp only [Instr.slice, Sem.run_bind, run_underlying ht, Result.andThen_ok]
        rw [sliceBounds_run (hl.eq 0) (hu.eq len) h0 h1 (by omega)]
        simp only [Result.andThen_ok, run_sizeT hs, Sem.run_pure, Option.map_some, add_eq]
        congr 2
        split <;> rfl
      cases hx with
      | sl _ _ _ _ _ _ c q hq k1 k2 k3 =>
        obtain ⟨z', hz, hz2⟩ := go q.b (q.d + o) c (by cases cap with | none => exact k1 | some n => simp [k3 n rfl]) k3
        refine ⟨z', hz, ?_⟩
        subst hz2
        have hle : (u.getD ↑len).toNat ≤ c := by
          cases cap with
          | none => simp at h2; omega
          | some n => have := k3 n rfl; simp at h2; omega
        have e1 : (u.getD ↑len - l.getD 0).toNat = (u.getD ↑len).toNat - (l.getD 0).toNat := by omega
        rw [e1]
        by_cases hcl : c = (l.getD 0).toNat
        · have z0 : (u.getD ↑len).toNat - (l.getD 0).toNat = 0 := by omega
          rw [if_pos hcl, z0, show c - (l.getD 0).toNat = 0 from by omega]
          exact .slz _ _ _ _ _ _ q hq (by
            intro n hn
            cases cap with
            | none => simp [slCap] at hn
            | some m => simp [slCap] at hn; have := k3 m rfl; omega)
        · rw [if_neg hcl]
          have e2 : slOff cap (l.getD 0) o s = o + (l.getD 0).toNat * s := by
            cases cap with
            | none => rfl
            | some m => have := k3 m rfl; simp only [slOff]; rw [if_neg (by omega)]
          rw [e2]
          have e3 : q.d + o + (l.getD 0).toNat * s = q.d + (o + (l.getD 0).toNat * s) := by omega
          rw [e3]
          refine .sl _ _ _ _ _ _ _ q hq (by omega) ?_ (by
            intro n hn
            cases cap with
            | none => simp [slCap] at hn
            | some m => simp [slCap] at hn; have := k3 m rfl; omega)
          have : (c - (l.getD 0).toNat) * s + (l.getD 0).toNat * s = c * s := by rw [← Nat.add_mul]; congr 1; omega
          omega
      | slz _ _ _ _ _ y q hq k3 =>
        obtain ⟨z', hz, hz2⟩ := go q.b y 0 (by cases cap with | none => exact Nat.le_refl _ | some n => simp [k3 n rfl]) k3
        refine ⟨z', hz, ?_⟩
        subst hz2
        have hle : (u.getD ((0 : Nat) : Int)).toNat = 0 := by
          cases cap with
          | none => simp at h2 ⊢; omega
          | some n => have := k3 n rfl; simp at h2 ⊢; omega
        have hl0 : (l.getD 0).toNat = 0 := by omega
        have e1 : (u.getD ((0 : Nat) : Int) - l.getD 0).toNat = 0 := by omega
        rw [hle, hl0, e1, if_pos rfl]
        exact .slz _ _ _ _ _ _ q hq (by
          intro n hn
          cases cap with
          | none => simp [slCap] at hn
          | some m => simp [slCap] at hn; have := k3 m rfl; omega)
    · cases h
  · rename_i e s len f ht
    split at h
    · rename_i hs
      simp only [Option.some.injEq, Prod.mk.injEq, Bool.and_eq_true, decide_eq_true_eq] at h
      obtain ⟨⟨⟨h0, h1⟩, h2⟩, rfl⟩ := h
      cases hx with
      | isl _ _ _ _ b o c g hI hc hw hv =>
        have e1 : (u.getD ↑len - l.getD 0).toNat = (u.getD ↑len).toNat - (l.getD 0).toNat := by omega
        refine ⟨.slice (some (if c = (l.getD 0).toNat then ⟨b, o, none⟩ else ⟨b, o + (l.getD 0).toNat * s, none⟩)) ((u.getD len).toNat - (l.getD 0).toNat) (c - (l.getD 0).toNat), ?_, ?_⟩
        · simp only [Instr.slice, Sem.run_bind, run_underlying ht, Result.andThen_ok]
          rw [sliceBounds_run (hl.eq 0) (hu.eq len) h0 h1 (by omega)]
          simp only [Result.andThen_ok, run_sizeT hs, Sem.run_pure, Option.map_some, add_eq]
          congr 2
          split <;> rfl
        · rw [e1]
          by_cases hcl : c = (l.getD 0).toNat
          · have z0 : (u.getD ↑len).toNat - (l.getD 0).toNat = 0 := by omega
            rw [if_pos hcl, z0]
            exact .isl _ _ _ _ b o _ (fun _ _ => undef) hI (by omega) (fun i j hi => by omega) (fun i j hi => by omega)
          · rw [if_neg hcl]
            refine .isl _ _ _ _ b _ _ (fun i j => g ((l.getD 0).toNat + i) j) hI (by omega) (fun i j hi hj => ?_) (fun i j hi hj => hv _ _ (by omega) hj)
            rw [← hw _ _ (show (l.getD 0).toNat + i < len by omega) hj]
            congr 2
            rw [Nat.add_mul]; omega
      | islz _ _ _ a c hac =>
        have q1 : 0 ≤ l.getD 0 := h0
        have q2 : l.getD 0 ≤ u.getD 0 := by simpa using h1
        have q3 : u.getD 0 ≤ 0 := by simpa using h2
        have e1 : (u.getD ((0 : Nat) : Int) - l.getD 0).toNat = 0 := by
          rw [show ((0 : Nat) : Int) = 0 from rfl]; omega
        have z1 : (u.getD 0).toNat = 0 := by omega
        have z2 : (l.getD 0).toNat = 0 := by omega
        rw [e1]
        cases a with
        | none =>
          obtain rfl := hac rfl
          refine ⟨.slice none 0 0, ?_, .islz _ _ _ _ _ (fun _ => rfl)⟩
          simp only [Instr.slice, Sem.run_bind, run_underlying ht, Result.andThen_ok]
          rw [sliceBounds_run (hl.eq 0) (hu.eq 0) (by omega) (by omega) (by omega)]
          simp [run_sizeT hs, z1, z2]
        | some a =>
          refine ⟨.slice (some (if c = 0 then a else a.add 0)) 0 c, ?_, .islz _ _ _ _ _ (fun h => by cases h)⟩
          simp only [Instr.slice, Sem.run_bind, run_underlying ht, Result.andThen_ok]
          rw [sliceBounds_run (hl.eq 0) (hu.eq 0) (by omega) (by omega) (by omega)]
          simp only [Result.andThen_ok, run_sizeT hs, Sem.run_pure, Option.map_some, z1, z2]
          simp only [Nat.zero_mul, Nat.sub_zero, Nat.zero_le, Nat.sub_self]
          split <;> simp_all
    · cases h
  · rename_i e ht
    split at h
    · cases h
    · simp only [Option.some.injEq, Prod.mk.injEq, Bool.and_eq_true, decide_eq_true_eq] at h
      obtain ⟨⟨h0, h1⟩, rfl⟩ := h
      cases hx
      refine ⟨.slice none 0 0, ?_, .nilSl _⟩
      rename_i hne
      obtain ⟨n, hs⟩ := Option.ne_none_iff_exists'.1 hne
      simp only [Instr.slice, Sem.run_bind, run_underlying ht, Result.andThen_ok]
      rw [sliceBounds_run (hl.eq 0) (hu.eq 0) (by omega) (by omega) (by omega)]
      simp [run_sizeT hs, h0, h1]
  · cases h
end
end Go.Lh
end
section
namespace Go.Lh
section
variable {P : Program} {w : World} {I : Nat → Prop} {ρ : Ren}
theorem VsRel.setCells {xs : List V} {xs' : List Value} (h : VsRel I w ρ xs xs') : ∀ (l : List V) (l' : List Value) (off : Nat), VsRel I w ρ l l' →
    VsRel I w ρ (setCells xs off l) (((l'.zipIdx).foldl (fun cs (p : Value × Nat) => cs.setIfInBounds (off + p.2) p.1) (⟨xs'⟩ : Array Value)).toList) := by
  have gen : ∀ (l : List V) (l' : List Value) (xs : List V) (a : Array Value) (off k : Nat), VsRel I w ρ l l' → VsRel I w ρ xs a.toList →
      VsRel I w ρ (Go.Lh.setCells xs (off + k) l) (((l'.zipIdx k).foldl (fun cs (p : Value × Nat) => cs.setIfInBounds (off + p.2) p.1) a).toList) := by
    intro l
    induction l with
    | nil => intro l' xs a off k hl hx; cases hl; simpa [Go.Lh.setCells] using hx
    | cons v r ih =>
      intro l' xs a off k hl hx
      cases hl with
      | cons _ _ v' _ r' hv hr =>
        simp only [Go.Lh.setCells, List.zipIdx_cons, List.foldl_cons]
        have := ih r' (xs.set (off + k) v) (a.setIfInBounds (off + k) v') off (k + 1) hr (by rw [Array.toList_setIfInBounds]; exact hx.set _ hv)
        simpa [Nat.add_assoc] using this
  intro l l' off hl
  simpa using gen l l' xs ⟨xs'⟩ off 0 hl h
theorem cells_sound {v : V} {v' : Value} (h : VRel I w ρ v v') (hn : v ≠ .any) : VsRel I w ρ v.cells v'.cells.toList := by
  cases h
  case any => exact absurd rfl hn
  case agg h => exact h
  all_goals exact .cons _ _ _ _ _ (by first | exact .islz _ _ _ _ _ ‹_› | exact .yld _ _ | exact .fmap _ _ _ _ _ ‹_› ‹_› ‹_› | exact .u8 _ _ | exact .u16 _ _ | exact .u32 _ _ | exact .u64 _ _ | exact .bool _ _ | exact .str _ _ | exact .nilPtr _ | exact .nilSl _ | exact .nilFn _ | exact .nilIface _ | exact .int _ _ _ ‹_› | exact .ptr _ _ _ _ ‹_› | exact .sl _ _ _ _ _ _ _ _ ‹_› ‹_› ‹_› ‹_› | exact .slz _ _ _ _ _ _ _ ‹_› ‹_› | exact .isl _ _ _ _ _ _ _ _ ‹_› ‹_› ‹_› ‹_› | exact .iptr _ _ _ _ _ _ _ _ _ ‹_› ‹_› ‹_› | exact .fn _ _ _ _ _ _ ‹_› ‹_› | exact .tup _ _ _ ‹_› | exact .iface _ _ _ _ ‹_›) (.nil _)
theorem fillV_sound {pl : Nat → Option (Nat × Nat)} : ∀ (ps : List (Nat × V)) (ps' : List (Nat × Value)) (cs : List V) (cs' : Array Value) (z : List V),
    ps.map (·.1) = ps'.map (·.1) → VsRel I w ρ (ps.map (·.2)) (ps'.map (·.2)) → (∀ p ∈ ps, p.2 ≠ .any) → VsRel I w ρ cs cs'.toList → fillV pl cs ps = some z →
    ∃ z', Instr.fill pl cs' ps' = some z' ∧ VsRel I w ρ z z'.toList
  | [], ps', cs, cs', z, h1, _, _, hc, h => by
    cases ps' with
    | nil => simp only [fillV, Option.some.injEq] at h; subst h; exact ⟨cs', rfl, hc⟩
    | cons => simp at h1
  | (i, v) :: r, ps', cs, cs', z, h1, h2, h3, hc, h => by
    cases ps' with
    | nil => simp at h1
    | cons p' r' =>
      obtain ⟨i', v'⟩ := p'
      simp only [List.map_cons, List.cons.injEq] at h1
      obtain ⟨rfl, h1⟩ := h1
      cases h2 with
      | cons _ _ _ _ _ hv hr =>
        simp only [fillV] at h
        cases hp : pl i with
        | none => simp [hp] at h
        | some q =>
          obtain ⟨off, size⟩ := q
          simp only [hp] at h
          split at h
          · rename_i hb
            simp only [Bool.and_eq_true, beq_iff] at hb
            obtain ⟨b1, b2⟩ := hb
            have b2 := Nat.le_of_ble_eq_true b2
            have hvc := cells_sound hv (h3 _ (by simp))
            have hlen : v.cells.length = v'.cells.size := by simpa using hvc.length
            have hcl : cs.length = cs'.size := by simpa using hc.length
            obtain ⟨z', hz1, hz2⟩ := fillV_sound r r' _ (v'.cells.zipIdx.foldl (fun cs (p : Value × Nat) => cs.setIfInBounds (off + p.2) p.1) cs') z h1 hr (fun p hp => h3 p (by simp [hp])) (by
              have hs := VsRel.setCells (xs' := cs'.toList) hc v.cells v'.cells.toList off hvc
              rw [← Array.foldl_toList, Array.toList_zipIdx]
              exact hs) h
            refine ⟨z', ?_, hz2⟩
            simp only [Instr.fill, hp]
            rw [if_neg]
            · exact hz1
            · simp only [ne_eq, Bool.or_eq_true, decide_eq_true_eq, not_or, Decidable.not_not]
              omega
          · cases h
theorem run_zeroT {t : TypeId} {z : V} (h : zeroT P t = some z) : ∃ z', (zeroValue t).run P w = .ok z' w ∧ VRel I w ρ z z' ∧ ofValue z' = some z := by
  unfold zeroT at h
  cases hi : P.info? t with
  | none => simp [hi] at h
  | some i =>
    simp only [hi] at h
    cases hz : i.zero with
    | none => simp [hz] at h
    | some z' =>
      simp only [hz] at h
      exact ⟨z', by simp [zeroValue, run_typeInfo w hi, hz], ofValue_sound h, h⟩
theorem ofValue_not_any : ∀ {x : Value} {v : V}, ofValue x = some v → v ≠ .any := by
  intro x v h e
  subst e
  cases x with
  | int k n => cases k <;> simp [ofValue, ofIntC] at h
  | pointer a => cases a <;> simp [ofValue] at h
  | slice a b c => cases a <;> cases b <;> cases c <;> simp [ofValue] at h
  | iface t y => rw [ofValue] at h; split at h <;> simp at h
  | agg a => obtain ⟨l⟩ := a; rw [ofValue] at h; split at h <;> simp at h
  | tuple a => obtain ⟨l⟩ := a; rw [ofValue] at h; split at h <;> simp at h
  | _ => simp [ofValue] at h
theorem partsV_not_any {g : Fm} : ∀ {x : List (Nat × Operand)} {v : List (Nat × V)}, partsV g x = some v → ∀ p ∈ v, p.2 ≠ .any
  | [], v, h => by simp [partsV] at h; subst h; simp
  | (i, x) :: r, v, h => by
    simp only [partsV] at h
    split at h <;> simp at h
    rename_i y z hna hy hz; subst h
    intro p hp
    rcases List.mem_cons.1 hp with rfl | hp
    · rintro e; exact hna e
    · exact partsV_not_any hz p hp
theorem sizes_run {fs : List Field} (h : ∀ f ∈ fs, ∃ n, sizeT P f.type = some n) :
    (fs.mapM (fun f => (do pure (f.offset, ← sizeOf f.type) : Sem (Nat × Nat)))).run P w = .ok (fs.map fun f => (f.offset, (sizeT P f.type).getD 0)) w := by
  induction fs with
  | nil => simp
  | cons f fs ih =>
    obtain ⟨n, hn⟩ := h f (by simp)
    simp only [List.mapM_cons, Sem.run_bind, run_sizeT hn, Result.andThen_ok, Sem.run_pure, ih (fun g hg => h g (by simp [hg])), List.map_cons, hn, Option.getD_some]
theorem build_sound {g : Fm} {a : Act} (F : FRel I w ρ g a) {t : TypeId} {parts : Array (Nat × Operand)} {ps : List (Nat × V)} {z : V} {pl : Nat → Option (Nat × Nat)} {cs : List V}
    (h1 : partsV g parts.toList = some ps) (h2 : zeroT P t = some z) (h3 : placeT P t = some pl) (h4 : fillV pl z.cells ps = some cs) :
    ∃ v', (Instr.build t (parts.map fun p => (p.1, a.eval p.2))).run P w = .ok v' w ∧ VRel I w ρ (.agg cs) v' := by
  obtain ⟨z', hz, hzr, hzo⟩ := run_zeroT (P := P) (w := w) (I := I) (ρ := ρ) h2
  obtain ⟨m1, m2⟩ := partsV_sound F h1
  have hzc := cells_sound hzr (ofValue_not_any hzo)
  have e1 : (parts.map fun p => (p.1, a.eval p.2)).toList.map (·.1) = parts.toList.map (·.1) := by simp [Function.comp_def]
  have e2 : (parts.map fun p => (p.1, a.eval p.2)).toList.map (·.2) = parts.toList.map (fun p => a.eval p.2) := by simp [Function.comp_def]
  obtain ⟨cs', hc1, hc2⟩ := fillV_sound ps (parts.map fun p => (p.1, a.eval p.2)).toList z.cells z'.cells cs (by rw [m1, e1]) (by rw [e2]; exact m2) (partsV_not_any h1) hzc h4
  refine ⟨.agg cs', ?_, .agg _ _ cs'.toList hc2⟩
  unfold placeT at h3
  split at h3
  · rename_i fs hu
    split at h3
    · rename_i hall
      injection h3 with h3; subst h3
      simp only [Instr.build, Sem.run_bind, hz, run_underlying hu, Result.andThen_ok]
      have hm : (fs.mapM (fun f => (do pure (f.offset, ← sizeOf f.type) : Sem (Nat × Nat)))).run P w = .ok (fs.map fun f => (f.offset, (sizeT P f.type).getD 0)) w := by
        have e0 : fs.mapM (fun f => (do pure (f.offset, ← sizeOf f.type) : Sem (Nat × Nat))) = List.toArray <$> fs.toList.mapM (fun f => (do pure (f.offset, ← sizeOf f.type) : Sem (Nat × Nat))) := by
          conv => lhs; rw [← Array.toArray_toList (xs := fs), List.mapM_toArray]
        rw [e0]
        simp only [Sem.run_map]
        rw [sizes_run (fun f hf => ?_)]
        · simp only [Result.andThen_ok, Result.ok.injEq, and_true]
          apply Array.ext'; simp
        · have := List.all_eq_true.1 hall f hf
          exact Option.isSome_iff_exists.1 this
      rw [hm]
      simp only [Result.andThen_ok]
      have e3 : (fun (i : Nat) => (fs.map fun (f : Field) => (f.offset, (sizeT P f.type).getD 0))[i]?) = fieldPl P fs := by
        funext i
        rw [Array.getElem?_map]
        unfold fieldPl
        cases hf : fs[i]? with
        | none => rfl
        | some f =>
          have hmem : f ∈ fs.toList := by
            have := Array.mem_of_getElem? hf
            simpa using this
          have := List.all_eq_true.1 hall f hmem
          obtain ⟨n, hn⟩ := Option.isSome_iff_exists.1 this
          simp [hn]
      rw [e3, hc1]
      rfl
    · cases h3
  · rename_i len e hu
    cases hs : sizeT P e with
    | none => simp [hs] at h3
    | some n =>
      simp only [hs, Option.some.injEq] at h3; subst h3
      simp only [Instr.build, Sem.run_bind, hz, run_underlying hu, Result.andThen_ok, run_sizeT hs, hc1]
      rfl
  · cases h3
theorem lookF_now {es : List (BitVec 8 × FuncId)} {b : BitVec 8} {f : FuncId} : ∀ {es : List (BitVec 8 × FuncId)} {l : List MapEntry} (i : Nat), lookF es b = some f →
    l.map (fun e => (e.key, e.val)) = es.map (fun p => (Value.int .u8 p.1.toNat, Value.func (.func p.2) #[] #[])) → ∃ j, Instr.findNow (.int .u8) (.int .u8 b.toNat) l i = some (some (j, Value.func (.func f) #[] #[]))
  | [], _, _, h, _ => by simp [lookF] at h
  | p :: r, [], _, _, hx => by simp at hx
  | p :: r, e :: l, i, h, hx => by
    obtain ⟨k, g⟩ := p
    simp only [List.map_cons, List.cons.injEq, Prod.mk.injEq] at hx
    obtain ⟨⟨h1, h2⟩, h3⟩ := hx
    simp only [lookF] at h
    split at h
    · rename_i hb
      cases h
      have hb := Nat.eq_of_beq_eq_true hb
      refine ⟨i, ?_⟩
      simp only [Instr.findNow, h1, Instr.sameNow, if_pos trivial]
      rw [hb]
      simp [h2]
    · rename_i hb
      have hb : k.toNat ≠ b.toNat := fun e => hb (by rw [e]; exact Nat.beq_refl _)
      obtain ⟨j, hj⟩ := lookF_now (es := r) (l := l) (i + 1) h h3
      refine ⟨j, ?_⟩
      simp only [Instr.findNow, h1, Instr.sameNow, if_pos trivial]
      have : ((b.toNat : Int) == (k.toNat : Int)) = false := by
        simp only [beq_eq_false_iff_ne, ne_eq]; omega
      rw [this]
      exact hj
theorem lookup_fmap {t : TypeId} {es : List (BitVec 8 × FuncId)} {b : BitVec 8} {f : FuncId} {x k : Value} (hm : isU8map P t = true) (hf : lookF es b = some f)
    (hx : VRel I w ρ (.fmap (.f es)) x) (hk : VRel I w ρ (.u8 b) k) : (Instr.lookup t x k false).run P w = .ok (.func (.func f) #[] #[]) w := by
  unfold isU8map at hm
  split at hm
  · rename_i kt et ht
    split at hm
    · rename_i hu
      cases hx with
      | fmap _ _ r xs clk hI hw he =>
        cases hk
        obtain ⟨j, hj⟩ := lookF_now (es := es) (l := xs.toList) 0 hf he
        simp [Instr.lookup, run_underlying ht, MapKept.run_getObj_map hw, MapKept.run_checkKey hu (show MapKept.IsKey (.int .u8) (.int .u8 b.toNat) from by simp [MapKept.IsKey]) _ 9999, MapKept.run_findKey hu hj, Result.andThen]
    · cases hm
  · cases hm
theorem eqB_iff : ∀ {a b : List (BitVec 8)}, eqB a b = true ↔ a = b
  | [], [] => by simp [eqB]
  | [], _ :: _ => by simp [eqB]
  | _ :: _, [] => by simp [eqB]
  | x :: r, y :: s => by
    rw [eqB, Bool.and_eq_true, List.cons.injEq, eqB_iff]
    constructor
    · rintro ⟨h1, h2⟩; exact ⟨BitVec.eq_of_toNat_eq (Nat.eq_of_beq_eq_true h1), h2⟩
    · rintro ⟨rfl, h2⟩; exact ⟨Nat.beq_refl _, h2⟩
theorem bytesOf_strV (l : List (BitVec 8)) : bytesOf ⟨⟨l.map UInt8.ofBitVec⟩⟩ = l := by
  show (l.map UInt8.ofBitVec).map UInt8.toBitVec = l
  rw [List.map_map]
  have : (UInt8.toBitVec ∘ UInt8.ofBitVec) = id := by funext x; rfl
  rw [this, List.map_id]
theorem bytesOf_ext {a b : ByteArray} (h : bytesOf a = bytesOf b) : a = b := by
  obtain ⟨⟨x⟩⟩ := a
  obtain ⟨⟨y⟩⟩ := b
  have h : x.map UInt8.toBitVec = y.map UInt8.toBitVec := h
  have : x = y := List.map_inj_right (fun x y e => UInt8.toBitVec_inj.1 e) |>.1 h
  rw [this]
theorem lookS_now (sb : ByteArray) : ∀ (es : List (List (BitVec 8) × List (BitVec 8))) (l : List MapEntry) (i : Nat),
    l.map (fun e => (e.key, e.val)) = (MapK.s es).ents → (hasS es (bytesOf sb) = true ∧ ∃ j, Instr.findNow .string (.string sb) l i = some (some (j, strV (lookS es (bytesOf sb))))) ∨
      (hasS es (bytesOf sb) = false ∧ lookS es (bytesOf sb) = [] ∧ Instr.findNow .string (.string sb) l i = some none)
  | [], [], i, _ => .inr ⟨rfl, rfl, rfl⟩
  | [], _ :: _, i, h => by simp [MapK.ents] at h
  | _ :: _, [], i, h => by simp [MapK.ents] at h
  | (k, v) :: r, e :: l, i, hx => by
    simp only [MapK.ents, List.map_cons, List.cons.injEq, Prod.mk.injEq] at hx
    obtain ⟨⟨h1, h2⟩, h3⟩ := hx
    have ih := lookS_now sb r l (i + 1) h3
    cases hb : eqB k (bytesOf sb) with
    | true =>
      left
      have hk := eqB_iff.1 hb
      have e1 : (sb == (⟨⟨k.map UInt8.ofBitVec⟩⟩ : ByteArray)) = true := (MapKept.bytes_beq _ _).2 (bytesOf_ext (by rw [bytesOf_strV, hk]))
      refine ⟨by simp only [hasS, hb, cond_true], i, ?_⟩
      simp only [Instr.findNow, h1, strV, Instr.sameNow, e1, lookS, hb, cond_true, h2]
    | false =>
      have e1 : (sb == (⟨⟨k.map UInt8.ofBitVec⟩⟩ : ByteArray)) = false := by
        cases hq : (sb == (⟨⟨k.map UInt8.ofBitVec⟩⟩ : ByteArray)) with
        | false => rfl
        | true =>
          have := (MapKept.bytes_beq _ _).1 hq
          rw [this, bytesOf_strV, eqB_iff.2 rfl] at hb
          cases hb
      simp only [hasS, lookS, hb, cond_false, Instr.findNow, h1, strV, Instr.sameNow, e1]
      exact ih
theorem lookup_smap {t : TypeId} {es : List (List (BitVec 8) × List (BitVec 8))} {s : List (BitVec 8)} {x k : Value} (hm : isSmap P t = true)
    (hx : VRel I w ρ (.fmap (.s es)) x) (hk : VRel I w ρ (.str s) k) : ∃ l : List Value, (Instr.lookup t x k true).run P w = .ok (.tuple ⟨l⟩) w ∧ VsRel I w ρ [.str (lookS es s), .bool (hasS es s)] l := by
  unfold isSmap at hm
  split at hm
  · rename_i kt et ht
    split at hm
    · rename_i hu hz
      cases hx with
      | fmap _ _ r xs clk hI hw he =>
        generalize hs : (V.str s) = vs at hk
        cases hk <;> cases hs
        rename_i sb
        obtain ⟨z, z1, z2, _⟩ := run_zeroT (P := P) (w := w) (I := I) (ρ := ρ) hz
        rcases lookS_now sb es xs.toList 0 he with ⟨h1, j, h2⟩ | ⟨h1, h3, h2⟩
        · refine ⟨[strV (lookS es (bytesOf sb)), .bool true], ?_, ?_⟩
          · simp [Instr.lookup, run_underlying ht, MapKept.run_getObj_map hw, MapKept.run_checkKey hu (show MapKept.IsKey .string (.string sb) from by simp [MapKept.IsKey]) _ 9999, MapKept.run_findKey hu h2, Result.andThen]
          · rw [h1]
            refine .cons _ _ _ _ _ ?_ (.cons _ _ _ _ _ (.bool _ _) (.nil _))
            have := VRel.str (I := I) (w := w) ρ ⟨⟨(lookS es (bytesOf sb)).map UInt8.ofBitVec⟩⟩
            rw [bytesOf_strV] at this
            exact this
        · refine ⟨[z, .bool false], ?_, ?_⟩
          · simp [Instr.lookup, run_underlying ht, MapKept.run_getObj_map hw, MapKept.run_checkKey hu (show MapKept.IsKey .string (.string sb) from by simp [MapKept.IsKey]) _ 9999, MapKept.run_findKey hu h2, z1, Result.andThen]
          · rw [h1, h3]
            exact .cons _ _ _ _ _ z2 (.cons _ _ _ _ _ (.bool _ _) (.nil _))
    · cases hm
  · cases hm
theorem stepT_sound {g : Fm} {a : Act} (F : FRel I w ρ g a) {o : Oper} {v : V} (h : stepT P g o.op = some (true, v)) : ∃ v', (execOp a.eval o).run P w = .ok (.value v') w ∧ VRel I w ρ v v' := by
  cases ho : o.op <;> rw [ho] at h <;> simp only [stepT, reduceCtorEq] at h
  case move x =>
    cases hx : opnd g x <;> simp [hx] at h
    subst h; exact ⟨_, by simp [execOp, ho], opnd_sound F hx⟩
  case assign x =>
    cases hx : opnd g x <;> simp [hx] at h
    subst h; exact ⟨_, by simp [execOp, ho], opnd_sound F hx⟩
  case pick c x y =>
    split at h <;> try simp only [reduceCtorEq] at h
    rename_i t hc
    have hcr := opnd_sound F hc
    cases hcc : a.eval c <;> rw [hcc] at hcr <;> cases hcr
    split at h <;> simp at h
    rename_i z hz
    subst h
    refine ⟨if t = true then a.eval x else a.eval y, by simp [execOp, ho, hcc, asBool], ?_⟩
    unfold pickV at hz
    split at hz
    · rename_i p q hp hq
      injection hz with hz; subst hz
      have r1 := opnd_sound F hp
      have r2 := opnd_sound F hq
      cases t
      · simpa using r2
      · simpa using r1
    · cases t
      · simp at hz ⊢; exact opnd_sound F hz
      · simp at hz ⊢; exact opnd_sound F hz
  case lookup t x k c =>
    cases c <;> simp only [reduceCtorEq] at h
    · split at h <;> try simp only [reduceCtorEq] at h
      rename_i es b hx hk
      split at h <;> try simp only [reduceCtorEq] at h
      rename_i hm
      split at h <;> simp at h
      rename_i f hf
      subst h
      have r1 := opnd_sound F hx
      have r2 := opnd_sound F hk
      exact ⟨_, by simp only [execOp, ho, Sem.run_bind]; rw [lookup_fmap hm hf r1 r2]; rfl, .fn _ _ _ _ _ _ (.nil _) (.nil _)⟩
    · split at h <;> try simp only [reduceCtorEq] at h
      rename_i es s hx hk
      split at h <;> simp at h
      rename_i hm
      subst h
      have r1 := opnd_sound F hx
      have r2 := opnd_sound F hk
      obtain ⟨v', e1, e2⟩ := lookup_smap hm r1 r2
      exact ⟨_, by simp only [execOp, ho, Sem.run_bind]; rw [e1]; rfl, .tup _ _ _ e2⟩
  case nilCheck x =>
    split at h <;> simp at h
    · rename_i i q hx; subst h
      have r := opnd_sound F hx
      cases hv : a.eval x <;> rw [hv] at r <;> cases r
      rename_i l hl
      exact ⟨.pointer (some ⟨l.b, l.d + q, none⟩), by simp [execOp, ho, hv], .ptr _ _ _ _ hl⟩
    · rename_i s n f i j hx; subst h
      have r := opnd_sound F hx
      cases hv : a.eval x <;> rw [hv] at r <;> cases r
      rename_i b o' g' hI hw hv'
      exact ⟨.pointer (some ⟨b, o' + i * s + j, none⟩), by simp [execOp, ho, hv], .iptr _ _ _ _ _ _ _ _ g' hI hw hv'⟩
    · rename_i f p q hx; subst h
      have r := opnd_sound F hx
      cases hv : a.eval x <;> rw [hv] at r <;> cases r
      rename_i p' q' hp hq
      exact ⟨.func (.func f) ⟨p'⟩ ⟨q'⟩, by simp [execOp, ho, hv], .fn _ _ _ _ _ _ hp hq⟩
  case binOp op t x y _ =>
    split at h
    · rename_i p q hx hy
      obtain ⟨v', h1, h2⟩ := binOpV_sound (P := P) x y (opnd_sound F hx) (opnd_sound F hy) h
      exact ⟨v', by simp only [execOp, ho, Sem.run_bind] at h1 ⊢; simp [h1], h2⟩
    · cases h
  case unOp op t x =>
    split at h <;> try simp only [reduceCtorEq] at h
    rename_i p hx
    split at h <;> simp at h
    rename_i z hz; subst h
    obtain ⟨v', h1, h2⟩ := unOpV_sound (P := P) (opnd_sound F hx) hz
    exact ⟨v', by simp [execOp, ho, h1], h2⟩
  case convert src dst x =>
    split at h <;> try simp only [reduceCtorEq] at h
    rename_i p hx
    split at h <;> simp at h
    rename_i z hz; subst h
    obtain ⟨v', h1, h2⟩ := convT_sound (P := P) (opnd_sound F hx) hz
    exact ⟨v', by simp [execOp, ho, h1], h2⟩
  case sliceToArrayPointer arr x =>
    split at h <;> simp at h
    rename_i n e i q s len cap hu hx
    obtain ⟨⟨h1, h2⟩, rfl⟩ := h
    have r := opnd_sound F hx
    cases hv : a.eval x <;> rw [hv] at r <;> cases r
    · rename_i l hl _ _ _
      exact ⟨.pointer (some ⟨l.b, l.d + q, none⟩), by simp [execOp, ho, hv, Instr.arrayAt, run_underlying hu, show ¬ len < n from by omega], .ptr _ _ _ _ hl⟩
    · omega
  case makeInterface t x =>
    split at h <;> simp at h
    rename_i d u hne hu hx; subst h
    refine ⟨.iface t (a.eval x), ?_, .iface _ _ _ _ (opnd_sound F hx)⟩
    simp only [execOp, ho, Instr.makeInterface, Sem.run_bind, run_underlying hu, Result.andThen_ok]
    cases d <;> first | rfl | exact (hne _ hu).elim
  case makeFunc fn first cap =>
    cases fn <;> simp only [reduceCtorEq] at h
    rename_i f
    split at h <;> simp at h
    rename_i p q h1 h2; subst h
    have e1 : first.map a.eval = ⟨first.toList.map a.eval⟩ := by apply Array.ext'; simp
    have e2 : cap.map a.eval = ⟨cap.toList.map a.eval⟩ := by apply Array.ext'; simp
    refine ⟨.func (.func f) (first.map a.eval) (cap.map a.eval), by simp [execOp, ho, Instr.makeFunc], ?_⟩
    rw [e1, e2]
    exact .fn _ f p q _ _ (opnds_sound F h1) (opnds_sound F h2)
  case slice t x lo hi mx =>
    cases mx <;> simp only [reduceCtorEq] at h
    split at h
    · rename_i v0 l u hx hl hu
      obtain ⟨v', h1, h2⟩ := sliceT_sound (P := P) (lo := lo.map a.eval) (hi := hi.map a.eval) (opnd_sound F hx) (by
        cases lo with
        | none => simp at hl; subst hl; trivial
        | some y =>
          simp only at hl
          cases hq : optIx g (some y) 0 <;> simp [hq] at hl
          subst hl; exact optIx_sound F hq) (by
        cases hi with
        | none => simp at hu; subst hu; trivial
        | some y =>
          simp only at hu
          cases hq : optIx g (some y) 0 <;> simp [hq] at hu
          subst hu; exact optIx_sound F hq) h
      refine ⟨v', ?_, h2⟩
      have hna : ∀ n e, P.underlying t ≠ some (.array n e) := by
        intro n e hc
        unfold sliceT at h
        split at h <;> simp_all
      obtain ⟨d, hd⟩ : ∃ d, P.underlying t = some d := by
        cases hc : P.underlying t with
        | none => unfold sliceT at h; simp [hc] at h
        | some d => exact ⟨d, rfl⟩
      simp only [execOp, ho, Instr.sliceAt, Sem.run_bind, run_underlying hd, Result.andThen_ok]
      cases d <;> first | exact (hna _ _ hd).elim | (simp only [Option.map_none]; rw [h1]; rfl)
    · cases h
  case fieldAddr t x n =>
    split at h <;> try simp only [reduceCtorEq] at h
    rename_i fs v0 hu hx
    split at h <;> try simp only [reduceCtorEq] at h
    rename_i f hf
    have r := opnd_sound F hx
    split at h <;> simp at h
    · rename_i m i q hm hs; subst h
      cases hv : a.eval x <;> rw [hv] at r <;> cases r
      rename_i l hl
      refine ⟨.pointer (some ⟨l.b, l.d + (q + f.offset), none⟩), ?_, .ptr _ _ _ _ hl⟩
      simp [execOp, ho, hv, Instr.fieldAt, run_underlying hu, hf, Instr.sureAddr, fieldPlace, run_sizeT hs, add_eq, Nat.add_assoc]
      exact fun e => (hm e).elim
    · rename_i m s len f' i j hm hs; subst h
      cases hv : a.eval x <;> rw [hv] at r <;> cases r
      rename_i b o' g' hI hw hv'
      refine ⟨.pointer (some ⟨b, o' + i * s + (j + f.offset), none⟩), ?_, .iptr _ _ _ _ _ _ _ _ g' hI hw hv'⟩
      simp [execOp, ho, hv, Instr.fieldAt, run_underlying hu, hf, Instr.sureAddr, fieldPlace, run_sizeT hs, add_eq, Nat.add_assoc]
      exact fun e => (hm e).elim
  case field t x n =>
    split at h <;> try simp only [reduceCtorEq] at h
    rename_i fs cs hu hx
    split at h <;> try simp only [reduceCtorEq] at h
    rename_i f hf
    split at h <;> simp at h
    rename_i z hz; subst h
    have r := opnd_sound F hx
    cases hv : a.eval x <;> rw [hv] at r <;> cases r
    rename_i cs' hcs
    obtain ⟨v', h1, h2⟩ := partV_sound (P := P) hcs hz
    exact ⟨v', by simp [execOp, ho, hv, Instr.field, run_underlying hu, hf, asAgg, h1], h2⟩
  case indexAddr t x ix =>
    split at h <;> try simp only [reduceCtorEq] at h
    · rename_i len e i q iv hu hx hix
      split at h <;> simp at h
      rename_i n s hn hs
      obtain ⟨⟨h1, h2⟩, rfl⟩ := h
      have r := opnd_sound F hx
      obtain ⟨k, hk⟩ := asIx_sound (opnd_sound F hix) hn
      cases hv : a.eval x <;> rw [hv] at r <;> cases r
      rename_i l hl
      refine ⟨.pointer (some ⟨l.b, l.d + (q + n.toNat * s), none⟩), ?_, .ptr _ _ _ _ hl⟩
      simp [execOp, ho, hv, hk, Instr.indexAt, asIntOf, run_underlying hu, Instr.sureAddr, h1, h2, run_sizeT hs, add_eq, Nat.add_assoc]
    · rename_i e i q s len cap iv hu hx hix
      split at h <;> try simp only [reduceCtorEq] at h
      rename_i n s' hn hs
      split at h <;> simp at h
      rename_i hss; subst hss
      obtain ⟨⟨h1, h2⟩, rfl⟩ := h
      have r := opnd_sound F hx
      obtain ⟨k, hk⟩ := asIx_sound (opnd_sound F hix) hn
      cases hv : a.eval x <;> rw [hv] at r <;> cases r
      · rename_i l hl k1 k2 k3
        refine ⟨.pointer (some ⟨l.b, l.d + (q + n.toNat * s'), none⟩), ?_, .ptr _ _ _ _ hl⟩
        simp [execOp, ho, hv, hk, Instr.indexAt, asIntOf, run_underlying hu, h1, h2, run_sizeT hs, add_eq, Nat.add_assoc]
      · simp at h2; omega
    · rename_i e s len f iv hu hx hix
      split at h <;> try simp only [reduceCtorEq] at h
      rename_i n s' hn hs
      split at h <;> simp at h
      rename_i hss; subst hss
      obtain ⟨⟨h1, h2⟩, rfl⟩ := h
      have r := opnd_sound F hx
      obtain ⟨k, hk⟩ := asIx_sound (opnd_sound F hix) hn
      cases hv : a.eval x <;> rw [hv] at r <;> cases r
      · rename_i cc b o' g' hI hw hv' hc
        refine ⟨.pointer (some ⟨b, o' + n.toNat * s' + 0, none⟩), ?_, .iptr _ _ _ _ _ _ _ _ g' hI hw hv'⟩
        simp [execOp, ho, hv, hk, Instr.indexAt, asIntOf, run_underlying hu, h1, h2, run_sizeT hs, add_eq]
      · simp at h2; omega
  case index t x ix =>
    split at h <;> try simp only [reduceCtorEq] at h
    · rename_i s iv hu hx hix
      split at h <;> simp at h
      rename_i n hn
      obtain ⟨⟨h1, h2⟩, rfl⟩ := h
      have r := opnd_sound F hx
      obtain ⟨k, hk⟩ := asIx_sound (opnd_sound F hix) hn
      cases hv : a.eval x <;> rw [hv] at r <;> cases r
      rename_i s
      rw [bytesOf_length] at h2
      have hlt : n.toNat < s.size := by omega
      refine ⟨.int .u8 (s[n.toNat]'hlt).toNat, ?_, ?_⟩
      · simp [execOp, ho, hv, hk, Instr.index, asIntOf, run_underlying hu, h1, hlt]
      · have : (bytesOf s)[n.toNat]?.getD 0#8 = (s[n.toNat]'hlt).toBitVec := by rw [bytesOf_get, getElem?_pos s n.toNat hlt]; rfl
        rw [this]; exact .u8 _ _
    · rename_i len e cs iv hu hx hix
      split at h <;> try simp only [reduceCtorEq] at h
      rename_i n s hn hs
      split at h <;> simp at h
      rename_i z hz
      obtain ⟨⟨h1, h2⟩, rfl⟩ := h
      have r := opnd_sound F hx
      obtain ⟨k, hk⟩ := asIx_sound (opnd_sound F hix) hn
      cases hv : a.eval x <;> rw [hv] at r <;> cases r
      rename_i cs' hcs
      obtain ⟨v', e1, e2⟩ := partV_sound (P := P) hcs hz
      exact ⟨v', by simp [execOp, ho, hv, hk, Instr.index, asIntOf, run_underlying hu, h1, h2, run_sizeT hs, e1], e2⟩
  case extract x n =>
    split at h <;> try simp only [reduceCtorEq] at h
    rename_i vs hx
    split at h <;> simp at h
    rename_i z hz; subst h
    have r := opnd_sound F hx
    cases hv : a.eval x <;> rw [hv] at r <;> cases r
    rename_i vs' hvs
    obtain ⟨z', e1, e2⟩ := hvs.get _ _ hz
    refine ⟨z', ?_, e2⟩
    have : (⟨vs'⟩ : Array Value)[n]? = some z' := by simpa using e1
    simp [execOp, ho, hv, Instr.extract, this]
  case build t parts =>
    split at h <;> try simp only [reduceCtorEq] at h
    rename_i ps z pl h1 h2 h3
    split at h <;> simp at h
    rename_i cs h4; subst h
    obtain ⟨v', e1, e2⟩ := build_sound (P := P) F h1 h2 h3 h4
    exact ⟨v', by simp only [execOp, ho, Sem.run_bind]; rw [e1]; rfl, e2⟩
  case typeAssert x xt asserted ok =>
    cases ok <;> simp only [reduceCtorEq] at h
    split at h <;> simp at h
    · rename_i d z hne hu hx hz; subst h
      have r := opnd_sound F hx
      obtain ⟨z', e1, e2, _⟩ := run_zeroT (P := P) (w := w) (I := I) (ρ := ρ) hz
      cases hv : a.eval x <;> rw [hv] at r <;> cases r
      refine ⟨.tuple #[z', .bool false], ?_, .tup _ _ _ (.cons _ _ _ _ _ e2 (.cons _ _ _ _ _ (.bool _ _) (.nil _)))⟩
      simp only [execOp, ho, hv, Instr.typeAssert, Sem.run_bind, run_underlying hu, Result.andThen_ok]
      cases d <;> first | exact (hne _ hu).elim | simp [e1]
    · rename_i d t v0 z hne hu hx hz; subst h
      have r := opnd_sound F hx
      obtain ⟨z', e1, e2, _⟩ := run_zeroT (P := P) (w := w) (I := I) (ρ := ρ) hz
      cases hv : a.eval x <;> rw [hv] at r <;> cases r
      rename_i v1 hv1
      refine ⟨if t = asserted then .tuple #[v1, .bool true] else .tuple #[z', .bool false], ?_, ?_⟩
      · simp only [execOp, ho, hv, Instr.typeAssert, Sem.run_bind, run_underlying hu, Result.andThen_ok]
        cases d <;> first | exact (hne _ hu).elim | (by_cases ht : t = asserted <;> simp [e1, ht])
      · by_cases ht : t = asserted
        · simp only [ht, if_true]; exact .tup _ _ _ (.cons _ _ _ _ _ hv1 (.cons _ _ _ _ _ (.bool _ _) (.nil _)))
        · simp only [ht, if_false]; exact .tup _ _ _ (.cons _ _ _ _ _ e2 (.cons _ _ _ _ _ (.bool _ _) (.nil _)))
  case call c =>
    split at h <;> try simp only [reduceCtorEq] at h
    rename_i b args hb ha
    split at h <;> simp at h
    rename_i z hz; subst h
    obtain ⟨z', e1, e2⟩ := builtinT_sound (P := P) (ts := c.argTypes) o.type (c.args.map fun | .const _ => true | _ => false) (opnds_sound F ha) hz
    refine ⟨z', ?_, e2⟩
    have e3 : (⟨c.args.toList.map a.eval⟩ : Array Value) = c.args.map a.eval := by apply Array.ext'; simp
    rw [e3] at e1
    simp only [execOp, ho, resolve, hb, Sem.run_bind, Sem.run_pure, Result.andThen_ok, invoke]
    exact e1
end
end Go.Lh
end
section
namespace Go.Lh
inductive Fin where
  | ret (v : V)
  | pan (v : V)
  deriving Inhabited
abbrev Res := Option (Bool × V × Heap)
def Blk.cut (b : Blk) (o n : Nat) : Blk :=
  match b with
  | .dead => .dead
  | .b8 xs => .b8 ((xs.drop o).take n)
  | .b64 xs => .b64 ((xs.drop o).take n)
  | .ints xs => .ints ((xs.drop o).take n)
  | .vals xs => .vals ((xs.drop o).take n)
  | .buf _ xs => .b8 ((xs.drop o).take n)
  | .bld _ a b => .vals (([a, b].drop o).take n)
def Blk.app (b c : Blk) : Option Blk :=
  match b, c with
  | .vals [], c => some c
  | b, .vals [] => some b
  | .b8 xs, .b8 ys => some (.b8 (xs ++ ys))
  | .b64 xs, .b64 ys => some (.b64 (xs ++ ys))
  | .ints xs, .ints ys => some (.ints (xs ++ ys))
  | .vals xs, .vals ys => some (.vals (xs ++ ys))
  | _, _ => none
def Blk.over (b : Blk) (o : Nat) (c : Blk) : Option Blk :=
  match b, c with
  | b, .vals [] => some b
  | .b8 xs, .b8 ys => some (.b8 (xs.take o ++ ys ++ xs.drop (o + ys.length)))
  | .b64 xs, .b64 ys => some (.b64 (xs.take o ++ ys ++ xs.drop (o + ys.length)))
  | .ints xs, .ints ys => some (.ints (xs.take o ++ ys ++ xs.drop (o + ys.length)))
  | .vals xs, .vals ys => some (.vals (xs.take o ++ ys ++ xs.drop (o + ys.length)))
  | _, _ => none
def isDead : Blk → Bool
  | .dead => true
  | _ => false
def V.one : V → Bool
  | .agg _ => false
  | .tup _ => false
  | .any => false
  | _ => true
def Blk.ones : Blk → Bool
  | .vals cs => cs.all V.one
  | .dead => false
  | .bld _ a b => a.one && b.one
  | _ => true
def zeroN (P : Program) (e : TypeId) (n : Nat) : Option Blk :=
  match zeroT P e with
  | some (.u8 x) => some (.b8 (List.replicate n x))
  | some (.u64 x) => some (.b64 (List.replicate n x))
  | some (.int .i64 x) => some (.ints (List.replicate n x))
  | some (.agg cs) => (match allU64 cs with
    | some xs => some (.b64 (List.replicate n xs).flatten)
    | none => some (.vals (List.replicate n cs).flatten))
  | some z => some (.vals (List.replicate n z.cells).flatten)
  | none => none
def islC (s len : Nat) (f : Nat → Nat → V) : List V := (List.range (len * s)).map fun k => f (k / s) (k % s)
def srcB (h : Heap) (s : Nat) (x : V) : Option (Bool × Nat × Blk) :=
  match x with
  | .str t => if s = 1 then some (true, t.length, .b8 t) else none
  | .nilSl => some (true, 0, .vals [])
  | .sl j o s' len _ => if s' = s then (match h[j]? with
      | some b => if isDead b then none else some (decide (o + len * s ≤ b.len), len, b.cut o (len * s))
      | none => none) else none
  | .isl s' len f => if s' = s then some (true, len, .vals (islC s len f)) else none
  | _ => none
def bytesT (P : Program) (t : TypeId) : Nat := match P.info? t with | some i => i.bytes | none => 0
def most46 : Nat := 2 ^ 48
def most48 : Nat := 2 ^ 48
def zeroFits (P : Program) (e : TypeId) (s : Nat) : Bool := match zeroT P e with | some z => Nat.beq z.cells.length s | none => false
def appRoom (P : Program) (e : TypeId) (s need : Nat) : Bool := decide (need ≤ most46) && decide ((2 * need + 1024) * bytesT P e ≤ most48) && zeroFits P e s
def newB (e : TypeId) (c : Blk) : Blk := match c with | .b8 xs => .buf e xs | c => c
def keepB (e : TypeId) (o : Nat) (b c : Blk) : Blk := match b, c with
  | .buf e' _, .b8 xs => if Nat.beq e' e && Nat.beq o 0 then .buf e xs else c
  | _, c => c
def appH (P : Program) (idx : Nat) (h : Heap) (e : TypeId) (s : Nat) (x : V) (n : Nat) (c : Blk) : Res :=
  match x with
  | .nilSl => if n = 0 then some (true, .nilSl, h) else some (appRoom P e s n, .sl idx 0 s n none, h.set idx (newB e c))
  | .sl i o s' len cap =>
    if s' = s then (match h[i]? with
      | some b => if isDead b then none else (match cap with
        | some k => if len + n ≤ k then (match b.over (o + len * s) c with
              | some b' => some (decide (o + (len + n) * s ≤ b.len) && c.ones, .sl i o s (len + n) (some k), h.set i b')
              | none => none)
            else (match (b.cut o (len * s)).app c with
              | some b' => some (decide (o + len * s ≤ b.len) && appRoom P e s (len + n), .sl idx 0 s (len + n) none, h.set idx b')
              | none => none)
        | none => (match (b.cut o (len * s)).app c with
            | some b' => some (decide (o + len * s ≤ b.len) && appRoom P e s (len + n) && c.ones, .sl idx 0 s (len + n) none, (h.set i .dead).set idx (keepB e o b b'))
            | none => none))
      | none => none) else none
  | _ => none
def Op.makes (P : Program) : Op → Bool
  | .alloc _ => true
  | .box _ _ => true
  | .buildSlice _ _ _ => true
  | .makeSlice _ _ _ => true
  | .convert src dst _ => (match P.underlying src, P.underlying dst with
    | some .string, some (.slice _) => true
    | _, _ => false)
  | .call { callee := .builtin .append, .. } => true
  | _ => false
def stepH (P : Program) (idx : Nat) (g : Fm) (h : Heap) (op : Op) : Res :=
  match op with
  | .alloc e => (match zeroBlk P e with
    | some b => some (true, .ptr idx 0, h.set idx b)
    | none => none)
  | .box _ x => (match opnd g x with
    | some .any => none
    | some v => some (true, .ptr idx 0, h.set idx (mkBlk v.cells))
    | none => none)
  | .load t a => (match opnd g a, isAggT P t, sizeT P t with
    | some (.ptr i o), some true, some n => (match h[i]? with
      | some b => if isDead b then none else some (decide (o + n ≤ b.len), .agg (b.atN o n), h)
      | none => none)
    | some (.ptr i o), some false, some _ => (match h[i]? with
      | some b => if isDead b then none else some (decide (o < b.len), b.at o, h)
      | none => none)
    | some (.iptr s len f i j), some true, some n => some (decide (i < len) && decide (j + n ≤ s), .agg ((List.range n).map fun k => f i (j + k)), h)
    | some (.iptr s len f i j), some false, some _ => some (decide (i < len) && decide (j < s), f i j, h)
    | _, _, _ => none)
  | .store t a x => (match opnd g a, opnd g x, sizeT P t with
    | _, some .any, _ => none
    | some (.ptr i o), some v, some n => if n = v.cells.length then (match h[i]? with
      | some b => if isDead b then none else (match b.stN o v.cells with
        | some b' => some (decide (o + v.cells.length ≤ b.len), .any, h.set i b')
        | none => none)
      | none => none) else none
    | _, _, _ => none)
  | .slice t x lo hi none => (match P.underlying t, opnd g x with
    | some (.array n e), some (.ptr i o) => (match sizeT P e, h[i]?, optIx g lo 0, optIx g hi n with
      | some s, some b, some l, some u => if isDead b then none else
        some (decide (0 ≤ l) && decide (l ≤ u) && decide (u ≤ n) && decide (o + n * s ≤ b.len), .sl i (if l = n then o else o + l.toNat * s) s (u - l).toNat (some (n - l.toNat)), h)
      | _, _, _, _ => none)
    | _, _ => none)
  | .buildSlice t len parts => (match P.underlying t, partsV g parts.toList with
    | some (.slice e), some ps => (match sizeT P e, zeroT P e with
      | some s, some z => (match fillV (fun i => some (i * s, s)) (List.replicate len z.cells).flatten ps with
        | some cs => some (decide (len * s ≤ 2 ^ 24) && decide (z.cells.length = s), .sl idx 0 s len (some len), h.set idx (mkBlk cs))
        | none => none)
      | _, _ => none)
    | _, _ => none)
  | .makeSlice t l c => (match P.underlying t, opnd g l, opnd g c with
    | some (.slice e), some lv, some cv => (match asIx lv, asIx cv, sizeT P e with
      | some l, some c, some s => (match zeroN P e c.toNat with
        | some b => some (decide (0 ≤ l) && decide (l ≤ c) && decide (c ≤ (most48 : Nat)) && decide (c.toNat * bytesT P e ≤ most48) && decide (b.len = c.toNat * s),
            .sl idx 0 s l.toNat (some c.toNat), h.set idx b)
        | none => none)
      | _, _, _ => none)
    | _, _, _ => none)
  | .convert src dst x => (match P.underlying src, P.underlying dst, opnd g x with
    | some .string, some (.slice e), some (.str s) => (match P.underlying e with
      | some (.int .u8) => some (true, .sl idx 0 1 s.length none, h.set idx (.b8 s))
      | _ => none)
    | some (.slice e), some .string, some (.sl i o s len _) => (match P.underlying e, h[i]? with
      | some (.int .u8), some (.b8 xs) => if s = 1 then some (decide (o + len ≤ xs.length), .str ((xs.drop o).take len), h) else none
      | some (.int .u8), some (.buf _ xs) => if s = 1 then some (decide (o + len ≤ xs.length), .str ((xs.drop o).take len), h) else none
      | _, _ => none)
    | some (.slice e), some .string, some .nilSl => (match P.underlying e with
      | some (.int .u8) => some (true, .str [], h)
      | _ => none)
    | some (.pointer t), some .unsafePointer, some (.ptr i o) => (match h[i]?, P.info? t with
      | some (.bld _ _ _), some k => if Nat.beq o 0 && !Nat.beq k.size 0 then some (true, .ptr i 0, h) else none
      | _, _ => none)
    | some .unsafePointer, some (.pointer u), some (.ptr i o) => (match h[i]?, P.info? u with
      | some (.bld e _ _), some _ => if Nat.beq o 0 && liesAt P P.depth e (2 / P.cellsOf e) 0 u 1 then some (true, .ptr i 0, h) else none
      | _, _ => none)
    | _, _, _ => none)
  | .call { callee := .builtin .append, args, argTypes } => (match argTypes.toList, opnds g args.toList with
    | t :: t' :: _, some [x, y] => (match P.underlying t with
      | some (.slice e) => (match sizeT P e, P.underlying t' with
        | some s, some (.int _) => (match asIx y with
          | some n => (match zeroN P e n.toNat with
            | some c => (match appH P idx h e s x n.toNat c with
              | some (k, r) => some (decide (0 ≤ n) && decide (n ≤ (most46 : Nat)) && decide (n.toNat * bytesT P e ≤ most48) && decide (c.len = n.toNat * s) && k, r)
              | none => none)
            | none => none)
          | none => none)
        | some s, some _ => (match srcB h s y with
          | some (k, n, c) => (match appH P idx h e s x n c with
            | some (k', r) => some (k && k', r)
            | none => none)
          | none => none)
        | _, _ => none)
      | _ => none)
    | _, _ => none)
  | .call { callee := .builtin .copy, args, argTypes } => (match argTypes.toList, opnds g args.toList with
    | t :: _, some [.sl i o s len _, y] => (match P.underlying t with
      | some (.slice e) => if sizeT P e = some s then (match srcB h s y, h[i]? with
        | some (k, n, c), some b => if isDead b then none else (match b.over o (c.cut 0 (min n len * s)) with
          | some b' => some (k && decide (o + min n len * s ≤ b.len) && c.ones, .int .i64 (min n len : Nat), h.set i b')
          | none => none)
        | _, _ => none) else none
      | _ => none)
    | _, _ => none)
  | .call { callee := .builtin .unsafeSliceData, args, .. } => (match opnds g args.toList with
    | some [.sl i o _ len _] => some (decide (0 < len), .ptr i o, h)
    | some [.nilSl] => some (true, .nilPtr, h)
    | _ => none)
  | .call { callee := .builtin .unsafeString, args, argTypes } => (match argTypes.toList, opnds g args.toList with
    | [pt, _], some [.ptr i o, .int .i64 n] => (match P.underlying pt, h[i]? with
      | some (.pointer e), some (.buf e' xs) => if Nat.beq e e' && Nat.beq o 0 && Nat.beq (P.cellsOf e) 1 then
          some (decide (0 < n) && decide (n ≤ xs.length) && decide (n ≤ 9223372036854775807), .str (xs.take n.toNat), h.set i .dead) else none
      | _, _ => none)
    | [_, _], some [.nilPtr, .int .i64 n] => some (decide (n = 0), .str [], h)
    | _, _ => none)
  | _ => none
end Go.Lh
end
section
namespace Go.Lh
def upd (ρ : Ren) (i : Nat) (l : Loc) : Ren := fun j => if j = i then some l else ρ j
theorem upd_same (ρ : Ren) (i : Nat) (l : Loc) : upd ρ i l i = some l := by simp [upd]
theorem upd_ne (ρ : Ren) {i j : Nat} (l : Loc) (h : j ≠ i) : upd ρ i l j = ρ j := by simp [upd, h]
theorem rel_put {ρ : Ren} {I : Nat → Prop} {w w' : World} {h h1 : Heap} {F : Nat → Prop} (R : Rel ρ I w h F) {idx : Nat} {l : Loc} {b : Blk}
    (hos : w'.os = w.os) (htape : w'.tape = w.tape) (hout : w'.output = w.output) (hsz : w.heap.size ≤ w'.heap.size)
    (hlen : h1.length = h.length) (hlt : idx < h.length) (h1h : ∀ j x, j ≠ idx → h1[j]? = some x → x ≠ .dead → h[j]? = some x)
    (ha : ρ idx = none ∨ ρ idx = some l) (hb : ∀ k, k < w.heap.size → k ≠ l.b → w'.heap[k]? = w.heap[k]?)
    (hc : w.heap.size ≤ l.b ∨ Own ρ h l.b)
    (hd : ∀ j x lj, j ≠ idx → h1[j]? = some x → x ≠ .dead → ρ j = some lj → lj.b ≠ l.b)
    (he : b ≠ .dead → (∀ v v', VRel I w ρ v v' → VRel I w' (upd ρ idx l) v v') → BRel I w' (upd ρ idx l) l b) :
    Rel (upd ρ idx l) I w' (h1.set idx b) (fun i => F i ∧ i ≠ idx) ∧ Went ρ I w h (upd ρ idx l) I w' (h1.set idx b) := by
  have hren : ∀ i q, ρ i = some q → upd ρ idx l i = some q := by
    intro i q hq
    by_cases hi : i = idx
    · subst hi
      rw [upd_same]
      rcases ha with h0 | h0 <;> rw [h0] at hq <;> cases hq
      rfl
    · rw [upd_ne _ _ hi]; exact hq
  have hnI : ¬ I l.b := by
    rcases hc with h0 | h0
    · intro hI; have := R.lt _ hI; omega
    · exact fun hI => R.not_own hI h0
  have hI : ∀ k, I k → w'.heap[k]? = w.heap[k]? := fun k hk => hb k (R.lt k hk) (fun e => hnI (e ▸ hk))
  have L : Le ρ I w (upd ρ idx l) I w' := ⟨hren, fun _ h => h, hI⟩
  have hset : ∀ j x, (h1.set idx b)[j]? = some x → (j = idx ∧ x = b) ∨ (j ≠ idx ∧ h1[j]? = some x) := by
    intro j x hx
    by_cases hj : j = idx
    · subst hj
      rw [List.getElem?_set_self (by omega)] at hx
      exact .inl ⟨rfl, by simpa using hx.symm⟩
    · rw [List.getElem?_set_ne (Ne.symm hj)] at hx
      exact .inr ⟨hj, hx⟩
  constructor
  · refine ⟨?_, ?_, ?_, ?_, ?_⟩
    · intro i x hx hxd
      rcases hset i x hx with ⟨rfl, rfl⟩ | ⟨hi, hx⟩
      · exact ⟨l, upd_same _ _ _, he hxd (fun _ _ hv => hv.le L), hnI⟩
      · obtain ⟨q, hq, hB, hn⟩ := R.blk i x (h1h i x hi hx hxd) hxd
        refine ⟨q, hren i q hq, ?_, hn⟩
        have hne := hd i x q hi hx hxd hq
        obtain ⟨C, e, fz, m1, m2, m3, m4⟩ := hB.mem
        have hql : q.b < w.heap.size := by
          rcases Nat.lt_or_ge q.b w.heap.size with h0 | h0
          · exact h0
          · rw [Array.getElem?_eq_none h0] at m1; cases m1
        refine ⟨⟨C, e, fz, by rw [hb _ hql hne]; exact m1, m2, m3, fun o ho => ?_⟩, hB.fits, fun e' n' ex => ⟨(hB.ty e' n' ex).1, by rw [hb _ hql hne]; exact (hB.ty e' n' ex).2⟩⟩
        obtain ⟨c, hc1, hc2⟩ := m4 o ho
        exact ⟨c, hc1, hc2.le L⟩
    · intro i ⟨hi, hne⟩
      rw [upd_ne _ _ hne]; exact R.free i hi
    · intro i hi
      rw [List.length_set, hlen] at hi
      rw [upd_ne _ _ (by omega)]; exact R.out i hi
    · intro i j x y li lj hij hx hxd hy hyd hli hlj
      rcases hset i x hx with ⟨hi, hxb⟩ | ⟨hi, hx'⟩
      · rcases hset j y hy with ⟨hj, _⟩ | ⟨hj, hy'⟩
        · exact absurd (hi.trans hj.symm) hij
        · rw [hi, upd_same] at hli; cases hli
          rw [upd_ne _ _ hj] at hlj
          exact fun e => hd j y lj hj hy' hyd hlj e.symm
      · rcases hset j y hy with ⟨hj, _⟩ | ⟨hj, hy'⟩
        · rw [hj, upd_same] at hlj; cases hlj
          rw [upd_ne _ _ hi] at hli
          exact hd i x li hi hx' hxd hli
        · rw [upd_ne _ _ hi] at hli
          rw [upd_ne _ _ hj] at hlj
          exact R.apart i j x y li lj hij (h1h i x hi hx' hxd) hxd (h1h j y hj hy' hyd) hyd hli hlj
    · intro k hk; exact Nat.lt_of_lt_of_le (R.lt k hk) hsz
  · refine ⟨hren, fun _ h => h, hos, htape, hout, hsz, ?_, ?_, fun _ h => .inl h⟩
    · intro k hk hno
      refine hb k hk (fun e => ?_)
      rcases hc with h0 | h0
      · omega
      · exact hno (e ▸ h0)
    · rintro k ⟨i, x, q, hx, hxd, hq, rfl⟩
      rcases hset i x hx with ⟨rfl, rfl⟩ | ⟨hi, hx⟩
      · rw [upd_same] at hq; cases hq
        exact hc.symm
      · rw [upd_ne _ _ hi] at hq
        exact .inl ⟨i, x, q, h1h i x hi hx hxd, hxd, hq, rfl⟩
theorem Rel.weaken {ρ : Ren} {I : Nat → Prop} {w : World} {h : Heap} {F F' : Nat → Prop} (R : Rel ρ I w h F) (hF : ∀ i, F' i → F i) : Rel ρ I w h F' :=
  ⟨R.blk, fun i hi => R.free i (hF i hi), R.out, R.apart, R.lt⟩
def BlkIn (I : Nat → Prop) (w : World) (ρ : Ren) (b : Blk) (C : List Value) : Prop := ∀ o, o < b.len → ∃ c, C[o]? = some c ∧ VRel I w ρ (b.at o) c
theorem allU8_at : ∀ {cs : List V} {xs : List (BitVec 8)}, allU8 cs = some xs → xs.length = cs.length ∧ ∀ o, o < cs.length → cs.getD o .any = .u8 (xs.getD o 0)
  | [], xs, h => by simp [allU8] at h; subst h; simp
  | .u8 x :: r, xs, h => by
    simp only [allU8] at h
    split at h <;> simp at h
    rename_i l hl; subst h
    obtain ⟨h1, h2⟩ := allU8_at hl
    refine ⟨by simp [h1], fun o ho => ?_⟩
    cases o with
    | zero => rfl
    | succ o => simpa using h2 o (by simpa using ho)
  | .any :: _, _, h | .u16 _ :: _, _, h | .u32 _ :: _, _, h | .u64 _ :: _, _, h | .int _ _ :: _, _, h | .bool _ :: _, _, h | .str _ :: _, _, h | .ptr _ _ :: _, _, h | .nilPtr :: _, _, h | .sl _ _ _ _ _ :: _, _, h | .nilSl :: _, _, h
  | .fmap _ :: _, _, h | .yld _ :: _, _, h | .isl _ _ _ :: _, _, h | .iptr _ _ _ _ _ :: _, _, h | .fn _ _ _ :: _, _, h | .nilFn :: _, _, h | .agg _ :: _, _, h | .tup _ :: _, _, h | .iface _ _ :: _, _, h | .nilIface :: _, _, h => by simp [allU8] at h
theorem allU64_at : ∀ {cs : List V} {xs : List (BitVec 64)}, allU64 cs = some xs → xs.length = cs.length ∧ ∀ o, o < cs.length → cs.getD o .any = .u64 (xs.getD o 0)
  | [], xs, h => by simp [allU64] at h; subst h; simp
  | .u64 x :: r, xs, h => by
    simp only [allU64] at h
    split at h <;> simp at h
    rename_i l hl; subst h
    obtain ⟨h1, h2⟩ := allU64_at hl
    refine ⟨by simp [h1], fun o ho => ?_⟩
    cases o with
    | zero => rfl
    | succ o => simpa using h2 o (by simpa using ho)
  | .any :: _, _, h | .u16 _ :: _, _, h | .u32 _ :: _, _, h | .u8 _ :: _, _, h | .int _ _ :: _, _, h | .bool _ :: _, _, h | .str _ :: _, _, h | .ptr _ _ :: _, _, h | .nilPtr :: _, _, h | .sl _ _ _ _ _ :: _, _, h | .nilSl :: _, _, h
  | .fmap _ :: _, _, h | .yld _ :: _, _, h | .isl _ _ _ :: _, _, h | .iptr _ _ _ _ _ :: _, _, h | .fn _ _ _ :: _, _, h | .nilFn :: _, _, h | .agg _ :: _, _, h | .tup _ :: _, _, h | .iface _ _ :: _, _, h | .nilIface :: _, _, h => by simp [allU64] at h
theorem allInt_at : ∀ {cs : List V} {xs : List Int}, allInt cs = some xs → xs.length = cs.length ∧ ∀ o, o < cs.length → cs.getD o .any = .int .i64 (xs.getD o 0)
  | [], xs, h => by simp [allInt] at h; subst h; simp
  | .int .i64 x :: r, xs, h => by
    simp only [allInt] at h
    split at h <;> simp at h
    rename_i l hl; subst h
    obtain ⟨h1, h2⟩ := allInt_at hl
    refine ⟨by simp [h1], fun o ho => ?_⟩
    cases o with
    | zero => rfl
    | succ o => simpa using h2 o (by simpa using ho)
  | .int .i8 _ :: _, _, h | .int .i16 _ :: _, _, h | .int .i32 _ :: _, _, h | .int .u8 _ :: _, _, h | .int .u16 _ :: _, _, h | .int .u32 _ :: _, _, h | .int .u64 _ :: _, _, h => by simp [allInt] at h
  | .any :: _, _, h | .u16 _ :: _, _, h | .u32 _ :: _, _, h | .u64 _ :: _, _, h | .u8 _ :: _, _, h | .bool _ :: _, _, h | .str _ :: _, _, h | .ptr _ _ :: _, _, h | .nilPtr :: _, _, h | .sl _ _ _ _ _ :: _, _, h | .nilSl :: _, _, h
  | .fmap _ :: _, _, h | .yld _ :: _, _, h | .isl _ _ _ :: _, _, h | .iptr _ _ _ _ _ :: _, _, h | .fn _ _ _ :: _, _, h | .nilFn :: _, _, h | .agg _ :: _, _, h | .tup _ :: _, _, h | .iface _ _ :: _, _, h | .nilIface :: _, _, h => by simp [allInt] at h
theorem mkBlk_at (cs : List V) : (mkBlk cs).len = cs.length ∧ mkBlk cs ≠ .dead ∧ ∀ o, o < cs.length → (mkBlk cs).at o = cs.getD o .any := by
  unfold mkBlk
  split
  · split
    · rename_i h; obtain ⟨h1, h2⟩ := allU8_at h; exact ⟨h1, by simp, fun o ho => (h2 o ho).symm⟩
    · exact ⟨rfl, by simp, fun _ _ => rfl⟩
  · split
    · rename_i h; obtain ⟨h1, h2⟩ := allU64_at h; exact ⟨h1, by simp, fun o ho => (h2 o ho).symm⟩
    · exact ⟨rfl, by simp, fun _ _ => rfl⟩
  · split
    · rename_i h; obtain ⟨h1, h2⟩ := allInt_at h; exact ⟨h1, by simp, fun o ho => (h2 o ho).symm⟩
    · exact ⟨rfl, by simp, fun _ _ => rfl⟩
  · exact ⟨rfl, by simp, fun _ _ => rfl⟩
theorem mkBlk_in {I : Nat → Prop} {w : World} {ρ : Ren} {cs : List V} {C : List Value} (h : VsRel I w ρ cs C) : BlkIn I w ρ (mkBlk cs) C := by
  intro o ho
  obtain ⟨h1, _, h2⟩ := mkBlk_at cs
  rw [h1] at ho
  rw [h2 o ho]
  have : cs[o]? = some (cs.getD o .any) := by rw [List.getD_eq_getElem?_getD, List.getElem?_eq_getElem ho]; rfl
  exact h.get o _ this
theorem atN_rel {I : Nat → Prop} {w : World} {ρ : Ren} {b : Blk} {C : List Value} (H : BlkIn I w ρ b C) : ∀ (n o : Nat), o + n ≤ b.len → VsRel I w ρ (b.atN o n) ((C.drop o).take n)
  | 0, o, _ => by simp [Blk.atN]; exact .nil _
  | n + 1, o, h => by
    obtain ⟨c, hc, hr⟩ := H o (by omega)
    have hlt : o < C.length := by
      rcases Nat.lt_or_ge o C.length with h0 | h0
      · exact h0
      · rw [List.getElem?_eq_none h0] at hc; cases hc
    rw [List.drop_eq_getElem_cons hlt]
    have : C[o] = c := by rw [List.getElem?_eq_getElem hlt] at hc; simpa using hc
    simp only [Blk.atN, List.take_succ_cons, this]
    exact .cons _ _ _ _ _ hr (atN_rel H n (o + 1) (by omega))
end Go.Lh
end
section
namespace Go.Lh
structure Did (P : Program) (a : Act) (o : Oper) (ρ : Ren) (I : Nat → Prop) (w : World) (h : Heap) (F : Nat → Prop) (idx : Nat) (v : V) (h' : Heap) : Prop where
  run : ∃ nx w' ρ' I' v', (execOp a.eval o).run P w = .ok nx w' ∧ (nx = .value v' ∨ (nx = .skip ∧ v' = undef)) ∧ VRel I' w' ρ' v v' ∧
    Rel ρ' I' w' h' (fun i => F i ∧ i ≠ idx) ∧ Went ρ I w h ρ' I' w' h'
section
variable {P : Program} {w : World} {I : Nat → Prop} {ρ : Ren} {h : Heap} {F : Nat → Prop} {idx : Nat} {a : Act} {o : Oper} {g : Fm}
theorem Did.quiet (R : Rel ρ I w h F) {v : V} {v' : Value} (hr : (execOp a.eval o).run P w = .ok (.value v') w) (hv : VRel I w ρ v v') : Did P a o ρ I w h F idx v h :=
  ⟨.value v', w, ρ, I, v', hr, .inl rfl, hv, R.weaken (fun _ h => h.1), .refl _ _ _ _⟩
theorem live_blk (R : Rel ρ I w h F) {i : Nat} {b : Blk} {l : Loc} (hi : h[i]? = some b) (hd : isDead b = false) (hl : ρ i = some l) :
    ∃ C e fz, w.heap[l.b]? = some (.cells C e fz) ∧ C.size = l.d + l.room ∧ (∀ o, o < l.room → ¬ (fz.1 ≤ l.d + o ∧ l.d + o < fz.2)) ∧ BlkIn I w ρ b (C.toList.drop l.d) ∧ b.len ≤ l.room ∧ b ≠ .dead := by
  have hne : b ≠ .dead := by rintro rfl; simp [isDead] at hd
  obtain ⟨q, hq, hB, _⟩ := R.blk i b hi hne
  rw [hl] at hq; cases hq
  obtain ⟨C, e, fz, m1, m2, m3, m4⟩ := hB.mem
  refine ⟨C, e, fz, m1, m2, m3, fun o ho => ?_, hB.fits, hne⟩
  obtain ⟨c, hc, hr⟩ := m4 o ho
  exact ⟨c, by rw [List.getElem?_drop, Array.getElem?_toList]; exact hc, hr⟩
theorem cell_at {C : Array Value} {e : TypeId} {fz : Nat × Nat} {b : Nat} (hm : w.heap[b]? = some (.cells C e fz)) (o : Nat) : w.cell? ⟨b, o, none⟩ = C[o]? := by
  simp [World.cell?, hm]
theorem load_sound (R : Rel ρ I w h F) (FR : FRel I w ρ g a) {t : TypeId} {x : Operand} {v : V} {h' : Heap} (ho : o.op = .load t x)
    (hs : stepH P idx g h o.op = some (true, v, h')) : Did P a o ρ I w h F idx v h' := by
  rw [ho] at hs
  simp only [stepH] at hs
  split at hs <;> try simp only [reduceCtorEq] at hs
  · rename_i i q n hx hag hsz
    split at hs <;> try simp only [reduceCtorEq] at hs
    rename_i b hb
    split at hs <;> simp at hs
    rename_i hdead
    obtain ⟨h1, rfl, rfl⟩ := hs
    have r := opnd_sound FR hx
    cases hv : a.eval x <;> rw [hv] at r <;> cases r
    rename_i l hl
    obtain ⟨C, e, fz, m1, m2, m3, m4, m5, m6⟩ := live_blk R hb (by simpa using hdead) hl
    have hat := atN_rel m4 n q h1
    rw [List.drop_drop] at hat
    refine Did.quiet R (v' := .agg ⟨(C.toList.drop (l.d + q)).take n⟩) ?_ (.agg _ _ _ hat)
    have hlen : ((C.toList.drop (l.d + q)).take n).length = n := by simp; omega
    have hrun := run_loadCells_list (P := P) (w := w) ⟨l.b, l.d + q, none⟩ ((C.toList.drop (l.d + q)).take n) (fun j c hj => by
      rw [add_eq, cell_at m1]
      rw [List.getElem?_take] at hj
      split at hj
      · rw [List.getElem?_drop, Array.getElem?_toList] at hj; exact hj
      · cases hj)
    rw [hlen] at hrun
    simp [execOp, ho, hv, Instr.loadAt, Instr.sureAddr, loadVar, run_isAggT hag, run_sizeT hsz, hrun]
  · rename_i i q n hx hag hsz
    split at hs <;> try simp only [reduceCtorEq] at hs
    rename_i b hb
    split at hs <;> simp at hs
    rename_i hdead
    obtain ⟨h1, rfl, rfl⟩ := hs
    have r := opnd_sound FR hx
    cases hv : a.eval x <;> rw [hv] at r <;> cases r
    rename_i l hl
    obtain ⟨C, e, fz, m1, m2, m3, m4, m5, m6⟩ := live_blk R hb (by simpa using hdead) hl
    obtain ⟨c, hc, hr⟩ := m4 q h1
    rw [List.getElem?_drop, Array.getElem?_toList] at hc
    refine Did.quiet R (v' := c) ?_ hr
    have : w.cell? ⟨l.b, l.d + q, none⟩ = some c := by rw [cell_at m1]; exact hc
    simp [execOp, ho, hv, Instr.loadAt, Instr.sureAddr, loadVar, run_isAggT hag, this]
  · rename_i s len f i j n hx hag hsz
    simp at hs
    obtain ⟨⟨h1, h2⟩, rfl, rfl⟩ := hs
    have r := opnd_sound FR hx
    cases hv : a.eval x <;> rw [hv] at r <;> cases r
    rename_i b o' g' hI hw hv'
    refine Did.quiet R (v' := .agg ⟨(List.range n).map fun k => g' i (j + k)⟩) ?_ (.agg _ _ _ ?_)
    · have hrun := run_loadCells_list (P := P) (w := w) ⟨b, o' + i * s + j, none⟩ ((List.range n).map fun k => g' i (j + k)) (fun k c hk => by
        rw [add_eq]
        rw [List.getElem?_map] at hk
        cases hr : (List.range n)[k]? with
        | none => simp [hr] at hk
        | some m =>
          have hm := List.getElem?_eq_some_iff.1 hr
          obtain ⟨hk1, hk2⟩ := hm
          simp at hk1 hk2; subst hk2
          simp [hr] at hk; subst hk
          rw [← hw i (j + k) h1 (by omega)]
          congr 2; omega)
      simp only [List.length_map, List.length_range] at hrun
      simp [execOp, ho, hv, Instr.loadAt, Instr.sureAddr, loadVar, run_isAggT hag, run_sizeT hsz, hrun]
    · refine .of_get (by simp) (fun k x x' hx1 hx2 => ?_)
      rw [List.getElem?_map] at hx1 hx2
      cases hr : (List.range n)[k]? with
      | none => simp [hr] at hx1
      | some m =>
        obtain ⟨hk1, hk2⟩ := List.getElem?_eq_some_iff.1 hr
        simp at hk1 hk2; subst hk2
        simp [hr] at hx1 hx2; subst hx1; subst hx2
        exact (hv' i (j + k) h1 (by omega)).mono (fun _ h => h) (fun _ _ => rfl) _ (fun _ _ h => by cases h)
  · rename_i s len f i j n hx hag hsz
    simp at hs
    obtain ⟨⟨h1, h2⟩, rfl, rfl⟩ := hs
    have r := opnd_sound FR hx
    cases hv : a.eval x <;> rw [hv] at r <;> cases r
    rename_i b o' g' hI hw hv'
    refine Did.quiet R (v' := g' i j) ?_ ((hv' i j h1 h2).mono (fun _ h => h) (fun _ _ => rfl) _ (fun _ _ h => by cases h))
    simp [execOp, ho, hv, Instr.loadAt, Instr.sureAddr, loadVar, run_isAggT hag, hw i j h1 h2]
theorem storeCells_run {b : Nat} {e : TypeId} {fz : Nat × Nat} : ∀ (vs : List Value) (w : World) (C : Array Value) (o i : Nat), w.heap[b]? = some (.cells C e fz) → (∀ v ∈ vs, v.oneCell' = true) →
    o + i + vs.length ≤ C.size → (∀ k, o + i ≤ k → k < o + i + vs.length → ¬ (fz.1 ≤ k ∧ k < fz.2)) →
    ∃ w' C', (storeCells ⟨b, o, none⟩ vs i).run P w = .ok () w' ∧ w'.heap[b]? = some (.cells C' e fz) ∧ C'.size = C.size ∧ w'.heap.size = w.heap.size ∧ (∀ k, k ≠ b → w'.heap[k]? = w.heap[k]?) ∧
      w'.os = w.os ∧ w'.tape = w.tape ∧ w'.output = w.output ∧
      (∀ k, C'[k]? = if o + i ≤ k ∧ k < o + i + vs.length then vs[k - (o + i)]? else C[k]?)
  | [], w, C, o, i, hm, _, _, _ => ⟨w, C, by simp [storeCells], hm, rfl, rfl, fun _ _ => rfl, rfl, rfl, rfl, fun k => by rw [if_neg (by simp only [List.length_nil]; omega)]⟩
  | v :: r, w, C, o, i, hm, h1, h2, h3 => by
    simp only [List.length_cons] at h2 h3
    have hlt : o + i < C.size := by omega
    have hcell : w.cell? ⟨b, o + i, none⟩ = some C[o + i] := by rw [cell_at hm, Array.getElem?_eq_getElem hlt]
    have hfz : w.frozen? ⟨b, o + i, none⟩ = false := by
      simp only [World.frozen?, hm]
      have := h3 (o + i) (Nat.le_refl _) (by omega)
      simpa using this
    have hset : (w.setCell ⟨b, o + i, none⟩ v).heap[b]? = some (.cells (C.setIfInBounds (o + i) v) e fz) := by
      simp [World.setCell, Array.getElem?_modify, hm]
    obtain ⟨w', C', e1, e2, e3, e4, e5, e6, e7, e8, e9⟩ := storeCells_run r (w.setCell ⟨b, o + i, none⟩ v) _ o (i + 1) hset (fun u hu => h1 u (by simp [hu])) (by simp; omega)
      (fun k hk1 hk2 => h3 k (by omega) (by omega))
    refine ⟨w', C', ?_, e2, by simpa using e3, by simpa using e4, ?_, e6, e7, e8, ?_⟩
    · simp only [storeCells, Sem.run_bind, add_eq]
      rw [run_store _ _ _ _ _ (h1 v (by simp))]
      simp only [hcell, hfz]
      simpa [add_eq] using e1
    · intro k hk
      rw [e5 k hk]
      simp only [World.setCell, Array.getElem?_modify]
      rw [if_neg (fun h => hk h.symm)]
    · intro k
      rw [e9 k]
      by_cases hk : k = o + i
      · subst hk
        rw [if_neg (by omega), if_pos (by simp)]
        simp [hlt]
      · by_cases hk2 : o + i ≤ k ∧ k < o + i + (r.length + 1)
        · rw [if_pos (by omega), if_pos (by simpa using hk2)]
          rw [show k - (o + i) = (k - (o + (i + 1))) + 1 from by omega]
          simp
        · rw [if_neg (by omega), if_neg (by simpa using hk2)]
          rw [Array.getElem?_setIfInBounds_ne (by omega)]
end
end Go.Lh
end
section
namespace Go.Lh
theorem Blk.st_at {b b' : Blk} {o : Nat} {v : V} (h : b.st o v = some b') (ho : o < b.len) : b'.len = b.len ∧ b' ≠ .dead ∧ v.one = true ∧ ∀ k, b'.at k = if k = o then v else b.at k := by
  unfold Blk.st at h
  split at h <;> first | cases h | skip
  · rename_i xs x
    simp only [Blk.len] at ho
    refine ⟨by simp [Blk.len], by simp, rfl, fun k => ?_⟩
    simp only [Blk.at]
    by_cases hk : k = o
    · subst hk; simp [ho]
    · rw [if_neg hk]; simp [List.getElem?_set_ne (Ne.symm hk)]
  · rename_i xs x
    simp only [Blk.len] at ho
    refine ⟨by simp [Blk.len], by simp, rfl, fun k => ?_⟩
    simp only [Blk.at]
    by_cases hk : k = o
    · subst hk; simp [ho]
    · rw [if_neg hk]; simp [List.getElem?_set_ne (Ne.symm hk)]
  · rename_i xs x
    simp only [Blk.len] at ho
    refine ⟨by simp [Blk.len], by simp, rfl, fun k => ?_⟩
    simp only [Blk.at]
    by_cases hk : k = o
    · subst hk; simp [ho]
    · rw [if_neg hk]; simp [List.getElem?_set_ne (Ne.symm hk)]
  · rename_i xs x
    simp only [Blk.len] at ho
    refine ⟨by simp [Blk.len], by simp, rfl, fun k => ?_⟩
    simp only [Blk.at]
    by_cases hk : k = o
    · subst hk; simp [ho]
    · rw [if_neg hk]; simp [List.getElem?_set_ne (Ne.symm hk)]
  · rename_i e0 a0 b0 n1 n2 n3
    have hone : v.one = true := by
      cases v <;> first | rfl | (exact (n1 _ rfl).elim) | (exact (n2 _ rfl).elim) | (exact (n3 rfl).elim)
    split at h <;> cases h
    · refine ⟨rfl, by simp, hone, fun k => ?_⟩
      rcases k with _ | _ | k <;> simp [Blk.at]
    · refine ⟨rfl, by simp, hone, fun k => ?_⟩
      rcases k with _ | _ | k <;> simp [Blk.at]
  · rename_i cs v' n1 n2 n3
    simp only [Blk.len] at ho
    refine ⟨by simp [Blk.len], by simp, ?_, fun k => ?_⟩
    · cases v <;> first | rfl | (exact (n1 _ rfl).elim) | (exact (n2 _ rfl).elim) | (exact (n3 rfl).elim)
    · simp only [Blk.at]
      by_cases hk : k = o
      · subst hk; simp [ho]
      · rw [if_neg hk]; simp [List.getElem?_set_ne (Ne.symm hk)]
theorem Blk.stN_at : ∀ {vs : List V} {b b' : Blk} {o : Nat}, b.stN o vs = some b' → o + vs.length ≤ b.len → b ≠ .dead →
    b'.len = b.len ∧ b' ≠ .dead ∧ (∀ v ∈ vs, v.one = true) ∧ ∀ k, b'.at k = if o ≤ k ∧ k < o + vs.length then vs.getD (k - o) .any else b.at k
  | [], b, b', o, h, ho, hd => by
    simp only [Blk.stN, Option.some.injEq] at h; subst h
    exact ⟨rfl, hd, by simp, fun k => by rw [if_neg (by simp only [List.length_nil]; omega)]⟩
  | v :: r, b, b', o, h, ho, hd => by
    simp only [Blk.stN] at h
    split at h <;> try cases h
    rename_i b1 hb1
    simp only [List.length_cons] at ho
    obtain ⟨l1, d1, o1, a1⟩ := Blk.st_at hb1 (by omega)
    obtain ⟨l2, d2, o2, a2⟩ := Blk.stN_at h (by omega) d1
    refine ⟨l2.trans l1, d2, by intro u hu; rcases List.mem_cons.1 hu with rfl | hu; exact o1; exact o2 u hu, fun k => ?_⟩
    rw [a2 k, a1 k]
    by_cases hk : k = o
    · subst hk
      rw [if_neg (by omega), if_pos rfl, if_pos (by simp)]
      simp
    · by_cases hk2 : o ≤ k ∧ k < o + (r.length + 1)
      · rw [if_pos (by omega), if_pos (by simpa using hk2)]
        rw [show k - o = (k - (o + 1)) + 1 from by omega]
        simp
      · rw [if_neg (by omega), if_neg hk, if_neg (by simpa using hk2)]
theorem Blk.st_ty {b b' : Blk} {o : Nat} {v : V} (h : b.st o v = some b') : ∀ t, b'.tag = some t → b.tag = some t := by
  intro t hb
  unfold Blk.st at h
  split at h
  case h_8 => split at h <;> first | (cases h; exact hb) | (cases h)
  all_goals first | (cases h; done) | (cases h; first | (cases hb; done) | exact hb)
theorem Blk.stN_ty : ∀ {vs : List V} {b b' : Blk} {o : Nat}, b.stN o vs = some b' → ∀ t, b'.tag = some t → b.tag = some t
  | [], b, b', o, h, t, hb => by
    simp only [Blk.stN, Option.some.injEq] at h; subst h
    exact hb
  | v :: r, b, b', o, h, t, hb => by
    simp only [Blk.stN] at h
    split at h <;> try cases h
    rename_i b1 hb1
    exact Blk.st_ty hb1 t (Blk.stN_ty h t hb)
theorem mkBlk_ty (cs : List V) : (mkBlk cs).tag = none := by
  unfold mkBlk
  repeat' split
  all_goals rfl
theorem one_cell {I : Nat → Prop} {w : World} {ρ : Ren} {v : V} {v' : Value} (h : VRel I w ρ v v') (ho : v.one = true) : v'.oneCell' = true := by
  cases h <;> first | rfl | simp [V.one] at ho
theorem all_one_cell {I : Nat → Prop} {w : World} {ρ : Ren} : ∀ {vs : List V} {vs' : List Value}, VsRel I w ρ vs vs' → (∀ v ∈ vs, v.one = true) → ∀ v ∈ vs', v.oneCell' = true
  | [], _, h, _ => by cases h; simp
  | _ :: _, _, h, ho => by
    cases h with
    | cons _ _ v' _ r' hv hr =>
      intro u hu
      rcases List.mem_cons.1 hu with rfl | hu
      · exact one_cell hv (ho _ (by simp))
      · exact all_one_cell hr (fun v hv => ho v (by simp [hv])) u hu
section
variable {P : Program} {w : World} {I : Nat → Prop} {ρ : Ren} {h : Heap} {F : Nat → Prop} {idx : Nat} {a : Act} {o : Oper} {g : Fm}
theorem write_sound (R : Rel ρ I w h F) {i q : Nat} {b b' : Blk} {l : Loc} {vs : List V} {vs' : List Value} (hb : h[i]? = some b) (hd : isDead b = false) (hl : ρ i = some l)
    (hvs : VsRel I w ρ vs vs') (hone : ∀ v ∈ vs', v.oneCell' = true) (hq : q + vs'.length ≤ b.len)
    (hty : ∀ t, b'.tag = some t → b.tag = some t) (hlen : b'.len = b.len) (hat : ∀ k, k < b.len → b'.at k = if q ≤ k ∧ k < q + vs.length then vs.getD (k - q) .any else b.at k) :
    ∃ w', (storeCells ⟨l.b, l.d + q, none⟩ vs').run P w = .ok () w' ∧ Rel ρ I w' (h.set i b') F ∧ Went ρ I w h ρ I w' (h.set i b') := by
  obtain ⟨C, e, fz, m1, m2, m3, m4, m5, m6⟩ := live_blk R hb hd hl
  obtain ⟨w', C', e1, e2, e3, e4, e5, e6, e7, e8, e9⟩ := storeCells_run (P := P) vs' w C (l.d + q) 0 m1 hone (by omega) (fun k hk1 hk2 => by
    have := m3 (k - l.d) (by omega)
    rwa [show l.d + (k - l.d) = k from by omega] at this)
  refine ⟨w', e1, ?_⟩
  have hlen' := hvs.length
  have hlt : i < h.length := by
    rcases Nat.lt_or_ge i h.length with h0 | h0
    · exact h0
    · rw [List.getElem?_eq_none h0] at hb; cases hb
  have key := rel_put (h1 := h) (idx := i) (l := l) (b := b') R e6 e7 e8 (Nat.le_of_eq e4.symm) rfl hlt (fun _ _ _ h _ => h) (.inr hl) (fun k _ hk => e5 k hk)
    (.inr ⟨i, b, l, hb, m6, hl, rfl⟩) (fun j x lj hj hx hxd hlj => R.apart j i x b lj l hj hx hxd hb m6 hlj hl) (fun _ hmono => by
      refine ⟨⟨C', e, fz, e2, by rw [e3, m2], m3, fun k hk => ?_⟩, by rw [hlen]; exact m5, fun e' n' ex => ?_⟩
      rotate_left
      · obtain ⟨q0, q1, q2, q3⟩ := R.blk i _ hb m6
        rw [hl] at q1; cases q1
        obtain ⟨t1, C2, fz2, t2, t3⟩ := q2.ty e' n' (hty _ ex)
        rw [m1] at t2; cases t2
        exact ⟨t1, C', fz, e2, fun hn => by rw [e3]; exact t3 hn⟩
      rw [hlen] at hk
      rw [hat k hk, e9]
      by_cases hr : q ≤ k ∧ k < q + vs.length
      · rw [if_pos hr, if_pos (by omega)]
        have hx : vs[k - q]? = some (vs.getD (k - q) .any) := by rw [List.getD_eq_getElem?_getD, List.getElem?_eq_getElem (by omega)]; rfl
        obtain ⟨x', hx1, hx2⟩ := hvs.get _ _ hx
        exact ⟨x', by rw [show l.d + k - (l.d + q + 0) = k - q from by omega]; exact hx1, hmono _ _ hx2⟩
      · rw [if_neg hr, if_neg (by omega)]
        obtain ⟨c, hc, hr⟩ := m4 k hk
        rw [List.getElem?_drop, Array.getElem?_toList] at hc
        exact ⟨c, hc, hmono _ _ hr⟩)
  have e : upd ρ i l = ρ := by
    funext j
    by_cases hj : j = i
    · subst hj; rw [upd_same]; exact hl.symm
    · rw [upd_ne _ _ hj]
  rw [e] at key
  refine ⟨⟨key.1.blk, R.free, key.1.out, key.1.apart, key.1.lt⟩, key.2⟩
theorem store_sound (R : Rel ρ I w h F) (FR : FRel I w ρ g a) {t : TypeId} {x y : Operand} {v : V} {h' : Heap} (ho : o.op = .store t x y)
    (hs : stepH P idx g h o.op = some (true, v, h')) : Did P a o ρ I w h F idx v h' := by
  rw [ho] at hs
  simp only [stepH] at hs
  split at hs <;> try simp only [reduceCtorEq] at hs
  rename_i i q v0 n hna hx hy hsz
  split at hs <;> try simp only [reduceCtorEq] at hs
  rename_i hn
  split at hs <;> try simp only [reduceCtorEq] at hs
  rename_i b hb
  split at hs <;> try simp only [reduceCtorEq] at hs
  rename_i hdead
  split at hs <;> simp at hs
  rename_i b' hb'
  obtain ⟨h1, rfl, rfl⟩ := hs
  have r := opnd_sound FR hx
  cases hv : a.eval x <;> rw [hv] at r <;> cases r
  rename_i l hl
  have r2 := opnd_sound FR hy
  have hc := cells_sound r2 (fun e => hna (by rw [← e]))
  have hne : b ≠ .dead := by rintro rfl; simp [isDead] at hdead
  obtain ⟨l2, d2, o2, a2⟩ := Blk.stN_at hb' h1 hne
  have hlen := hc.length
  obtain ⟨w', e1, e2, e3⟩ := write_sound (P := P) R hb (by simpa using hdead) hl hc (all_one_cell hc o2) (by omega) (Blk.stN_ty hb') l2 (fun k _ => a2 k)
  refine ⟨.skip, w', ρ, I, undef, ?_, .inr ⟨rfl, rfl⟩, .any _ _, e2.weaken (fun _ h => h.1), e3⟩
  have hsize : ¬ (a.eval y).cells.size ≠ n := by
    rw [hn, hlen]; simp
  simp only [execOp, ho, hv, Instr.storeAt, Instr.sureAddr, storeVar, Sem.run_bind, Sem.run_pure, Result.andThen_ok, run_sizeT hsz, Sem.run_ite]
  rw [if_neg hsize]
  simp [e1]
theorem new_sound (R : Rel ρ I w h F) (hF : F idx) (hidx : h[idx]? = some .dead) {w' : World} {C : Array Value} {e : TypeId} {fz : Nat × Nat} {b : Blk}
    (hw : w'.heap = w.heap.push (.cells C e fz)) (hos : w'.os = w.os) (htape : w'.tape = w.tape) (hout : w'.output = w.output)
    (hfz : ∀ k, k < C.size → ¬ (fz.1 ≤ k ∧ k < fz.2)) (hb : b.len ≤ C.size) (hin : BlkIn I w ρ b C.toList) (hty : ∀ e' n, b.tag = some (e', n) → e' = e ∧ (n ≠ 0 → C.size = n)) :
    Rel (upd ρ idx ⟨w.heap.size, 0, C.size⟩) I w' (h.set idx b) (fun i => F i ∧ i ≠ idx) ∧ Went ρ I w h (upd ρ idx ⟨w.heap.size, 0, C.size⟩) I w' (h.set idx b) := by
  have hlt : idx < h.length := by
    rcases Nat.lt_or_ge idx h.length with h0 | h0
    · exact h0
    · rw [List.getElem?_eq_none h0] at hidx; cases hidx
  refine rel_put (h1 := h) R hos htape hout (by rw [hw]; simp) rfl hlt (fun _ _ _ h _ => h) (.inl (R.free _ hF)) (fun k hk _ => by rw [hw, Array.getElem?_push]; rw [if_neg (by omega)]) (.inl (Nat.le_refl _)) ?_ ?_
  · intro j x lj hj hx hxd hlj
    obtain ⟨q, hq, hB, _⟩ := R.blk j x hx hxd
    rw [hlj] at hq; cases hq
    obtain ⟨C', e', fz', m1, _⟩ := hB.mem
    intro e
    simp only at e
    rw [e, Array.getElem?_eq_none (Nat.le_refl _)] at m1
    cases m1
  · intro _ hmono
    refine ⟨⟨C, e, fz, by rw [hw]; simp, by simp, fun k hk => by simpa using hfz k hk, fun k hk => ?_⟩, hb, fun e' n' ex => ⟨rfl, C, fz, by rw [(hty e' n' ex).1, hw]; simp, (hty e' n' ex).2⟩⟩
    obtain ⟨c, hc, hr⟩ := hin k hk
    exact ⟨c, by simpa using hc, hmono _ _ hr⟩
theorem newVar_run (t : TypeId) (v : Value) : (newVar t v).run P w = .ok ⟨w.heap.size, 0, none⟩ { w with heap := w.heap.push (.cells v.cells t) } := by
  rfl
theorem new_ptr {I' : Nat → Prop} {w' : World} (n m : Nat) : VRel I' w' (upd ρ idx ⟨n, 0, m⟩) (.ptr idx 0) (.pointer (some ⟨n, 0, none⟩)) := by
  have := VRel.ptr (I := I') (w := w') (upd ρ idx ⟨n, 0, m⟩) idx 0 _ (upd_same _ _ _)
  simpa using this
theorem alloc_sound (R : Rel ρ I w h F) (hF : F idx) (hidx : h[idx]? = some .dead) {e : TypeId} {v : V} {h' : Heap} (ho : o.op = .alloc e)
    (hs : stepH P idx g h o.op = some (true, v, h')) : Did P a o ρ I w h F idx v h' := by
  rw [ho] at hs
  simp only [stepH] at hs
  split at hs <;> simp only [Option.some.injEq, Prod.mk.injEq, true_and, reduceCtorEq] at hs
  rename_i b0 hb0
  obtain ⟨rfl, rfl⟩ := hs
  unfold zeroBlk at hb0
  split at hb0
  · rename_i hz
    cases hb0
    obtain ⟨z', e1, e2, e3⟩ := run_zeroT (P := P) (w := w) (I := I) (ρ := ρ) hz
    have hc := cells_sound e2 (ofValue_not_any e3)
    have hsz : z'.cells.size = 2 := by have := hc.length; simp only [V.cells, List.length_cons, List.length_nil, Array.length_toList] at this; omega
    obtain ⟨m1, m2⟩ := new_sound R hF hidx (w' := { w with heap := w.heap.push (.cells z'.cells e) }) (C := z'.cells) (e := e) (fz := (0, 0)) (b := .bld e .nilPtr .nilSl) rfl rfl rfl rfl (fun k _ => by simp) (by
      rw [hsz]; exact Nat.le_refl _) (fun k hk => by
      obtain ⟨x, h1, h2⟩ := hc.get k ([V.nilPtr, V.nilSl].getD k .any) (by
        have : k < 2 := hk
        rcases k with _ | _ | k
        · rfl
        · rfl
        · omega)
      exact ⟨x, h1, h2⟩) (fun e' n' h => by
      simp only [Blk.tag, Option.some.injEq, Prod.mk.injEq] at h
      obtain ⟨rfl, rfl⟩ := h
      exact ⟨rfl, fun _ => hsz⟩)
    refine ⟨.value (.pointer (some ⟨w.heap.size, 0, none⟩)), _, _, I, _, ?_, .inl rfl, new_ptr _ _, m1, m2⟩
    simp only [execOp, ho, Instr.alloc, Sem.run_bind, e1, Result.andThen_ok, newVar_run, Sem.run_pure]
  · rename_i z hnot hz
    cases hb0
    obtain ⟨z', e1, e2, e3⟩ := run_zeroT (P := P) (w := w) (I := I) (ρ := ρ) hz
    have hc := cells_sound e2 (ofValue_not_any e3)
    obtain ⟨m1, m2⟩ := new_sound R hF hidx (w' := { w with heap := w.heap.push (.cells z'.cells e) }) (C := z'.cells) (e := e) (fz := (0, 0)) (b := mkBlk z.cells) rfl rfl rfl rfl (fun k _ => by simp) (by
      rw [(mkBlk_at z.cells).1, hc.length]; simp) (mkBlk_in hc) (fun _ _ h => by rw [mkBlk_ty] at h; cases h)
    refine ⟨.value (.pointer (some ⟨w.heap.size, 0, none⟩)), _, _, I, _, ?_, .inl rfl, new_ptr _ _, m1, m2⟩
    simp only [execOp, ho, Instr.alloc, Sem.run_bind, e1, Result.andThen_ok, newVar_run, Sem.run_pure]
  · cases hb0
theorem box_sound (R : Rel ρ I w h F) (FR : FRel I w ρ g a) (hF : F idx) (hidx : h[idx]? = some .dead) {e : TypeId} {x : Operand} {v : V} {h' : Heap} (ho : o.op = .box e x)
    (hs : stepH P idx g h o.op = some (true, v, h')) : Did P a o ρ I w h F idx v h' := by
  rw [ho] at hs
  simp only [stepH] at hs
  split at hs <;> simp at hs
  rename_i v0 hna hx
  obtain ⟨rfl, rfl⟩ := hs
  have r := opnd_sound FR hx
  have hc := cells_sound r (fun e => hna e)
  obtain ⟨m1, m2⟩ := new_sound R hF hidx (w' := { w with heap := w.heap.push (.cells (a.eval x).cells e) }) (C := (a.eval x).cells) (e := e) (fz := (0, 0)) (b := mkBlk v0.cells) rfl rfl rfl rfl (fun k _ => by simp) (by
    rw [(mkBlk_at v0.cells).1, hc.length]; simp) (mkBlk_in hc) (fun _ _ h => by rw [mkBlk_ty] at h; cases h)
  refine ⟨.value (.pointer (some ⟨w.heap.size, 0, none⟩)), _, _, I, _, ?_, .inl rfl, new_ptr _ _, m1, m2⟩
  simp only [execOp, ho, Instr.box, Sem.run_bind, Result.andThen_ok, newVar_run, Sem.run_pure]
theorem arrSlice_sound (R : Rel ρ I w h F) (FR : FRel I w ρ g a) {t : TypeId} {x : Operand} {lo hi : Option Operand} {v : V} {h' : Heap} (ho : o.op = .slice t x lo hi none)
    (hs : stepH P idx g h o.op = some (true, v, h')) : Did P a o ρ I w h F idx v h' := by
  rw [ho] at hs
  simp only [stepH] at hs
  split at hs <;> try simp only [reduceCtorEq] at hs
  rename_i n e i q hu hx
  split at hs <;> try simp only [reduceCtorEq] at hs
  rename_i s b l u hsz hb hlo hhi
  split at hs <;> simp at hs
  rename_i hdead
  obtain ⟨⟨⟨⟨h1, h2⟩, h3⟩, h4⟩, rfl, rfl⟩ := hs
  have r := opnd_sound FR hx
  cases hv : a.eval x <;> rw [hv] at r <;> cases r
  rename_i lc hl
  obtain ⟨C, e', fz, m1, m2, m3, m4, m5, m6⟩ := live_blk R hb (by simpa using hdead) hl
  have bd1 : BdEq (lo.map a.eval) l 0 := by
    cases lo with
    | none => simp [optIx] at hlo; simp [BdEq, hlo]
    | some y => exact optIx_sound FR hlo
  have bd2 : BdEq (hi.map a.eval) u n := by
    cases hi with
    | none => simp [optIx] at hhi; simp [BdEq, hhi]
    | some y => exact optIx_sound FR hhi
  refine Did.quiet R (v' := .slice (some (if n = l.toNat then ⟨lc.b, lc.d + q, none⟩ else ⟨lc.b, lc.d + q + l.toNat * s, none⟩)) (u.toNat - l.toNat) (n - l.toNat)) ?_ ?_
  · simp only [execOp, ho, hv, Instr.sliceAt, Sem.run_bind, run_underlying hu, Result.andThen_ok, Instr.sureAddr, Sem.run_pure, Option.map_none]
    rw [sliceBounds_run bd1 bd2 h1 h2 h3]
    simp only [Result.andThen_ok, run_sizeT hsz, add_eq]
  · rw [show (u - l).toNat = u.toNat - l.toNat from by omega]
    by_cases hln : l = (n : Int)
    · rw [if_pos hln, if_pos (by omega), show u.toNat - l.toNat = 0 from by omega, show n - l.toNat = 0 from by omega]
      exact .slz _ _ _ _ _ _ lc hl (by intro m hm; cases hm; rfl)
    · rw [if_neg hln, if_neg (by omega)]
      have e3 : lc.d + q + l.toNat * s = lc.d + (q + l.toNat * s) := by omega
      rw [e3]
      refine .sl _ _ _ _ _ _ _ lc hl (by omega) ?_ (by intro m hm; cases hm; rfl)
      have : (n - l.toNat) * s + l.toNat * s = n * s := by rw [← Nat.add_mul]; congr 1; omega
      omega
end
end Go.Lh
end
section
namespace Go.Lh
theorem Blk.cut_at {b : Blk} {o n : Nat} (h : o + n ≤ b.len) (hd : b ≠ .dead) : (b.cut o n).len = n ∧ b.cut o n ≠ .dead ∧ ∀ k, k < n → (b.cut o n).at k = b.at (o + k) := by
  cases b <;> simp only [Blk.len] at h
  case dead => exact absurd rfl hd
  all_goals
    refine ⟨by simp [Blk.cut, Blk.len]; omega, by simp [Blk.cut], fun k hk => ?_⟩
    simp [Blk.cut, Blk.at, hk]
theorem getD_append {α : Type} (xs ys : List α) (k : Nat) (d : α) : (xs ++ ys)[k]?.getD d = if k < xs.length then xs[k]?.getD d else ys[k - xs.length]?.getD d := by
  rw [List.getElem?_append]; split <;> rfl
theorem Blk.app_at {b c b' : Blk} (h : b.app c = some b') (hb : b ≠ .dead) (hc : c ≠ .dead) :
    b'.len = b.len + c.len ∧ b' ≠ .dead ∧ ∀ k, k < b.len + c.len → b'.at k = if k < b.len then b.at k else c.at (k - b.len) := by
  unfold Blk.app at h
  split at h <;> first | cases h | skip
  · exact ⟨by simp [Blk.len], hc, fun k _ => by simp [Blk.len]⟩
  · refine ⟨by simp [Blk.len], hb, fun k hk => ?_⟩
    rw [if_pos (by simpa [Blk.len] using hk)]
  all_goals
    refine ⟨by simp [Blk.len], by simp, fun k _ => ?_⟩
    simp only [Blk.at, Blk.len, List.getD_eq_getElem?_getD, getD_append]
    first | done | (split <;> rfl)
theorem getD_over {α : Type} (xs ys : List α) (o k : Nat) (d : α) (h : o + ys.length ≤ xs.length) :
    (xs.take o ++ ys ++ xs.drop (o + ys.length))[k]?.getD d = if o ≤ k ∧ k < o + ys.length then ys[k - o]?.getD d else xs[k]?.getD d := by
  rw [List.append_assoc, getD_append]
  simp only [List.length_take, Nat.min_eq_left (show o ≤ xs.length from by omega)]
  by_cases h1 : k < o
  · rw [if_pos h1, if_neg (by omega)]; simp [h1]
  · rw [if_neg h1, getD_append]
    by_cases h2 : k < o + ys.length
    · rw [if_pos (by omega), if_pos (by omega)]
    · rw [if_neg (by omega), if_neg (by omega), List.getElem?_drop]
      congr 2; omega
theorem Blk.over_at {b c b' : Blk} {o : Nat} (h : b.over o c = some b') (hb : b ≠ .dead) (ho : o + c.len ≤ b.len) :
    b'.len = b.len ∧ b' ≠ .dead ∧ ∀ k, b'.at k = if o ≤ k ∧ k < o + c.len then c.at (k - o) else b.at k := by
  unfold Blk.over at h
  split at h <;> first | cases h | skip
  · exact ⟨rfl, hb, fun k => by rw [if_neg (by simp [Blk.len])]⟩
  all_goals
    simp only [Blk.len] at ho
    refine ⟨by simp [Blk.len]; omega, by simp, fun k => ?_⟩
    simp only [Blk.at, Blk.len, List.getD_eq_getElem?_getD, getD_over _ _ _ _ _ ho]
    first | done | (split <;> rfl)
theorem atN_length (b : Blk) : ∀ (n o : Nat), (b.atN o n).length = n
  | 0, _ => rfl
  | n + 1, o => by simp [Blk.atN, atN_length b n (o + 1)]
theorem atN_getD (b : Blk) : ∀ (n o k : Nat), k < n → (b.atN o n).getD k .any = b.at (o + k)
  | 0, _, _, h => by omega
  | n + 1, o, 0, _ => rfl
  | n + 1, o, k + 1, h => by
    simp only [Blk.atN, List.getD_cons_succ]
    rw [atN_getD b n (o + 1) k (by omega)]
    congr 1; omega
theorem ones_at {b : Blk} (h : b.ones = true) (k : Nat) (hk : k < b.len) : (b.at k).one = true := by
  cases b <;> simp only [Blk.ones, Blk.len] at h hk
  case dead => cases h
  case vals cs =>
    simp only [Blk.at]
    have := List.all_eq_true.1 h (cs[k]) (List.getElem_mem hk)
    simpa [hk] using this
  case bld e0 x y =>
    rw [Bool.and_eq_true] at h
    rcases k with _ | _ | k
    · exact h.1
    · exact h.2
    · omega
  all_goals rfl
theorem zeroN_ty {P : Program} {e : TypeId} {n : Nat} {b : Blk} (h : zeroN P e n = some b) : b.tag = none := by
  unfold zeroN at h
  repeat' split at h
  all_goals (cases h; try rfl)
section
variable {P : Program} {w : World} {I : Nat → Prop} {ρ : Ren} {h : Heap} {F : Nat → Prop} {idx : Nat} {a : Act} {o : Oper} {g : Fm}
theorem zeros_get {α : Type} (cs : List α) : ∀ (n k : Nat), k < n * cs.length → ((List.replicate n cs).flatten)[k]? = cs[k % cs.length]?
  | 0, k, h => by omega
  | n + 1, k, h => by
    rw [List.replicate_succ, List.flatten_cons, List.getElem?_append]
    split
    · rename_i hk; rw [Nat.mod_eq_of_lt hk]
    · rename_i hk
      rw [zeros_get cs n _ (by rw [Nat.add_mul] at h; omega)]
      rw [← Nat.mod_eq_sub_mod (by omega)]
theorem flatten_len {α : Type} (cs : List α) (n : Nat) : ((List.replicate n cs).flatten).length = n * cs.length := by
  induction n with
  | zero => simp
  | succ n ih => rw [List.replicate_succ, List.flatten_cons, List.length_append, ih, Nat.add_mul]; omega
def zerosOf (zc : Array Value) (n : Nat) : Array Value := (Array.range n).map fun i => zc[i % zc.size]!
theorem zerosOf_get (zc : Array Value) (n k : Nat) (hk : k < n) (hz : 0 < zc.size) : (zerosOf zc n)[k]? = zc[k % zc.size]? := by
  have : k % zc.size < zc.size := Nat.mod_lt _ hz
  simp [zerosOf, hk, this]
theorem zeros_rel {cs : List V} {zc : Array Value} (hc : VsRel I w ρ cs zc.toList) (n : Nat) : VsRel I w ρ (List.replicate n cs).flatten (zerosOf zc (n * cs.length)).toList := by
  refine .of_get (by rw [flatten_len]; simp [zerosOf]) (fun k x x' hx hx' => ?_)
  have hk : k < n * cs.length := by
    rcases Nat.lt_or_ge k (n * cs.length) with h0 | h0
    · exact h0
    · rw [List.getElem?_eq_none (by rw [flatten_len]; exact h0)] at hx; cases hx
  have hp : 0 < cs.length := by
    rcases Nat.eq_zero_or_pos cs.length with h0 | h0
    · rw [h0] at hk; omega
    · exact h0
  have hl := hc.length
  rw [zeros_get cs n k hk] at hx
  obtain ⟨y, hy, hr⟩ := hc.get _ _ hx
  rw [Array.getElem?_toList, zerosOf_get zc _ k hk (by simp at hl; omega)] at hx'
  rw [hl] at hy
  simp only [Array.length_toList, Array.getElem?_toList] at hy
  rw [hy] at hx'; cases hx'; exact hr
theorem rel_blkIn {b : Blk} {cs : List V} {C : List Value} (h : VsRel I w ρ cs C) (h2 : ∀ k, k < b.len → ∃ x, cs[k]? = some x ∧ b.at k = x) : BlkIn I w ρ b C := by
  intro k hk
  obtain ⟨x, hx, he⟩ := h2 k hk
  rw [he]; exact h.get k x hx
theorem allU64_all : ∀ {cs : List V} {xs : List (BitVec 64)}, allU64 cs = some xs → cs = xs.map V.u64
  | [], xs, h => by simp only [allU64, Option.some.injEq] at h; subst h; rfl
  | v :: r, xs, h => by
    cases v <;> simp only [allU64, reduceCtorEq] at h
    split at h <;> simp only [Option.some.injEq, reduceCtorEq] at h
    rename_i l hl
    subst h
    rw [List.map_cons, allU64_all hl]
theorem zeroN_sound {e : TypeId} {n s : Nat} {b : Blk} (hb : zeroN P e n = some b) (hl : b.len = n * s) :
    ∃ z' : Value, (zeroValue e).run P w = .ok z' w ∧ b ≠ .dead ∧ BlkIn I w ρ b (zerosOf z'.cells (n * s)).toList ∧ (0 < n → z'.cells.size = s) := by
  unfold zeroN at hb
  split at hb <;> first | cases hb | skip
  · rename_i x hz
    obtain ⟨z', e1, e2, e3⟩ := run_zeroT (P := P) (w := w) (I := I) (ρ := ρ) hz
    cases e2
    refine ⟨_, e1, by simp, ?_, ?_⟩
    · intro k hk
      simp only [Blk.len, List.length_replicate] at hk hl
      refine ⟨.int .u8 x.toNat, ?_, ?_⟩
      · rw [Array.getElem?_toList, zerosOf_get _ _ k (by omega) (by simp [Value.cells])]; simp [Value.cells, Nat.mod_one]
      · simp only [Blk.at, List.getD_eq_getElem?_getD, List.getElem?_replicate, hk, if_true, Option.getD_some]; exact .u8 _ _
    · intro hn
      simp only [Blk.len, List.length_replicate] at hl
      have : s = 1 := by
        have := Nat.eq_of_mul_eq_mul_left hn (show n * s = n * 1 from by omega); exact this
      subst this; rfl
  · rename_i x hz
    obtain ⟨z', e1, e2, e3⟩ := run_zeroT (P := P) (w := w) (I := I) (ρ := ρ) hz
    cases e2
    refine ⟨_, e1, by simp, ?_, ?_⟩
    · intro k hk
      simp only [Blk.len, List.length_replicate] at hk hl
      refine ⟨.int .u64 x.toNat, ?_, ?_⟩
      · rw [Array.getElem?_toList, zerosOf_get _ _ k (by omega) (by simp [Value.cells])]; simp [Value.cells, Nat.mod_one]
      · simp only [Blk.at, List.getD_eq_getElem?_getD, List.getElem?_replicate, hk, if_true, Option.getD_some]; exact .u64 _ _
    · intro hn
      simp only [Blk.len, List.length_replicate] at hl
      have : s = 1 := by
        have := Nat.eq_of_mul_eq_mul_left hn (show n * s = n * 1 from by omega); exact this
      subst this; rfl
  · rename_i x hz
    obtain ⟨z', e1, e2, e3⟩ := run_zeroT (P := P) (w := w) (I := I) (ρ := ρ) hz
    cases e2
    refine ⟨_, e1, by simp, ?_, ?_⟩
    · intro k hk
      simp only [Blk.len, List.length_replicate] at hk hl
      refine ⟨.int .i64 x, ?_, ?_⟩
      · rw [Array.getElem?_toList, zerosOf_get _ _ k (by omega) (by simp [Value.cells])]; simp [Value.cells, Nat.mod_one]
      · simp only [Blk.at, List.getD_eq_getElem?_getD, List.getElem?_replicate, hk, if_true, Option.getD_some]; exact .int _ _ _ rfl
    · intro hn
      simp only [Blk.len, List.length_replicate] at hl
      have : s = 1 := by
        have := Nat.eq_of_mul_eq_mul_left hn (show n * s = n * 1 from by omega); exact this
      subst this; rfl
  · rename_i cs hz
    obtain ⟨z', e1, e2, e3⟩ := run_zeroT (P := P) (w := w) (I := I) (ρ := ρ) hz
    have hc : VsRel I w ρ cs z'.cells.toList := cells_sound e2 (ofValue_not_any e3)
    split at hb <;> cases hb
    · rename_i xs hxs
      have hm := allU64_all hxs
      subst hm
      have hf : (List.replicate n (xs.map V.u64)).flatten = ((List.replicate n xs).flatten).map V.u64 := by rw [List.map_flatten, List.map_replicate]
      simp only [Blk.len] at hl
      have hl' : n * (xs.map V.u64).length = n * s := by rw [← hl, flatten_len, List.length_map]
      refine ⟨z', e1, by simp, ?_, ?_⟩
      · have := zeros_rel hc n
        rw [hl', hf] at this
        refine rel_blkIn this (fun k hk => ?_)
        simp only [Blk.len] at hk
        exact ⟨_, by rw [List.getElem?_map, List.getElem?_eq_getElem hk]; rfl, by simp only [Blk.at]; rw [List.getD_eq_getElem?_getD, List.getElem?_eq_getElem hk]; rfl⟩
      · intro hn
        have := Nat.eq_of_mul_eq_mul_left hn hl'
        have h2 := hc.length
        simp at h2 this; omega
    · simp only [Blk.len, flatten_len] at hl
      refine ⟨z', e1, by simp, ?_, ?_⟩
      · have := zeros_rel hc n
        rw [hl] at this
        refine rel_blkIn this (fun k hk => ?_)
        simp only [Blk.len] at hk
        exact ⟨_, List.getElem?_eq_getElem hk, by simp only [Blk.at]; rw [List.getD_eq_getElem?_getD, List.getElem?_eq_getElem hk]; rfl⟩
      · intro hn
        have := Nat.eq_of_mul_eq_mul_left hn hl
        have h2 := hc.length
        simp at h2; omega
  · rename_i z n1 n2 n3 n4 hz
    obtain ⟨z', e1, e2, e3⟩ := run_zeroT (P := P) (w := w) (I := I) (ρ := ρ) hz
    have hc := cells_sound e2 (ofValue_not_any e3)
    simp only [Blk.len, flatten_len] at hl
    refine ⟨z', e1, by simp, ?_, ?_⟩
    · have := zeros_rel hc n
      rw [hl] at this
      refine rel_blkIn this (fun k hk => ?_)
      simp only [Blk.len] at hk
      exact ⟨_, List.getElem?_eq_getElem hk, by simp only [Blk.at]; rw [List.getD_eq_getElem?_getD, List.getElem?_eq_getElem hk]; rfl⟩
    · intro hn
      have := Nat.eq_of_mul_eq_mul_left hn hl
      have h2 := hc.length
      simp at h2; omega
theorem info_bytes {e : TypeId} {s : Nat} (hs : sizeT P e = some s) : ∃ i, P.info? e = some i ∧ i.bytes = bytesT P e ∧ i.size = s := by
  unfold sizeT at hs
  cases hi : P.info? e with
  | none => simp [hi] at hs
  | some i => simp only [hi, Option.some.injEq] at hs; exact ⟨i, rfl, by simp [bytesT, hi], hs⟩
theorem makeSlice_sound (R : Rel ρ I w h F) (FR : FRel I w ρ g a) (hF : F idx) (hidx : h[idx]? = some .dead) {t : TypeId} {x y : Operand} {v : V} {h' : Heap} (ho : o.op = .makeSlice t x y)
    (hs : stepH P idx g h o.op = some (true, v, h')) : Did P a o ρ I w h F idx v h' := by
  rw [ho] at hs
  simp only [stepH] at hs
  split at hs <;> try simp only [reduceCtorEq] at hs
  rename_i e lv cv hu hx hy
  split at hs <;> try simp only [reduceCtorEq] at hs
  rename_i l c s hl hc hsz
  split at hs <;> simp at hs
  rename_i b hb
  obtain ⟨⟨⟨⟨⟨h1, h2⟩, h3⟩, h4⟩, h5⟩, rfl, rfl⟩ := hs
  obtain ⟨k1, e1⟩ := asIx_sound (opnd_sound FR hx) hl
  obtain ⟨k2, e2⟩ := asIx_sound (opnd_sound FR hy) hc
  obtain ⟨z', z1, z2, z3, z4⟩ := zeroN_sound (P := P) (w := w) (I := I) (ρ := ρ) hb h5
  obtain ⟨i, hi, hib, his⟩ := info_bytes hsz
  unfold most48 at h3 h4
  have wl : IntKind.i64.wrap l = l := IntWalk.i64_in _ (by omega)
  have wc : IntKind.i64.wrap c = c := IntWalk.i64_in _ (by omega)
  have tl : (decide (c < 0) || decide ((i.bytes : Int) * c > 2 ^ 48)) = false := by
    have : (i.bytes : Int) * c ≤ 2 ^ 48 := by
      rw [hib]
      have h6 : ((c.toNat * bytesT P e : Nat) : Int) ≤ ((2 ^ 48 : Nat) : Int) := by exact_mod_cast h4
      rw [Int.natCast_mul, Int.toNat_of_nonneg (by omega), Int.mul_comm] at h6
      exact_mod_cast h6
    simp; omega
  have hCs : (zerosOf z'.cells (c.toNat * s)).size = c.toNat * s := by simp [zerosOf]
  obtain ⟨m1, m2⟩ := new_sound R hF hidx (w' := { w with heap := w.heap.push (.cells (zerosOf z'.cells (c.toNat * s)) e) }) (C := zerosOf z'.cells (c.toNat * s)) (e := e) (fz := (0, 0)) (b := b) rfl rfl rfl rfl (fun k _ => by simp) (by
    rw [hCs, h5]; exact Nat.le_refl _) z3 (fun _ _ h => by rw [zeroN_ty (by assumption)] at h; cases h)
  refine ⟨.value (.slice (some ⟨w.heap.size, 0, none⟩) l.toNat c.toNat), _, _, I, _, ?_, .inl rfl, ?_, m1, m2⟩
  · simp only [execOp, ho, e1, e2, Instr.makeSlice, Sem.run_bind, run_underlying hu, Result.andThen_ok, asInt, asIntOf, Sem.run_pure, run_typeInfo w hi, wl, wc]
    have hcond : (decide (c < 0) || decide ((i.bytes : Int) * c > 2 ^ 48) || decide (l < 0) || decide (l > c)) = false := by
      rw [tl]; simp; omega
    rw [hcond]
    simp only [Bool.false_eq_true, if_false, Sem.run_bind, Result.andThen_ok, run_askRoom, run_sizeT hsz]
    split
    · rename_i hz0
      simp only [Sem.run_bind, Sem.run_pure, Result.andThen_ok]
      have e0 : (Array.map (fun i => (#[] : Array Value)[i % (#[] : Array Value).size]!) (Array.range (c.toNat * s))) = zerosOf z'.cells (c.toNat * s) := by rw [hz0]; simp [zerosOf]
      rw [e0]
      rfl
    · simp only [Sem.run_bind, z1, Result.andThen_ok, Sem.run_pure]
      rfl
  · have hle : l.toNat ≤ c.toNat := by omega
    have := VRel.sl (I := I) (w := { w with heap := w.heap.push (.cells (zerosOf z'.cells (c.toNat * s)) e) }) (upd ρ idx ⟨w.heap.size, 0, (zerosOf z'.cells (c.toNat * s)).size⟩) idx 0 s l.toNat (some c.toNat) c.toNat _ (upd_same _ _ _) hle (by rw [hCs]; simp) (by intro n hn; cases hn; rfl)
    simpa using this
theorem buildSlice_sound (R : Rel ρ I w h F) (FR : FRel I w ρ g a) (hF : F idx) (hidx : h[idx]? = some .dead) {t : TypeId} {len : Nat} {parts : Array (Nat × Operand)} {v : V} {h' : Heap} (ho : o.op = .buildSlice t len parts)
    (hs : stepH P idx g h o.op = some (true, v, h')) : Did P a o ρ I w h F idx v h' := by
  rw [ho] at hs
  simp only [stepH] at hs
  split at hs <;> try simp only [reduceCtorEq] at hs
  rename_i e ps hu hps
  split at hs <;> try simp only [reduceCtorEq] at hs
  rename_i s z hsz hz
  split at hs <;> simp at hs
  rename_i cs hcs
  obtain ⟨⟨h1, h2⟩, rfl, rfl⟩ := hs
  obtain ⟨z', e1, e2, e3⟩ := run_zeroT (P := P) (w := w) (I := I) (ρ := ρ) hz
  have hc := cells_sound e2 (ofValue_not_any e3)
  have hzr := zeros_rel hc len
  rw [h2] at hzr
  obtain ⟨m1, m2⟩ := partsV_sound FR hps
  have q1 : (parts.map fun p => (p.1, a.eval p.2)).toList.map (·.1) = parts.toList.map (·.1) := by simp [Function.comp_def]
  have q2 : (parts.map fun p => (p.1, a.eval p.2)).toList.map (·.2) = parts.toList.map (fun p => a.eval p.2) := by simp [Function.comp_def]
  obtain ⟨cs', hc1, hc2⟩ := fillV_sound ps (parts.map fun p => (p.1, a.eval p.2)).toList _ (zerosOf z'.cells (len * s)) cs (by rw [m1, q1]) (by rw [q2]; exact m2) (partsV_not_any hps) hzr hcs
  have hlen : cs.length = len * s := by
    have fl : ∀ (ps : List (Nat × V)) (c d : List V), fillV (fun i => some (i * s, s)) c ps = some d → d.length = c.length := by
      intro ps
      induction ps with
      | nil => intro c d hd; simp only [fillV, Option.some.injEq] at hd; rw [hd]
      | cons p r ih =>
        intro c d hd
        obtain ⟨i, v⟩ := p
        simp only [fillV] at hd
        split at hd
        · rw [ih _ _ hd]
          have sl : ∀ (l : List V) (c : List V) (off : Nat), (setCells c off l).length = c.length := by
            intro l
            induction l with
            | nil => intro c off; rfl
            | cons v r ih => intro c off; simp [setCells, ih]
          exact sl _ _ _
        · cases hd
    rw [fl _ _ _ hcs, flatten_len, h2]
  have hCs : cs'.size = len * s := by have := hc2.length; simp at this; omega
  obtain ⟨k1, k2⟩ := new_sound R hF hidx (w' := { w with heap := w.heap.push (.cells cs' e) }) (C := cs') (e := e) (fz := (0, 0)) (b := mkBlk cs) rfl rfl rfl rfl (fun k _ => by simp) (by
    rw [(mkBlk_at cs).1, hlen, hCs]; exact Nat.le_refl _) (mkBlk_in hc2) (fun _ _ h => by rw [mkBlk_ty] at h; cases h)
  refine ⟨.value (.slice (some ⟨w.heap.size, 0, none⟩) len len), _, _, I, _, ?_, .inl rfl, ?_, k1, k2⟩
  · simp only [execOp, ho, Instr.buildSlice, Sem.run_bind, run_underlying hu, Result.andThen_ok, run_sizeT hsz, Sem.run_ite]
    rw [if_neg (by omega)]
    have hfill : ∀ zz : Array Value, zz = z'.cells ∨ (zz = #[] ∧ len * s = 0) → ((Array.range (len * s)).map (fun i => zz[i % zz.size]!)) = zerosOf z'.cells (len * s) := by
      intro zz hzz
      rcases hzz with rfl | ⟨rfl, h0⟩
      · rfl
      · rw [h0]; simp [zerosOf]
    split
    · rename_i h0
      simp only [Sem.run_pure, Result.andThen_ok]
      rw [hfill #[] (.inr ⟨rfl, h0⟩), hc1]
      rfl
    · simp only [e1, Result.andThen_ok, Sem.run_pure]
      rw [hfill _ (.inl rfl), hc1]
      rfl
  · have := VRel.sl (I := I) (w := { w with heap := w.heap.push (.cells cs' e) }) (upd ρ idx ⟨w.heap.size, 0, cs'.size⟩) idx 0 s len (some len) len _ (upd_same _ _ _) (Nat.le_refl _) (by rw [hCs]; simp) (by intro n hn; cases hn; rfl)
    simpa using this
end
end Go.Lh
end
section
namespace Go.Lh
section
variable {P : Program} {w : World} {I : Nat → Prop} {ρ : Ren} {h : Heap} {F : Nat → Prop} {idx : Nat} {a : Act} {o : Oper} {g : Fm}
theorem blkIn_b8 (s : ByteArray) : BlkIn I w ρ (.b8 (bytesOf s)) (s.data.toList.map fun b => Value.int .u8 b.toNat) := by
  intro k hk
  simp only [Blk.len, bytesOf_length] at hk
  have hk' : k < s.data.toList.length := by simpa using hk
  refine ⟨.int .u8 (s.data.toList[k]).toNat, by simp [hk], ?_⟩
  have : (bytesOf s).getD k 0 = (s.data.toList[k]).toBitVec := by
    simp [bytesOf, hk]
  simp only [Blk.at, this]
  exact .u8 _ _
theorem BlkIn.append {b : Blk} {C D : List Value} (H : BlkIn I w ρ b C) : BlkIn I w ρ b (C ++ D) := by
  intro k hk
  obtain ⟨c, hc, hr⟩ := H k hk
  refine ⟨c, ?_, hr⟩
  rw [List.getElem?_append_left]
  · exact hc
  · rcases Nat.lt_or_ge k C.length with h0 | h0
    · exact h0
    · rw [List.getElem?_eq_none h0] at hc; cases hc
theorem sl_new {I' : Nat → Prop} {w' : World} {n m s len : Nat} {c : Nat} {cap : Option Nat} (h1 : len ≤ c) (h2 : c * s ≤ m) (h3 : ∀ k, cap = some k → k = c) :
    VRel I' w' (upd ρ idx ⟨n, 0, m⟩) (.sl idx 0 s len cap) (.slice (some ⟨n, 0, none⟩) len c) := by
  have := VRel.sl (I := I') (w := w') (upd ρ idx ⟨n, 0, m⟩) idx 0 s len cap c _ (upd_same _ _ _) h1 (by simpa using h2) h3
  simpa using this
theorem toBytes_sound (R : Rel ρ I w h F) (FR : FRel I w ρ g a) (hF : F idx) (hidx : h[idx]? = some .dead) {src dst : TypeId} {x : Operand} {v : V} {h' : Heap} (ho : o.op = .convert src dst x)
    (hs : stepH P idx g h o.op = some (true, v, h')) (hm : Op.makes P o.op = true) : Did P a o ρ I w h F idx v h' := by
  rw [ho] at hs hm
  simp only [stepH] at hs
  split at hs <;> try simp only [reduceCtorEq] at hs
  · rename_i e s hsrc hdst hx
    split at hs <;> simp at hs
    rename_i he
    obtain ⟨rfl, rfl⟩ := hs
    have r := opnd_sound FR hx
    cases hv : a.eval x <;> rw [hv] at r <;> cases r
    rename_i s
    generalize hcap : (Question.appendCap s.size 0 e).cut (w.tape w.drawn (.appendCap s.size 0 e)) = cap
    have hle : s.size ≤ cap := by rw [← hcap]; simp [Question.cut]
    let C : Array Value := (s.data.map fun b => Value.int .u8 b.toNat) ++ Array.replicate (cap - s.size) (Value.int .u8 0)
    have hC : C.size = cap := by simp [C]; omega
    obtain ⟨m1, m2⟩ := new_sound R hF hidx (w' := { w with heap := w.heap.push (.cells C e (cap, cap + 1)), drawn := w.drawn + 1 }) (C := C) (e := e) (fz := (cap, cap + 1)) (b := .b8 (bytesOf s)) rfl rfl rfl rfl
      (fun k hk => by rw [hC] at hk; simp only; omega) (by rw [hC]; simp only [Blk.len, bytesOf_length]; exact hle) (by
        have := BlkIn.append (D := List.replicate (cap - s.size) (Value.int .u8 0)) (blkIn_b8 (I := I) (w := w) (ρ := ρ) s)
        simpa [C] using this) (fun _ _ h => by cases h)
    refine ⟨.value (.slice (some ⟨w.heap.size, 0, none⟩) s.size cap), _, _, I, _, ?_, .inl rfl, ?_, m1, m2⟩
    · have hfreeze : World.freeze { w with heap := w.heap.push (.cells C e), drawn := w.drawn + 1 } ⟨w.heap.size, C.size, none⟩ 1 = { w with heap := w.heap.push (.cells C e (cap, cap + 1)), drawn := w.drawn + 1 } := by
        simp only [World.freeze]
        rw [if_neg (by omega)]
        congr 1
        apply Array.ext_getElem?
        intro k
        rw [Array.getElem?_modify, Array.getElem?_push, Array.getElem?_push]
        by_cases hk : k = w.heap.size
        · subst hk; simp [hC]
        · rw [if_neg (fun e => hk e.symm), if_neg hk, if_neg hk]
      have hshape : World.shape? { w with heap := w.heap.push (.cells C e), drawn := w.drawn + 1 } w.heap.size = some (e, C.size) := by
        simp [World.shape?]
      simp only [execOp, ho, hv, convert, Sem.run_bind, run_underlying hsrc, run_underlying hdst, run_underlying he, Result.andThen_ok, Conv.stringToBytes, run_choose, Question.forced, Bool.false_eq_true, if_false, hcap, newRow, run_newObj, Sem.run_pure]
      have hC' : (s.data.map fun b => Value.int .u8 b.toNat) ++ Array.replicate (cap - s.size) (Value.int .u8 0) = C := rfl
      rw [hC']
      simp only [markStringish, Sem.run_bind, run_shape, hshape, Result.andThen_ok, run_freeze, hfreeze]
    · rw [bytesOf_length]
      exact sl_new hle (by rw [hC]; omega) (by intro k hk; cases hk)
  · rename_i hsrc hdst _
    simp [Op.makes, hsrc, hdst] at hm
  · rename_i hsrc hdst _
    simp [Op.makes, hsrc, hdst] at hm
  · rename_i hsrc hdst _
    simp [Op.makes, hsrc, hdst] at hm
  · rename_i hsrc hdst _
    simp [Op.makes, hsrc, hdst] at hm
theorem bytesTo_run {b o : Nat} {C : Array Value} {e : TypeId} {fz : Nat × Nat} (hm : w.heap[b]? = some (.cells C e fz)) (xs : List (BitVec 8)) (hc : ∀ k, k < xs.length → C[o + k]? = some (.int .u8 (xs.getD k 0).toNat)) (c : Nat) :
    ∃ s : ByteArray, (Conv.bytesToString (.slice (some ⟨b, o, none⟩) xs.length c)).run P w = .ok (.string s) w ∧ bytesOf s = xs := by
  have hrun := run_loadCells_list (P := P) (w := w) ⟨b, o, none⟩ ((xs.map fun x => (x.toNat : Int)).map (Value.int .u8)) (fun j v hj => by
    rw [add_eq, cell_at hm]
    rw [List.getElem?_map, List.getElem?_map] at hj
    cases hx : xs[j]? with
    | none => simp [hx] at hj
    | some x =>
      obtain ⟨hj1, hj2⟩ := List.getElem?_eq_some_iff.1 hx
      rw [hc j hj1]
      simp [hx] at hj ⊢
      exact hj)
  simp only [List.length_map] at hrun
  refine ⟨_, run_bytesToString w _ _ c _ hrun, ?_⟩
  have fold : ∀ (l : List (BitVec 8)) (s : ByteArray), bytesOf ((l.map fun x => (x.toNat : Int)).foldl (fun r n => r.push (UInt8.ofNat n.toNat)) s) = bytesOf s ++ l := by
    intro l
    induction l with
    | nil => intro s; simp
    | cons x l ih =>
      intro s
      simp only [List.map_cons, List.foldl_cons, Int.toNat_natCast]
      rw [ih]
      simp [bytesOf, UInt8.ofNat]
  rw [fold]
  simp [bytesOf]
theorem toText_sound (R : Rel ρ I w h F) (FR : FRel I w ρ g a) {src dst : TypeId} {x : Operand} {v : V} {h' : Heap} (ho : o.op = .convert src dst x)
    (hs : stepH P idx g h o.op = some (true, v, h')) (hm : Op.makes P o.op = false) : Did P a o ρ I w h F idx v h' := by
  rw [ho] at hs hm
  simp only [stepH] at hs
  split at hs <;> try simp only [reduceCtorEq] at hs
  · rename_i hsrc hdst _
    simp [Op.makes, hsrc, hdst] at hm
  · rename_i e i q s len cap hsrc hdst hx
    split at hs <;> try simp only [reduceCtorEq] at hs
    · rename_i xs he hb
      split at hs <;> simp at hs
      rename_i hs1
      obtain ⟨h1, rfl, rfl⟩ := hs
      have r := opnd_sound FR hx
      cases hv : a.eval x <;> rw [hv] at r <;> cases r
      · rename_i c l hl k1 k2 k3
        obtain ⟨C, e', fz, m1, m2, m3, m4, m5, m6⟩ := live_blk R hb rfl hl
        have hlen : ((xs.drop q).take len).length = len := by simp; omega
        obtain ⟨t, t1, t2⟩ := bytesTo_run (P := P) (o := l.d + q) m1 ((xs.drop q).take len) (fun k hk => by
          rw [hlen] at hk
          obtain ⟨cc, hc, hr⟩ := m4 (q + k) (by simp only [Blk.len]; omega)
          rw [List.getElem?_drop, Array.getElem?_toList] at hc
          rw [Nat.add_assoc, hc]
          simp only [Blk.at] at hr
          have e1 : ((xs.drop q).take len).getD k 0 = xs.getD (q + k) 0 := by simp [hk]
          rw [e1]
          cases hr; rfl) c
        rw [hlen] at t1
        refine Did.quiet R (v' := .string t) ?_ (by rw [← t2]; exact .str _ _)
        simp only [execOp, ho, hv, Sem.run_bind, run_convert_bytes_string w src dst e _ _ _ hsrc he hdst, t1, Result.andThen_ok, Sem.run_pure]
      · rename_i y l hl k3
        refine Did.quiet R (v' := .string ByteArray.empty) ?_ (by simpa [bytesOf] using VRel.str (I := I) (w := w) ρ ByteArray.empty)
        have hl0 : (loadCells ⟨l.b, y, none⟩ 0).run P w = .ok (([] : List Int).map (Value.int .u8)).toArray w := by
          have := run_loadCells_list (P := P) (w := w) ⟨l.b, y, none⟩ [] (by simp)
          simpa using this
        have := run_bytesToString w ⟨l.b, y, none⟩ 0 0 [] hl0
        simp only [execOp, ho, hv, Sem.run_bind, run_convert_bytes_string w src dst e _ _ _ hsrc he hdst, this, Result.andThen_ok, Sem.run_pure]
        rfl
    · rename_i e0 xs he hb
      split at hs <;> simp at hs
      rename_i hs1
      obtain ⟨h1, rfl, rfl⟩ := hs
      have r := opnd_sound FR hx
      cases hv : a.eval x <;> rw [hv] at r <;> cases r
      · rename_i c l hl k1 k2 k3
        obtain ⟨C, e', fz, m1, m2, m3, m4, m5, m6⟩ := live_blk R hb rfl hl
        have hlen : ((xs.drop q).take len).length = len := by simp; omega
        obtain ⟨t, t1, t2⟩ := bytesTo_run (P := P) (o := l.d + q) m1 ((xs.drop q).take len) (fun k hk => by
          rw [hlen] at hk
          obtain ⟨cc, hc, hr⟩ := m4 (q + k) (by simp only [Blk.len]; omega)
          rw [List.getElem?_drop, Array.getElem?_toList] at hc
          rw [Nat.add_assoc, hc]
          simp only [Blk.at] at hr
          have e1 : ((xs.drop q).take len).getD k 0 = xs.getD (q + k) 0 := by simp [hk]
          rw [e1]
          cases hr; rfl) c
        rw [hlen] at t1
        refine Did.quiet R (v' := .string t) ?_ (by rw [← t2]; exact .str _ _)
        simp only [execOp, ho, hv, Sem.run_bind, run_convert_bytes_string w src dst e _ _ _ hsrc he hdst, t1, Result.andThen_ok, Sem.run_pure]
      · rename_i y l hl k3
        refine Did.quiet R (v' := .string ByteArray.empty) ?_ (by simpa [bytesOf] using VRel.str (I := I) (w := w) ρ ByteArray.empty)
        have hl0 : (loadCells ⟨l.b, y, none⟩ 0).run P w = .ok (([] : List Int).map (Value.int .u8)).toArray w := by
          have := run_loadCells_list (P := P) (w := w) ⟨l.b, y, none⟩ [] (by simp)
          simpa using this
        have := run_bytesToString w ⟨l.b, y, none⟩ 0 0 [] hl0
        simp only [execOp, ho, hv, Sem.run_bind, run_convert_bytes_string w src dst e _ _ _ hsrc he hdst, this, Result.andThen_ok, Sem.run_pure]
        rfl
  · rename_i e hsrc hdst hx
    split at hs <;> simp at hs
    rename_i he
    obtain ⟨rfl, rfl⟩ := hs
    have r := opnd_sound FR hx
    cases hv : a.eval x <;> rw [hv] at r <;> cases r
    refine Did.quiet R (v' := .string ByteArray.empty) ?_ (by simpa [bytesOf] using VRel.str (I := I) (w := w) ρ ByteArray.empty)
    simp only [execOp, ho, hv, Sem.run_bind, run_convert_bytes_string w src dst e _ _ _ hsrc he hdst, Conv.bytesToString, Result.andThen_ok, Sem.run_pure]
  · rename_i t i q hsrc hdst hx
    split at hs <;> try simp only [reduceCtorEq] at hs
    rename_i e0 x0 y0 k0 hb hk0
    split at hs <;> simp only [Option.some.injEq, Prod.mk.injEq, true_and, reduceCtorEq] at hs
    rename_i hc
    obtain ⟨rfl, rfl⟩ := hs
    simp only [Bool.and_eq_true, Bool.not_eq_true'] at hc
    have hq := Nat.eq_of_beq_eq_true hc.1
    subst hq
    have hz : k0.size ≠ 0 := fun e => by rw [e] at hc; exact absurd hc.2 (by decide)
    have r := opnd_sound FR hx
    cases hv : a.eval x <;> rw [hv] at r <;> cases r
    rename_i l hl
    obtain ⟨q0, q1, q2, q3⟩ := R.blk i _ hb (by simp)
    rw [hl] at q1; cases q1
    obtain ⟨t1, C, fz, t2, t3⟩ := q2.ty e0 2 rfl
    have hsz := t3 (by decide)
    refine Did.quiet R (v' := .pointer (some ⟨l.b, l.d + 0, none⟩)) ?_ (.ptr _ _ _ l hl)
    have hsh : w.shape? l.b = some (e0, C.size) := by simp [World.shape?, t2]
    have := Lib.run_to_unsafe (P := P) w ⟨l.b, l.d + 0, none⟩ hsrc hdst hk0 hz hsh (by rw [t1, hsz]; show (0 : Nat) + 0 < 2; omega)
    simp only [execOp, ho, hv, Sem.run_bind, this, Result.andThen_ok, Sem.run_pure]
  · rename_i u i q hsrc hdst hx
    split at hs <;> try simp only [reduceCtorEq] at hs
    rename_i e0 x0 y0 k0 hb hk0
    split at hs <;> simp only [Option.some.injEq, Prod.mk.injEq, true_and, reduceCtorEq] at hs
    rename_i hc
    obtain ⟨rfl, rfl⟩ := hs
    simp only [Bool.and_eq_true] at hc
    have hq := Nat.eq_of_beq_eq_true hc.1
    subst hq
    have r := opnd_sound FR hx
    cases hv : a.eval x <;> rw [hv] at r <;> cases r
    rename_i l hl
    obtain ⟨q0, q1, q2, q3⟩ := R.blk i _ hb (by simp)
    rw [hl] at q1; cases q1
    obtain ⟨t1, C, fz, t2, t3⟩ := q2.ty e0 2 rfl
    have hsz := t3 (by decide)
    refine Did.quiet R (v' := .pointer (some ⟨l.b, l.d + 0, none⟩)) ?_ (.ptr _ _ _ l hl)
    have hsh : w.shape? l.b = some (e0, C.size) := by simp [World.shape?, t2]
    have := Lib.run_from_unsafe (P := P) w ⟨l.b, l.d + 0, none⟩ hsrc hdst hk0 hsh (by rw [t1, hsz]; exact hc.2)
    simp only [execOp, ho, hv, Sem.run_bind, this, Result.andThen_ok, Sem.run_pure]
theorem sliceData_sound (R : Rel ρ I w h F) (FR : FRel I w ρ g a) {args : Array Operand} {ts : Array TypeId} {v : V} {h' : Heap} (ho : o.op = .call { callee := .builtin .unsafeSliceData, args := args, argTypes := ts })
    (hs : stepH P idx g h o.op = some (true, v, h')) : Did P a o ρ I w h F idx v h' := by
  rw [ho] at hs
  simp only [stepH] at hs
  split at hs <;> simp only [Option.some.injEq, Prod.mk.injEq, true_and, decide_eq_true_eq, reduceCtorEq] at hs
  · rename_i i q s len cap hargs
    obtain ⟨hlen, rfl, rfl⟩ := hs
    have hr := opnds_sound FR hargs
    cases hr' : args.toList.map a.eval with
    | nil => rw [hr'] at hr; cases hr
    | cons x' r1 =>
      rw [hr'] at hr
      cases hr with
      | cons _ _ _ _ _ hx hr =>
        cases hr
        have eargs : args.map a.eval = #[x'] := by apply Array.ext'; simp [hr']
        cases hx with
        | sl _ _ _ _ _ _ c l hl k1 k2 k3 =>
          refine Did.quiet R (v' := .pointer (some ⟨l.b, l.d + q, none⟩)) ?_ (.ptr _ _ _ l hl)
          have := Lib.run_unsafeSliceData_row (P := P) w ts o.type ⟨l.b, l.d + q, none⟩ len c (by omega)
          simp only [execOp, ho, resolve, Sem.run_bind, Sem.run_pure, Result.andThen_ok, invoke, eargs, builtin, this]
        | slz _ _ _ _ _ y l hl k3 => omega
  · rename_i hargs
    obtain ⟨rfl, rfl⟩ := hs
    have hr := opnds_sound FR hargs
    cases hr' : args.toList.map a.eval with
    | nil => rw [hr'] at hr; cases hr
    | cons x' r1 =>
      rw [hr'] at hr
      cases hr with
      | cons _ _ _ _ _ hx hr =>
        cases hr
        have eargs : args.map a.eval = #[x'] := by apply Array.ext'; simp [hr']
        cases hx
        refine Did.quiet R (v' := .pointer none) ?_ (.nilPtr _)
        have := Lib.run_unsafeSliceData_nil (P := P) w ts o.type 0 0
        simp only [execOp, ho, resolve, Sem.run_bind, Sem.run_pure, Result.andThen_ok, invoke, eargs, builtin, this]
theorem unsafeString_sound (R : Rel ρ I w h F) (FR : FRel I w ρ g a) {args : Array Operand} {ts : Array TypeId} {v : V} {h' : Heap} (ho : o.op = .call { callee := .builtin .unsafeString, args := args, argTypes := ts })
    (hs : stepH P idx g h o.op = some (true, v, h')) : Did P a o ρ I w h F idx v h' := by
  rw [ho] at hs
  simp only [stepH] at hs
  split at hs <;> try simp only [reduceCtorEq] at hs
  · rename_i pt it i q n hts hargs
    have ets : ts = #[pt, it] := by apply Array.ext'; simpa using hts
    split at hs <;> try simp only [reduceCtorEq] at hs
    rename_i e e' xs hu hb
    split at hs <;> simp only [Option.some.injEq, Prod.mk.injEq, Bool.and_eq_true, decide_eq_true_eq, reduceCtorEq] at hs
    rename_i hc
    obtain ⟨⟨⟨hn0, hn1⟩, hn2⟩, rfl, rfl⟩ := hs
    simp only [Bool.and_eq_true] at hc
    have c1 := Nat.eq_of_beq_eq_true hc.1.1
    have c2 := Nat.eq_of_beq_eq_true hc.1.2
    have c3 := Nat.eq_of_beq_eq_true hc.2
    subst c1; subst c2
    have hr := opnds_sound FR hargs
    cases hr' : args.toList.map a.eval with
    | nil => rw [hr'] at hr; cases hr
    | cons x' r1 =>
      rw [hr'] at hr
      cases hr with
      | cons _ _ _ _ _ hx hr =>
        cases hr with
        | cons _ _ y' _ r2 hy hr =>
          cases hr
          have eargs : args.map a.eval = #[x', y'] := by apply Array.ext'; simp [hr']
          cases hy
          cases hx with
          | ptr _ _ _ l hl =>
            obtain ⟨q0, q1, q2, q3⟩ := R.blk i _ hb (by simp)
            rw [hl] at q1; cases q1
            obtain ⟨t1, C, fz, t2, _⟩ := q2.ty e 0 rfl
            obtain ⟨C2, e2, fz2, m1, m2, m3, m4⟩ := q2.mem
            rw [t2] at m1; cases m1
            have hfit : xs.length ≤ l.room := q2.fits
            obtain ⟨m, rfl⟩ : ∃ m : Nat, n = m := ⟨n.toNat, by omega⟩
            have hm : m ≤ xs.length := by omega
            let L : List UInt8 := (xs.take m).map UInt8.ofBitVec
            have hL : L.length = m := by simp [L]; omega
            have hsh : w.shape? l.b = some (e, C.size) := by simp [World.shape?, t2]
            have hrun := Lib.run_unsafeString_row (P := P) w pt it o.type e hu c3 l.b C.size hsh L (by intro h0; rw [h0] at hL; simp at hL; omega) (by rw [hL, m2]; omega) (by rw [hL]; omega) (by
              intro j x hj
              obtain ⟨hj1, hj2⟩ := List.getElem?_eq_some_iff.1 hj
              rw [hL] at hj1
              obtain ⟨c, hc1, hc2⟩ := m4 j (by show j < xs.length; omega)
              rw [t1, Nat.zero_add] at hc1
              rw [add_eq, Nat.zero_add, cell_at t2, hc1]
              have : (Blk.buf e xs).at j = .u8 (xs.getD j 0) := rfl
              rw [this] at hc2
              have hx : x.toNat = (xs.getD j 0).toNat := by
                rw [← hj2]
                have : xs.getD j 0 = xs[j] := by rw [List.getD_eq_getElem?_getD, List.getElem?_eq_getElem (by omega)]; rfl
                rw [this]
                simp [L]
              rw [hx]
              cases hc2; rfl)
            rw [hL] at hrun
            have hval : VRel I (w.freeze ⟨l.b, 0, none⟩ m) ρ (.str (xs.take m)) (.string ⟨L.toArray⟩) := by
              have e0 : bytesOf ⟨L.toArray⟩ = xs.take m := by
                simp only [bytesOf, L, List.map_map]
                conv => rhs; rw [← List.map_id (xs.take m)]
                exact List.map_congr_left (fun x _ => rfl)
              have := VRel.str (I := I) (w := w.freeze ⟨l.b, 0, none⟩ m) ρ ⟨L.toArray⟩
              rwa [e0] at this
            have hlt : i < h.length := by
              rcases Nat.lt_or_ge i h.length with h0 | h0
              · exact h0
              · rw [List.getElem?_eq_none h0] at hb; cases hb
            have hlb : l.b < w.heap.size := (Array.getElem?_eq_some_iff.1 t2).1
            have hsame : ∀ k, k < w.heap.size → k ≠ l.b → (w.freeze ⟨l.b, 0, none⟩ m).heap[k]? = w.heap[k]? := by
              intro k _ hk
              unfold World.freeze
              split
              · rfl
              · simp only [Array.getElem?_modify]
                rw [if_neg (Ne.symm hk)]
            have key := rel_put (h1 := h) (idx := i) (l := l) (b := .dead) (w' := w.freeze ⟨l.b, 0, none⟩ m) R (by unfold World.freeze; split <;> rfl) (by unfold World.freeze; split <;> rfl) (by unfold World.freeze; split <;> rfl)
              (by unfold World.freeze; split <;> simp) rfl hlt (fun _ _ _ h _ => h) (.inr hl) hsame (.inr ⟨i, _, l, hb, by simp, hl, rfl⟩) (fun j x lj hj hx hxd hlj => R.apart j i x _ lj l hj hx hxd hb (by simp) hlj hl) (fun h => (h rfl).elim)
            have hupd : upd ρ i l = ρ := by
              funext k
              by_cases hk : k = i
              · subst hk; rw [upd_same, hl]
              · rw [upd_ne _ _ hk]
            rw [hupd] at key
            refine ⟨.value (.string ⟨L.toArray⟩), _, ρ, I, _, ?_, .inl rfl, hval, ?_, key.2⟩
            · simp only [execOp, ho, resolve, Sem.run_bind, Sem.run_pure, Result.andThen_ok, invoke, eargs, builtin, ets, t1, Nat.add_zero, Nat.zero_add]
              rw [hrun]
              rfl
            · exact ⟨key.1.blk, fun k hk => R.free k hk.1, key.1.out, key.1.apart, key.1.lt⟩
  · rename_i pt it n hts hargs
    have ets : ts = #[pt, it] := by apply Array.ext'; simpa using hts
    simp only [Option.some.injEq, Prod.mk.injEq, decide_eq_true_eq] at hs
    obtain ⟨rfl, rfl, rfl⟩ := hs
    have hr := opnds_sound FR hargs
    cases hr' : args.toList.map a.eval with
    | nil => rw [hr'] at hr; cases hr
    | cons x' r1 =>
      rw [hr'] at hr
      cases hr with
      | cons _ _ _ _ _ hx hr =>
        cases hr with
        | cons _ _ y' _ r2 hy hr =>
          cases hr
          have eargs : args.map a.eval = #[x', y'] := by apply Array.ext'; simp [hr']
          cases hx
          cases hy
          refine Did.quiet R (v' := .string ByteArray.empty) ?_ (by simpa [bytesOf] using VRel.str (I := I) (w := w) ρ ByteArray.empty)
          have := Lib.run_unsafeString_none (P := P) w pt it o.type none
          simp only [execOp, ho, resolve, Sem.run_bind, Sem.run_pure, Result.andThen_ok, invoke, eargs, builtin, ets, this]
theorem srcB_sound (R : Rel ρ I w h F) {s : Nat} {x : V} {x' : Value} {n : Nat} {c : Blk} (hx : VRel I w ρ x x') (hs : srcB h s x = some (true, n, c)) :
    (Builtin.lenOf x').run P w = .ok n w ∧ c.len = n * s ∧ c ≠ .dead ∧
    ∀ m, m ≤ n → ∃ C : Array Value, (∀ w₁ : World, w₁.heap = w.heap → (Builtin.firstCells s m x').run P w₁ = .ok C w₁) ∧ C.size = m * s ∧ BlkIn I w ρ (c.cut 0 (m * s)) C.toList := by
  unfold srcB at hs
  split at hs <;> try simp only [reduceCtorEq] at hs
  · rename_i t
    split at hs <;> simp at hs
    rename_i hs1; subst hs1
    obtain ⟨rfl, rfl⟩ := hs
    cases hx with
    | str _ t =>
      refine ⟨by simp [Builtin.lenOf, bytesOf_length], by simp [Blk.len], by simp, fun m hm => ?_⟩
      rw [bytesOf_length] at hm
      refine ⟨(t.extract 0 m).data.map fun b => Value.int .u8 b.toNat, fun _ _ => by simp [Builtin.firstCells], ?_, ?_⟩
      · simp [ByteArray.data_extract]; omega
      · have := blkIn_b8 (I := I) (w := w) (ρ := ρ) (t.extract 0 m)
        rw [bytesOf_extract _ _ _ hm] at this
        simpa [Blk.cut] using this
  · simp at hs
    obtain ⟨rfl, rfl⟩ := hs
    cases hx
    refine ⟨rfl, by simp [Blk.len], by simp, fun m hm => ?_⟩
    have hm0 : m = 0 := by omega
    subst hm0
    exact ⟨#[], fun _ _ => by simp [Builtin.firstCells], by simp, fun k hk => by simp [Blk.cut, Blk.len] at hk⟩
  · rename_i j q s' len cap
    split at hs <;> try simp only [reduceCtorEq] at hs
    rename_i hss; subst hss
    split at hs <;> try simp only [reduceCtorEq] at hs
    rename_i b hb
    split at hs <;> simp at hs
    rename_i hd
    obtain ⟨h1, rfl, rfl⟩ := hs
    have hne : b ≠ .dead := by rintro rfl; simp [isDead] at hd
    obtain ⟨c1, c2, c3⟩ := Blk.cut_at h1 hne
    refine ⟨by cases hx <;> rfl, c1, c2, fun m hm => ?_⟩
    have hms : m * s' ≤ len * s' := Nat.mul_le_mul_right _ hm
    cases hx with
    | sl _ _ _ _ _ _ cc l hl k1 k2 k3 =>
      obtain ⟨C, e', fz, m1, m2, m3, m4, m5, m6⟩ := live_blk R hb (by simpa using hd) hl
      refine ⟨((C.toList.drop (l.d + q)).take (m * s')).toArray, ?_, by simp; omega, ?_⟩
      · intro w₁ hw₁
        have m1 : w₁.heap[l.b]? = some (.cells C e' fz) := by rw [hw₁]; exact m1
        have hlen : ((C.toList.drop (l.d + q)).take (m * s')).length = m * s' := by simp; omega
        have hrun := run_loadCells_list (P := P) (w := w₁) ⟨l.b, l.d + q, none⟩ ((C.toList.drop (l.d + q)).take (m * s')) (fun j c hj => by
          rw [add_eq, cell_at m1]
          rw [List.getElem?_take] at hj
          split at hj
          · rw [List.getElem?_drop, Array.getElem?_toList] at hj; exact hj
          · cases hj)
        rw [hlen] at hrun
        simpa [Builtin.firstCells] using hrun
      · intro k hk
        obtain ⟨d1, d2, d3⟩ := Blk.cut_at (b := b.cut q (len * s')) (o := 0) (n := m * s') (by omega) c2
        rw [d1] at hk
        rw [d3 k hk, Nat.zero_add, c3 k (by omega)]
        obtain ⟨cc, hc, hr⟩ := m4 (q + k) (by omega)
        rw [List.getElem?_drop, Array.getElem?_toList] at hc
        refine ⟨cc, ?_, hr⟩
        simp only [List.getElem?_take, hk, if_true, List.getElem?_drop, Array.getElem?_toList]
        rw [Nat.add_assoc]; exact hc
    | slz _ _ _ _ _ y l hl k3 =>
      have hm0 : m = 0 := by omega
      subst hm0
      refine ⟨#[], ?_, by simp, fun k hk => ?_⟩
      · intro w₁ _
        have := run_loadCells_list (P := P) (w := w₁) ⟨l.b, y, none⟩ [] (by simp)
        simpa [Builtin.firstCells] using this
      · obtain ⟨d1, _, _⟩ := Blk.cut_at (b := b.cut q (0 * s')) (o := 0) (n := 0 * s') (by omega) c2
        rw [d1] at hk; omega
  · rename_i s' len f
    split at hs <;> try simp only [reduceCtorEq] at hs
    rename_i hss; subst hss
    simp at hs
    obtain ⟨rfl, rfl⟩ := hs
    have hlen : (Blk.vals (islC s' len f)).len = len * s' := by simp [Blk.len, islC]
    refine ⟨by cases hx <;> rfl, hlen, by simp, fun m hm => ?_⟩
    have hms : m * s' ≤ len * s' := Nat.mul_le_mul_right _ hm
    cases hx with
    | isl _ _ _ _ bb o cc g hI hc hw hv =>
      have dm : ∀ k, k < m * s' → k / s' < len ∧ k % s' < s' ∧ k / s' * s' + k % s' = k := by
        intro k hk
        have hs0 : 0 < s' := by
          rcases Nat.eq_zero_or_pos s' with e | e
          · subst e; simp at hk
          · exact e
        refine ⟨(Nat.div_lt_iff_lt_mul hs0).2 (by omega), Nat.mod_lt _ hs0, ?_⟩
        rw [Nat.mul_comm]; exact Nat.div_add_mod k s'
      refine ⟨((List.range (m * s')).map fun k => g (k / s') (k % s')).toArray, ?_, by simp, ?_⟩
      · intro w₁ hw₁
        have hrun := run_loadCells_list (P := P) (w := w₁) ⟨bb, o, none⟩ ((List.range (m * s')).map fun k => g (k / s') (k % s')) (fun j c hj => by
          rw [add_eq]
          have hj2 := hj
          rw [List.getElem?_map] at hj2
          have hjl : j < m * s' := by
            rcases Nat.lt_or_ge j (m * s') with h0 | h0
            · exact h0
            · rw [List.getElem?_eq_none (by simpa using h0)] at hj; cases hj
          rw [List.getElem?_range hjl] at hj2
          simp only [Option.map_some, Option.some.injEq] at hj2
          subst hj2
          obtain ⟨e1, e2, e3⟩ := dm j hjl
          have := hw _ _ e1 e2
          rw [Nat.add_assoc, e3] at this
          have hcell : w₁.cell? ⟨bb, o + j, none⟩ = w.cell? ⟨bb, o + j, none⟩ := by simp only [World.cell?]; rw [hw₁]
          rw [hcell]; exact this)
        simp only [List.length_map, List.length_range] at hrun
        simpa [Builtin.firstCells] using hrun
      · intro k hk
        obtain ⟨d1, d2, d3⟩ := Blk.cut_at (b := .vals (islC s' len f)) (o := 0) (n := m * s') (by rw [hlen]; omega) (by simp)
        rw [d1] at hk
        rw [d3 k hk, Nat.zero_add]
        obtain ⟨e1, e2, e3⟩ := dm k hk
        refine ⟨g (k / s') (k % s'), by simp [hk], ?_⟩
        have e4 : (Blk.vals (islC s' len f)).at k = f (k / s') (k % s') := by
          have : k < len * s' := by omega
          simp [Blk.at, islC, this]
        rw [e4]
        exact (hv _ _ e1 e2).mono (fun _ h => h) (fun _ _ => rfl) _ (by intro i l h; cases h)
    | islz _ _ _ a c h =>
      have hm0 : m = 0 := by omega
      subst hm0
      refine ⟨#[], ?_, by simp, fun k hk => ?_⟩
      · intro w₁ _
        have := run_loadCells_list (P := P) (w := w₁) (a.getD default) [] (by simp)
        cases a <;> simp [Builtin.firstCells] at *
        all_goals (try exact this)
      · simp [Blk.cut, Blk.len] at hk
theorem growBy_le (newLen : Nat) : ∀ (r c : Nat), c ≤ 2 * newLen + 1024 → Builtin.growBy newLen r c ≤ 2 * newLen + 1024
  | 0, c, h => by simpa [Builtin.growBy] using h
  | r + 1, c, h => by
    simp only [Builtin.growBy]
    split
    · exact h
    · exact growBy_le newLen r _ (by omega)
theorem nextslicecap_le (n c : Nat) (h : c ≤ n) : Builtin.nextslicecap n c ≤ 2 * n + 1024 := by
  unfold Builtin.nextslicecap
  split
  · omega
  · split
    · omega
    · exact growBy_le n 4 c (by omega)
theorem room_ok {e : TypeId} {s need : Nat} (h : appRoom P e s need = true) {c : Nat} (hc : c ≤ need) (zeros : Bool) {i : TypeInfo} (hi : P.info? e = some i) :
    ¬ ((need : Int) > IntKind.i64.max ∧ (zeros = true ∨ i.bytes = 0)) ∧ ¬ (Builtin.nextslicecap need c * i.bytes > 2 ^ 48) := by
  simp only [appRoom, Bool.and_eq_true, decide_eq_true_eq] at h
  have hb : bytesT P e = i.bytes := by simp [bytesT, hi]
  rw [hb] at h
  unfold most46 most48 at h
  constructor
  · rintro ⟨h1, _⟩
    have : IntKind.i64.max = 9223372036854775807 := by simp [IntKind.max, IntKind.signed, IntKind.bits]
    omega
  · have h1 := nextslicecap_le need c hc
    have h2 : Builtin.nextslicecap need c * i.bytes ≤ (2 * need + 1024) * i.bytes := Nat.mul_le_mul_right _ h1
    omega
end
end Go.Lh
end
