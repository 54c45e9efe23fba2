/- Local heaps: values, blocks, and how they stand to the model's values and memory. -/
import Derived.Calls
import Derived.Orders
import Derived.Laws.Sem
import Derived.Laws.World
import Derived.Laws.Cells
set_option linter.unusedSimpArgs false
set_option linter.unusedVariables false
namespace Go.Lh

/-- A value: numbers without sign as bit vectors; an address by the number of a local block; a slice of memory that nobody writes any more (isl) by what it holds. -/
inductive V where
  | any
  | u8 (x : BitVec 8) | u16 (x : BitVec 16) | u32 (x : BitVec 32) | u64 (x : BitVec 64)
  | int (k : IntKind) (n : Int)
  | bool (b : Bool)
  | str (s : List (BitVec 8))
  | ptr (i o : Nat)
  | nilPtr
  | sl (i o s len : Nat) (cap : Option Nat)
  | nilSl
  | isl (s len : Nat) (f : Nat → Nat → V)
  | iptr (s len : Nat) (f : Nat → Nat → V) (i j : Nat)
  | fn (f : FuncId) (first captured : List V)
  | nilFn
  | agg (cs : List V)
  | tup (vs : List V)
  | iface (t : TypeId) (v : V)
  | nilIface
  deriving Inhabited

inductive Blk where
  | dead
  | b8 (xs : List (BitVec 8))
  | b64 (xs : List (BitVec 64))
  | ints (xs : List Int)
  | vals (cs : List V)
  deriving Inhabited

abbrev Heap := List Blk
abbrev Fr := List (Nat × V)
abbrev Fm := Nat → Option V

def Fr.get : Fr → Nat → Option V
  | [], _ => none
  | (i, v) :: r, t => if Nat.beq i t then some v else Fr.get r t

def Fr.put (t : Nat) (v : V) : Fr → Fr
  | [] => [(t, v)]
  | (i, u) :: r => if Nat.beq i t then (i, v) :: r else (i, u) :: Fr.put t v r

def Fm.put (g : Fm) (d : Option Tmp) (v : V) : Fm :=
  match d with
  | some t => fun x => if x = t then some v else g x
  | none => g

theorem beq_iff (i t : Nat) : (Nat.beq i t = true) = (i = t) := by simp
theorem Fr.get_cons (i : Nat) (v : V) (r : Fr) (t : Nat) : Fr.get ((i, v) :: r) t = if i = t then some v else Fr.get r t := by
  show (if Nat.beq i t = true then some v else Fr.get r t) = _
  simp only [beq_iff]
theorem Fr.put_cons (i : Nat) (u : V) (r : Fr) (t : Nat) (v : V) : Fr.put t v ((i, u) :: r) = if i = t then (i, v) :: r else (i, u) :: Fr.put t v r := by
  show (if Nat.beq i t = true then (i, v) :: r else (i, u) :: Fr.put t v r) = _
  simp only [beq_iff]

theorem Fr.get_put (t : Nat) (v : V) (fr : Fr) : (Fr.put t v fr).get = Fm.put fr.get (some t) v := by
  funext x
  induction fr with
  | nil =>
    show Fr.get [(t, v)] x = if x = t then some v else none
    rw [Fr.get_cons]
    by_cases h : t = x
    · subst h; simp
    · rw [if_neg h, if_neg (fun e => h e.symm)]; rfl
  | cons p r ih =>
    obtain ⟨i, u⟩ := p
    simp only [Fm.put] at ih ⊢
    rw [Fr.put_cons]
    by_cases hi : i = t
    · subst hi
      rw [if_pos rfl, Fr.get_cons, Fr.get_cons]
      by_cases hx : i = x
      · subst hx; simp
      · rw [if_neg hx, if_neg (fun e => hx e.symm), if_neg hx]
    · rw [if_neg hi, Fr.get_cons, Fr.get_cons, ih]
      by_cases hx : i = x
      · subst hx; simp [hi]
      · simp [hx]

def bytesOf (s : ByteArray) : List (BitVec 8) := s.data.toList.map UInt8.toBitVec

def V.cells : V → List V
  | .agg cs => cs
  | v => [v]

def Blk.len : Blk → Nat
  | .dead => 0
  | .b8 xs => xs.length
  | .b64 xs => xs.length
  | .ints xs => xs.length
  | .vals cs => cs.length

def Blk.at (b : Blk) (o : Nat) : V :=
  match b with
  | .dead => .any
  | .b8 xs => .u8 (xs.getD o 0)
  | .b64 xs => .u64 (xs.getD o 0)
  | .ints xs => .int .i64 (xs.getD o 0)
  | .vals cs => cs.getD o .any

/-- where a local block lies: its block, its first cell there, how many cells there are from there on -/
structure Loc where
  b : Nat
  d : Nat
  room : Nat

abbrev Ren := Nat → Option Loc

mutual
inductive VRel (I : Nat → Prop) (w : World) : Ren → V → Value → Prop where
  | any (ρ : Ren) (v : Value) : VRel I w ρ .any v
  | u8 (ρ : Ren) (x : BitVec 8) : VRel I w ρ (.u8 x) (.int .u8 x.toNat)
  | u16 (ρ : Ren) (x : BitVec 16) : VRel I w ρ (.u16 x) (.int .u16 x.toNat)
  | u32 (ρ : Ren) (x : BitVec 32) : VRel I w ρ (.u32 x) (.int .u32 x.toNat)
  | u64 (ρ : Ren) (x : BitVec 64) : VRel I w ρ (.u64 x) (.int .u64 x.toNat)
  | int (ρ : Ren) (k : IntKind) (n : Int) (hk : k.signed = true) : VRel I w ρ (.int k n) (.int k n)
  | bool (ρ : Ren) (b : Bool) : VRel I w ρ (.bool b) (.bool b)
  | str (ρ : Ren) (s : ByteArray) : VRel I w ρ (.str (bytesOf s)) (.string s)
  | ptr (ρ : Ren) (i o : Nat) (l : Loc) (h : ρ i = some l) : VRel I w ρ (.ptr i o) (.pointer (some ⟨l.b, l.d + o, none⟩))
  | nilPtr (ρ : Ren) : VRel I w ρ .nilPtr (.pointer none)
  | sl (ρ : Ren) (i o s len : Nat) (cap : Option Nat) (c : Nat) (l : Loc) (h : ρ i = some l) (h1 : len ≤ c) (h2 : o + c * s ≤ l.room) (h3 : ∀ n, cap = some n → n = c) :
      VRel I w ρ (.sl i o s len cap) (.slice (some ⟨l.b, l.d + o, none⟩) len c)
  | slz (ρ : Ren) (i o s : Nat) (cap : Option Nat) (y : Nat) (l : Loc) (h : ρ i = some l) (h3 : ∀ n, cap = some n → n = 0) :
      VRel I w ρ (.sl i o s 0 cap) (.slice (some ⟨l.b, y, none⟩) 0 0)
  | nilSl (ρ : Ren) : VRel I w ρ .nilSl (.slice none 0 0)
  | isl (ρ : Ren) (s len : Nat) (f : Nat → Nat → V) (b o c : Nat) (g : Nat → Nat → Value) (hI : I b) (hc : len ≤ c)
      (hw : ∀ i j, i < len → j < s → w.cell? ⟨b, o + i * s + j, none⟩ = some (g i j))
      (hv : ∀ i j, i < len → j < s → VRel I w (fun _ => none) (f i j) (g i j)) :
      VRel I w ρ (.isl s len f) (.slice (some ⟨b, o, none⟩) len c)
  | iptr (ρ : Ren) (s len : Nat) (f : Nat → Nat → V) (b o i j : Nat) (g : Nat → Nat → Value) (hI : I b)
      (hw : ∀ i j, i < len → j < s → w.cell? ⟨b, o + i * s + j, none⟩ = some (g i j))
      (hv : ∀ i j, i < len → j < s → VRel I w (fun _ => none) (f i j) (g i j)) :
      VRel I w ρ (.iptr s len f i j) (.pointer (some ⟨b, o + i * s + j, none⟩))
  | fn (ρ : Ren) (f : FuncId) (a b : List V) (a' b' : List Value) (ha : VsRel I w ρ a a') (hb : VsRel I w ρ b b') : VRel I w ρ (.fn f a b) (.func (.func f) ⟨a'⟩ ⟨b'⟩)
  | nilFn (ρ : Ren) : VRel I w ρ .nilFn .nilFunc
  | agg (ρ : Ren) (cs : List V) (cs' : List Value) (h : VsRel I w ρ cs cs') : VRel I w ρ (.agg cs) (.agg ⟨cs'⟩)
  | tup (ρ : Ren) (cs : List V) (cs' : List Value) (h : VsRel I w ρ cs cs') : VRel I w ρ (.tup cs) (.tuple ⟨cs'⟩)
  | iface (ρ : Ren) (t : TypeId) (v : V) (v' : Value) (h : VRel I w ρ v v') : VRel I w ρ (.iface t v) (.iface t v')
  | nilIface (ρ : Ren) : VRel I w ρ .nilIface .nilIface
inductive VsRel (I : Nat → Prop) (w : World) : Ren → List V → List Value → Prop where
  | nil (ρ : Ren) : VsRel I w ρ [] []
  | cons (ρ : Ren) (v : V) (v' : Value) (r : List V) (r' : List Value) (h : VRel I w ρ v v') (hr : VsRel I w ρ r r') : VsRel I w ρ (v :: r) (v' :: r')
end

/-- further: more is known of addresses, more memory stands still, and that which stood still stands -/
structure Le (ρ : Ren) (I : Nat → Prop) (w : World) (ρ' : Ren) (I' : Nat → Prop) (w' : World) : Prop where
  ren : ∀ i l, ρ i = some l → ρ' i = some l
  imm : ∀ b, I b → I' b
  mem : ∀ b, I b → w'.heap[b]? = w.heap[b]?

theorem Le.refl (ρ : Ren) (I : Nat → Prop) (w : World) : Le ρ I w ρ I w := ⟨fun _ _ h => h, fun _ h => h, fun _ _ => rfl⟩

theorem cell_of_heap {w w' : World} {b : Nat} (h : w'.heap[b]? = w.heap[b]?) (o : Nat) : w'.cell? ⟨b, o, none⟩ = w.cell? ⟨b, o, none⟩ := by
  simp only [World.cell?]; rw [h]

mutual
theorem VRel.mono {I I' : Nat → Prop} {w w' : World} (hI : ∀ b, I b → I' b) (hm : ∀ b, I b → w'.heap[b]? = w.heap[b]?) {ρ : Ren} {v : V} {v' : Value} (h : VRel I w ρ v v') :
    ∀ ρ' : Ren, (∀ i l, ρ i = some l → ρ' i = some l) → VRel I' w' ρ' v v' := by
  intro ρ' hr
  cases h with
  | any => exact .any _ _
  | u8 => exact .u8 _ _
  | u16 => exact .u16 _ _
  | u32 => exact .u32 _ _
  | u64 => exact .u64 _ _
  | int _ _ _ hk => exact .int _ _ _ hk
  | bool => exact .bool _ _
  | str => exact .str _ _
  | ptr _ i o l h => exact .ptr _ _ _ _ (hr _ _ h)
  | nilPtr => exact .nilPtr _
  | sl _ i o s len cap c l h h1 h2 h3 => exact .sl _ _ _ _ _ _ _ _ (hr _ _ h) h1 h2 h3
  | slz _ i o s cap y l h h3 => exact .slz _ _ _ _ _ _ _ (hr _ _ h) h3
  | nilSl => exact .nilSl _
  | isl _ s len f b o c g hI' hc hw hv =>
    exact .isl _ s len f b o c g (hI _ hI') hc (fun i j hi hj => by rw [cell_of_heap (hm _ hI')]; exact hw i j hi hj) (fun i j hi hj => (hv i j hi hj).mono hI hm _ (fun _ _ h => h))
  | iptr _ s len f b o i j g hI' hw hv =>
    exact .iptr _ s len f b o i j g (hI _ hI') (fun i j hi hj => by rw [cell_of_heap (hm _ hI')]; exact hw i j hi hj) (fun i j hi hj => (hv i j hi hj).mono hI hm _ (fun _ _ h => h))
  | fn _ f a b a' b' ha hb => exact .fn _ _ _ _ _ _ (ha.mono hI hm _ hr) (hb.mono hI hm _ hr)
  | nilFn => exact .nilFn _
  | agg _ cs cs' h => exact .agg _ _ _ (h.mono hI hm _ hr)
  | tup _ cs cs' h => exact .tup _ _ _ (h.mono hI hm _ hr)
  | iface _ t v v' h => exact .iface _ _ _ _ (h.mono hI hm _ hr)
  | nilIface => exact .nilIface _
theorem VsRel.mono {I I' : Nat → Prop} {w w' : World} (hI : ∀ b, I b → I' b) (hm : ∀ b, I b → w'.heap[b]? = w.heap[b]?) {ρ : Ren} {v : List V} {v' : List Value} (h : VsRel I w ρ v v') :
    ∀ ρ' : Ren, (∀ i l, ρ i = some l → ρ' i = some l) → VsRel I' w' ρ' v v' := by
  intro ρ' hr
  cases h with
  | nil => exact .nil _
  | cons _ v v' r r' h hr' => exact .cons _ _ _ _ _ (h.mono hI hm _ hr) (hr'.mono hI hm _ hr)
end

theorem VRel.le {ρ ρ' : Ren} {I I' : Nat → Prop} {w w' : World} (L : Le ρ I w ρ' I' w') {v : V} {v' : Value} (h : VRel I w ρ v v') : VRel I' w' ρ' v v' := h.mono L.imm L.mem _ L.ren
theorem VsRel.le {ρ ρ' : Ren} {I I' : Nat → Prop} {w w' : World} (L : Le ρ I w ρ' I' w') {v : List V} {v' : List Value} (h : VsRel I w ρ v v') : VsRel I' w' ρ' v v' := h.mono L.imm L.mem _ L.ren

theorem VsRel.length {I : Nat → Prop} {w : World} {ρ : Ren} : ∀ {v : List V} {v' : List Value}, VsRel I w ρ v v' → v.length = v'.length
  | [], _, h => by cases h; rfl
  | _ :: r, _, h => by cases h with | cons _ _ _ _ _ _ hr => simp [hr.length]

theorem VsRel.get {I : Nat → Prop} {w : World} {ρ : Ren} : ∀ {v : List V} {v' : List Value}, VsRel I w ρ v v' → ∀ (n : Nat) (x : V), v[n]? = some x → ∃ x', v'[n]? = some x' ∧ VRel I w ρ x x'
  | [], _, _, n, x, hx => by simp at hx
  | a :: r, _, h, n, x, hx => by
    cases h with
    | cons _ _ v' _ r' h hr =>
      cases n with
      | zero => simp at hx; subst hx; exact ⟨v', rfl, h⟩
      | succ n => simp at hx; simpa using hr.get n x hx

theorem VsRel.append {I : Nat → Prop} {w : World} {ρ : Ren} {b : List V} {b' : List Value} (hb : VsRel I w ρ b b') : ∀ {a : List V} {a' : List Value}, VsRel I w ρ a a' → VsRel I w ρ (a ++ b) (a' ++ b')
  | [], _, h => by cases h; exact hb
  | _ :: _, _, h => by cases h with | cons _ _ _ _ _ h hr => exact .cons _ _ _ _ _ h (VsRel.append hb hr)

theorem VsRel.of_get {I : Nat → Prop} {w : World} {ρ : Ren} : ∀ {v : List V} {v' : List Value}, v.length = v'.length → (∀ (n : Nat) (x : V) (x' : Value), v[n]? = some x → v'[n]? = some x' → VRel I w ρ x x') → VsRel I w ρ v v'
  | [], [], _, _ => .nil _
  | [], _ :: _, h, _ => by simp at h
  | _ :: _, [], h, _ => by simp at h
  | x :: r, y :: s, h, H => .cons _ _ _ _ _ (H 0 x y rfl rfl) (.of_get (by simpa using h) (fun n a b ha hb => H (n + 1) a b (by simpa using ha) (by simpa using hb)))

/-- a block of a local heap lies there -/
structure BRel (I : Nat → Prop) (w : World) (ρ : Ren) (l : Loc) (b : Blk) : Prop where
  mem : ∃ C e fz, w.heap[l.b]? = some (.cells C e fz) ∧ C.size = l.d + l.room ∧ (∀ o, o < l.room → ¬ (fz.1 ≤ l.d + o ∧ l.d + o < fz.2)) ∧
    ∀ o, o < b.len → ∃ c, C[l.d + o]? = some c ∧ VRel I w ρ (b.at o) c
  fits : b.len ≤ l.room

/-- the local heap, and the numbers that are still free -/
structure Rel (ρ : Ren) (I : Nat → Prop) (w : World) (h : Heap) (F : Nat → Prop) : Prop where
  blk : ∀ (i : Nat) (b : Blk), h[i]? = some b → b ≠ .dead → ∃ l, ρ i = some l ∧ BRel I w ρ l b ∧ ¬ I l.b
  free : ∀ i, F i → ρ i = none
  out : ∀ i, h.length ≤ i → ρ i = none
  apart : ∀ (i j : Nat) (x y : Blk) (l l' : Loc), i ≠ j → h[i]? = some x → x ≠ .dead → h[j]? = some y → y ≠ .dead → ρ i = some l → ρ j = some l' → l.b ≠ l'.b
  lt : ∀ b, I b → b < w.heap.size

def Own (ρ : Ren) (h : Heap) (b : Nat) : Prop := ∃ i x l, h[i]? = some x ∧ x ≠ Blk.dead ∧ ρ i = some l ∧ l.b = b

/-- what a stretch of a run does to the world -/
structure Went (ρ : Ren) (I : Nat → Prop) (w : World) (h : Heap) (ρ' : Ren) (I' : Nat → Prop) (w' : World) (h' : Heap) : Prop where
  ren : ∀ i l, ρ i = some l → ρ' i = some l
  imm : ∀ b, I b → I' b
  os : w'.os = w.os
  tape : w'.tape = w.tape
  output : w'.output = w.output
  size : w.heap.size ≤ w'.heap.size
  keep : ∀ b, b < w.heap.size → ¬ Own ρ h b → w'.heap[b]? = w.heap[b]?
  own : ∀ b, Own ρ' h' b → Own ρ h b ∨ w.heap.size ≤ b
  fresh : ∀ b, I' b → I b ∨ Own ρ h b ∨ w.heap.size ≤ b

theorem Went.refl (ρ : Ren) (I : Nat → Prop) (w : World) (h : Heap) : Went ρ I w h ρ I w h :=
  ⟨fun _ _ h => h, fun _ h => h, rfl, rfl, rfl, Nat.le_refl _, fun _ _ _ => rfl, fun _ h => .inl h, fun _ h => .inl h⟩

theorem Went.trans {ρ₁ ρ₂ ρ₃ : Ren} {I₁ I₂ I₃ : Nat → Prop} {w₁ w₂ w₃ : World} {h₁ h₂ h₃ : Heap} (a : Went ρ₁ I₁ w₁ h₁ ρ₂ I₂ w₂ h₂) (b : Went ρ₂ I₂ w₂ h₂ ρ₃ I₃ w₃ h₃) : Went ρ₁ I₁ w₁ h₁ ρ₃ I₃ w₃ h₃ where
  ren i l h := b.ren i l (a.ren i l h)
  imm x h := b.imm x (a.imm x h)
  os := b.os.trans a.os
  tape := b.tape.trans a.tape
  output := b.output.trans a.output
  size := Nat.le_trans a.size b.size
  keep x hx hn := by
    rw [b.keep x (Nat.lt_of_lt_of_le hx a.size) (fun ho => (a.own x ho).elim hn (fun h => by omega))]
    exact a.keep x hx hn
  own x hx := by
    rcases b.own x hx with h | h
    · exact a.own x h
    · exact .inr (Nat.le_trans a.size h)
  fresh x hx := by
    rcases b.fresh x hx with h | h | h
    · exact a.fresh x h
    · rcases a.own x h with h | h
      · exact .inr (.inl h)
      · exact .inr (.inr h)
    · exact .inr (.inr (Nat.le_trans a.size h))

theorem Rel.not_own {ρ : Ren} {I : Nat → Prop} {w : World} {h : Heap} {F : Nat → Prop} (R : Rel ρ I w h F) {b : Nat} (hb : I b) : ¬ Own ρ h b := by
  rintro ⟨i, x, l, hx, hd, hl, rfl⟩
  obtain ⟨l', hl', _, hn⟩ := R.blk i x hx hd
  rw [hl] at hl'
  cases hl'
  exact hn hb

theorem Went.le {ρ ρ' : Ren} {I I' : Nat → Prop} {w w' : World} {h h' : Heap} {F : Nat → Prop} (a : Went ρ I w h ρ' I' w' h') (R : Rel ρ I w h F) : Le ρ I w ρ' I' w' :=
  ⟨a.ren, a.imm, fun b hb => a.keep b (R.lt b hb) (R.not_own hb)⟩

end Go.Lh
