/- Operations together; calls of functions by what is known of them. -/
import Derived.Test.YtajbaocfdlopbaaLhQ
set_option linter.unusedSimpArgs false
set_option linter.unusedVariables false
namespace Go.Lh

def stepN (P : Program) (idx : Nat) (g : Fm) (h : Heap) (op : Op) : Res :=
  match stepT P g op with
  | some (k, v) => some (k, v, h)
  | none => stepH P idx g h op

section
variable {P : Program} {w : World} {I : Nat → Prop} {ρ : Ren} {h : Heap} {F : Nat → Prop} {idx : Nat} {a : Act} {o : Oper} {g : Fm}

theorem stepN_sound (R : Rel ρ I w h F) (FR : FRel I w ρ g a) (hmk : Op.makes P o.op = true → F idx ∧ h[idx]? = some .dead) {v : V} {h' : Heap}
    (hs : stepN P idx g h o.op = some (true, v, h')) : Did P a o ρ I w h F idx v h' := by
  unfold stepN at hs
  split at hs
  · rename_i k u hT
    simp at hs
    obtain ⟨rfl, rfl, rfl⟩ := hs
    obtain ⟨v', e1, e2⟩ := stepT_sound (P := P) FR hT
    exact Did.quiet R e1 e2
  · have hs0 := hs
    cases ho : o.op <;> rw [ho] at hs <;> try (simp only [stepH, reduceCtorEq] at hs; done)
    case alloc e => have := hmk (by rw [ho]; rfl); exact alloc_sound R this.1 this.2 ho hs0
    case box e x => have := hmk (by rw [ho]; rfl); exact box_sound R FR this.1 this.2 ho hs0
    case load t x => exact load_sound R FR ho hs0
    case store t x y => exact store_sound R FR ho hs0
    case slice t x lo hi mx =>
      cases mx with
      | none => exact arrSlice_sound R FR ho hs0
      | some _ => simp [stepH] at hs
    case buildSlice t len parts => have := hmk (by rw [ho]; rfl); exact buildSlice_sound R FR this.1 this.2 ho hs0
    case makeSlice t l c => have := hmk (by rw [ho]; rfl); exact makeSlice_sound R FR this.1 this.2 ho hs0
    case convert src dst x =>
      cases hm : Op.makes P o.op with
      | true => have := hmk hm; exact toBytes_sound R FR this.1 this.2 ho hs0 hm
      | false => exact toText_sound R FR ho hs0 hm
    case call c =>
      obtain ⟨cal, args, ts⟩ := c
      cases cal with
      | value _ => simp [stepH] at hs
      | invoke _ _ => simp [stepH] at hs
      | builtin b =>
        cases b <;> try (simp only [stepH, reduceCtorEq] at hs; done)
        case append => have := hmk (by rw [ho]; rfl); exact append_sound R FR this.1 this.2 ho hs0
        case copy => exact copy_sound R FR ho hs0
end

/-! ### renaming -/

mutual
def renV (τ : Nat → Option Nat) : V → Option V
  | .ptr i o => (match τ i with | some k => some (.ptr k o) | none => none)
  | .sl i o s len cap => (match τ i with | some k => some (.sl k o s len cap) | none => none)
  | .fn f a b => (match renVs τ a, renVs τ b with | some a', some b' => some (.fn f a' b') | _, _ => none)
  | .agg cs => (match renVs τ cs with | some l => some (.agg l) | none => none)
  | .tup cs => (match renVs τ cs with | some l => some (.tup l) | none => none)
  | .iface t v => (match renV τ v with | some u => some (.iface t u) | none => none)
  | .any => some .any
  | .u8 x => some (.u8 x)
  | .u16 x => some (.u16 x)
  | .u32 x => some (.u32 x)
  | .u64 x => some (.u64 x)
  | .int k n => some (.int k n)
  | .bool b => some (.bool b)
  | .str s => some (.str s)
  | .nilPtr => some .nilPtr
  | .nilSl => some .nilSl
  | .isl s len f => some (.isl s len f)
  | .iptr s len f i j => some (.iptr s len f i j)
  | .nilFn => some .nilFn
  | .nilIface => some .nilIface
def renVs (τ : Nat → Option Nat) : List V → Option (List V)
  | [] => some []
  | v :: r => (match renV τ v, renVs τ r with | some u, some l => some (u :: l) | _, _ => none)
end

mutual
theorem renV_sound {I : Nat → Prop} {w : World} {τ : Nat → Option Nat} {ρ ρ₂ : Ren} (hτ : ∀ i k l, τ i = some k → ρ i = some l → ρ₂ k = some l) :
    ∀ {v : V} {v' : Value} {u : V}, VRel I w ρ v v' → renV τ v = some u → VRel I w ρ₂ u v'
  | .any, _, u, _, h => by rw [renV] at h; cases h; exact .any _ _
  | .u8 _, _, u, hv, h => by rw [renV] at h; cases h; cases hv; exact .u8 _ _
  | .u16 _, _, u, hv, h => by rw [renV] at h; cases h; cases hv; exact .u16 _ _
  | .u32 _, _, u, hv, h => by rw [renV] at h; cases h; cases hv; exact .u32 _ _
  | .u64 _, _, u, hv, h => by rw [renV] at h; cases h; cases hv; exact .u64 _ _
  | .int _ _, _, u, hv, h => by rw [renV] at h; cases h; cases hv with | int _ _ _ hk => exact .int _ _ _ hk
  | .bool _, _, u, hv, h => by rw [renV] at h; cases h; cases hv; exact .bool _ _
  | .str _, _, u, hv, h => by rw [renV] at h; cases h; cases hv; exact .str _ _
  | .ptr i o, _, u, hv, h => by
    rw [renV] at h
    split at h <;> cases h
    rename_i k hk
    cases hv with | ptr _ _ _ l hl => exact .ptr _ _ _ _ (hτ _ _ _ hk hl)
  | .nilPtr, _, u, hv, h => by rw [renV] at h; cases h; cases hv; exact .nilPtr _
  | .sl i o s len cap, _, u, hv, h => by
    rw [renV] at h
    split at h <;> cases h
    rename_i k hk
    cases hv with
    | sl _ _ _ _ _ _ c l hl h1 h2 h3 => exact .sl _ _ _ _ _ _ _ _ (hτ _ _ _ hk hl) h1 h2 h3
    | slz _ _ _ _ _ y l hl h3 => exact .slz _ _ _ _ _ _ _ (hτ _ _ _ hk hl) h3
  | .nilSl, _, u, hv, h => by rw [renV] at h; cases h; cases hv; exact .nilSl _
  | .isl _ _ _, _, u, hv, h => by rw [renV] at h; cases h; cases hv with | isl _ _ _ _ b o c g hI hc hw hv => exact .isl _ _ _ _ b o c g hI hc hw hv
  | .iptr _ _ _ _ _, _, u, hv, h => by rw [renV] at h; cases h; cases hv with | iptr _ _ _ _ b o _ _ g hI hw hv => exact .iptr _ _ _ _ b o _ _ g hI hw hv
  | .fn f a b, _, u, hv, h => by
    rw [renV] at h
    split at h <;> cases h
    rename_i a' b' ha hb
    cases hv with | fn _ _ _ _ _ _ h1 h2 => exact .fn _ _ _ _ _ _ (renVs_sound hτ h1 ha) (renVs_sound hτ h2 hb)
  | .nilFn, _, u, hv, h => by rw [renV] at h; cases h; cases hv; exact .nilFn _
  | .agg cs, _, u, hv, h => by
    rw [renV] at h
    split at h <;> cases h
    rename_i l hl
    cases hv with | agg _ _ _ h1 => exact .agg _ _ _ (renVs_sound hτ h1 hl)
  | .tup cs, _, u, hv, h => by
    rw [renV] at h
    split at h <;> cases h
    rename_i l hl
    cases hv with | tup _ _ _ h1 => exact .tup _ _ _ (renVs_sound hτ h1 hl)
  | .iface t v, _, u, hv, h => by
    rw [renV] at h
    split at h <;> cases h
    rename_i l hl
    cases hv with | iface _ _ _ _ h1 => exact .iface _ _ _ _ (renV_sound hτ h1 hl)
  | .nilIface, _, u, hv, h => by rw [renV] at h; cases h; cases hv; exact .nilIface _
theorem renVs_sound {I : Nat → Prop} {w : World} {τ : Nat → Option Nat} {ρ ρ₂ : Ren} (hτ : ∀ i k l, τ i = some k → ρ i = some l → ρ₂ k = some l) :
    ∀ {v : List V} {v' : List Value} {u : List V}, VsRel I w ρ v v' → renVs τ v = some u → VsRel I w ρ₂ u v'
  | [], _, u, hv, h => by rw [renVs] at h; cases h; cases hv; exact .nil _
  | v :: r, _, u, hv, h => by
    rw [renVs] at h
    split at h <;> cases h
    rename_i a b ha hb
    cases hv with | cons _ _ _ _ _ h1 h2 => exact .cons _ _ _ _ _ (renV_sound hτ h1 ha) (renVs_sound hτ h2 hb)
end

theorem renVs_get {τ : Nat → Option Nat} : ∀ {cs : List V} {l : List V}, renVs τ cs = some l → l.length = cs.length ∧ ∀ k, k < cs.length → renV τ (cs.getD k .any) = some (l.getD k .any)
  | [], l, h => by rw [renVs] at h; cases h; simp
  | v :: r, l, h => by
    rw [renVs] at h
    split at h <;> cases h
    rename_i a b ha hb
    obtain ⟨h1, h2⟩ := renVs_get hb
    refine ⟨by simp [h1], fun k hk => ?_⟩
    cases k with
    | zero => simpa using ha
    | succ k => simpa using h2 k (by simpa using hk)

def renB (τ : Nat → Option Nat) : Blk → Option Blk
  | .vals cs => (match renVs τ cs with | some l => some (.vals l) | none => none)
  | .dead => some .dead
  | .b8 xs => some (.b8 xs)
  | .b64 xs => some (.b64 xs)
  | .ints xs => some (.ints xs)

theorem renB_at {τ : Nat → Option Nat} {b b' : Blk} (h : renB τ b = some b') : b'.len = b.len ∧ (b' = .dead ↔ b = .dead) ∧ ∀ k, k < b.len → renV τ (b.at k) = some (b'.at k) := by
  cases b <;> simp only [renB] at h
  case vals cs =>
    split at h <;> cases h
    rename_i l hl
    obtain ⟨h1, h2⟩ := renVs_get hl
    exact ⟨h1, by simp, h2⟩
  all_goals (cases h; exact ⟨rfl, by simp, fun k _ => by simp [Blk.at, renV]⟩)

theorem renB_sound {I : Nat → Prop} {w : World} {τ : Nat → Option Nat} {ρ ρ₂ : Ren} (hτ : ∀ i k l, τ i = some k → ρ i = some l → ρ₂ k = some l) {b b' : Blk} {l : Loc} (h : renB τ b = some b') (hb : BRel I w ρ l b) : BRel I w ρ₂ l b' := by
  obtain ⟨h1, _, h2⟩ := renB_at h
  obtain ⟨C, e, fz, m1, m2, m3, m4⟩ := hb.mem
  refine ⟨⟨C, e, fz, m1, m2, m3, fun o ho => ?_⟩, by rw [h1]; exact hb.fits⟩
  rw [h1] at ho
  obtain ⟨c, hc, hr⟩ := m4 o ho
  exact ⟨c, hc, renV_sound hτ hr (h2 o ho)⟩

/-! ### calls -/

def FinRel (I : Nat → Prop) (w : World) (ρ : Ren) (f : Fin) (e : Ending) : Prop :=
  match f with
  | .ret v => ∃ v', e = .returned v' ∧ VRel I w ρ v v'
  | .pan v => ∃ v', e = .panicked [{ v := v', recovered := false }] ∧ VRel I w ρ v v'

/-- A call of f at these values and this heap comes to f's end, and leaves the heap h'. -/
def LFn (P : Program) (f : FuncId) (args : List V) (h : Heap) (fin : Fin) (h' : Heap) : Prop :=
  ∀ (ρ : Ren) (I : Nat → Prop) (w : World) (args' : List Value), Rel ρ I w h (fun i => h.length ≤ i) → VsRel I w ρ args args' →
    Calls P f ⟨args'⟩ w fun e w' => ∃ ρ' I', Rel ρ' I' w' h' (fun i => h'.length ≤ i) ∧ Went ρ I w h ρ' I' w' h' ∧ FinRel I' w' ρ' fin e

abbrev Oracle := FuncId → List V → Heap → Option (Bool × Fin × Heap)

def OSound (P : Program) (O : Oracle) : Prop := ∀ f args h fin h', O f args h = some (true, fin, h') → LFn P f args h fin h'

mutual
def refsV : V → List Nat
  | .ptr i _ => [i]
  | .sl i _ _ _ _ => [i]
  | .fn _ a b => refsVs a ++ refsVs b
  | .agg cs => refsVs cs
  | .tup cs => refsVs cs
  | .iface _ v => refsV v
  | _ => []
def refsVs : List V → List Nat
  | [] => []
  | v :: r => refsV v ++ refsVs r
end

def refsB : Blk → List Nat
  | .vals cs => refsVs cs
  | _ => []

def memN (i : Nat) : List Nat → Bool
  | [] => false
  | j :: r => if Nat.beq j i then true else memN i r

/-- the blocks that one comes to from these -/
def reach (h : Heap) : Nat → List Nat → List Nat → List Nat
  | 0, _, acc => acc
  | _ + 1, [], acc => acc
  | fuel + 1, i :: todo, acc => if memN i acc then reach h fuel todo acc else match h[i]? with
    | some b => reach h fuel (refsB b ++ todo) (acc ++ [i])
    | none => reach h fuel todo acc

theorem memN_iff (i : Nat) : ∀ l : List Nat, memN i l = true ↔ i ∈ l
  | [] => by simp [memN]
  | j :: r => by
    simp only [memN, beq_iff, List.mem_cons]
    by_cases h : j = i
    · subst h; simp
    · rw [if_neg h, memN_iff i r]
      constructor
      · exact .inr
      · rintro (e | e); exact absurd e.symm h; exact e

theorem reach_nodup (h : Heap) : ∀ (fuel : Nat) (todo acc : List Nat), acc.Nodup → (reach h fuel todo acc).Nodup
  | 0, _, _, ha => ha
  | _ + 1, [], _, ha => ha
  | fuel + 1, i :: todo, acc, ha => by
    simp only [reach]
    split
    · exact reach_nodup h fuel _ _ ha
    · rename_i hm
      split
      · refine reach_nodup h fuel _ _ ?_
        rw [List.nodup_append]
        refine ⟨ha, by simp, fun a hA b hB => ?_⟩
        simp at hB; subst hB
        rintro rfl
        exact hm ((memN_iff _ _).2 hA)
      · exact reach_nodup h fuel _ _ ha

def posOf (l : List Nat) (i : Nat) : Option Nat :=
  match l with
  | [] => none
  | j :: r => if Nat.beq j i then some 0 else match posOf r i with | some k => some (k + 1) | none => none

theorem posOf_get : ∀ {l : List Nat} {i k : Nat}, posOf l i = some k → l[k]? = some i
  | [], i, k, h => by simp [posOf] at h
  | j :: r, i, k, h => by
    simp only [posOf, beq_iff] at h
    split at h
    · rename_i e; cases h; simp [e]
    · split at h <;> cases h
      rename_i m hm
      simpa using posOf_get hm

def subHeap (h : Heap) (τ : Nat → Option Nat) : List Nat → Option Heap
  | [] => some []
  | i :: r => match h[i]?, subHeap h τ r with
    | some b, some l => if isDead b then none else (match renB τ b with | some b' => some (b' :: l) | none => none)
    | _, _ => none

def backT (rd : List Nat) (n : Nat) (k : Nat) : Option Nat := if k < rd.length then rd[k]? else some (n + (k - rd.length))

def renBs (τ : Nat → Option Nat) : Heap → Option Heap
  | [] => some []
  | b :: r => match renB τ b, renBs τ r with
    | some b', some l => some (b' :: l)
    | _, _ => none

def setAll (h : Heap) : List Nat → List Blk → Heap
  | i :: r, b :: s => setAll (h.set i b) r s
  | _, _ => h

def renFin (τ : Nat → Option Nat) : Fin → Option Fin
  | .ret v => (match renV τ v with | some u => some (.ret u) | none => none)
  | .pan v => (match renV τ v with | some u => some (.pan u) | none => none)

/-- a call, by what the oracle says of it at what it can reach -/
def callO (O : Oracle) (f : FuncId) (args : List V) (h : Heap) : Option (Bool × Fin × Heap) :=
  let rd := reach h 100 (refsVs args) []
  match renVs (posOf rd) args, subHeap h (posOf rd) rd with
  | some args', some hs => (match O f args' hs with
    | some (k, fin, hs') => if rd.length ≤ hs'.length then
        (match renFin (backT rd h.length) fin, renBs (backT rd h.length) hs' with
        | some fin', some l => some (k, fin', setAll h rd (l.take rd.length) ++ l.drop rd.length)
        | _, _ => none) else none
    | none => none)
  | _, _ => none

end Go.Lh
