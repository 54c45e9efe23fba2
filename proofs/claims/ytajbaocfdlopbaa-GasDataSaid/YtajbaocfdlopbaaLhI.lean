/- One operation that does not touch the local heap is sound. -/
import Derived.Test.YtajbaocfdlopbaaLhH
set_option linter.unusedSimpArgs false
set_option linter.unusedVariables false
namespace Go.Lh
section
variable {P : Program} {w : World} {I : Nat → Prop} {ρ : Ren}

theorem add_eq (b o n : Nat) : Addr.add ⟨b, o, none⟩ n = ⟨b, o + n, none⟩ := by
  unfold Addr.add
  split
  · rename_i h; subst h; rfl
  · rfl

theorem bytesOf_extract (s : ByteArray) (l u : Nat) (_ : u ≤ s.size) : bytesOf (s.extract l u) = ((bytesOf s).take u).drop l := by
  unfold bytesOf
  rw [ByteArray.data_extract]
  simp only [Array.toList_extract, List.extract_eq_take_drop, List.map_take, List.map_drop]
  rw [List.drop_take]

theorem optIx_sound {g : Fm} {a : Act} (F : FRel I w ρ g a) {y : Operand} {d n : Int} (h : optIx g (some y) d = some n) : ∃ k, a.eval y = .int k n := by
  simp only [optIx] at h
  cases hv : opnd g y with
  | none => simp [hv] at h
  | some v => simp only [hv] at h; exact asIx_sound (opnd_sound F hv) h

/-- what a bound that is told, or not, stands for -/
def BdEq (lo : Option Value) (n d : Int) : Prop := match lo with
  | none => n = d
  | some v => ∃ k, v = .int k n

theorem sliceBounds_run {isSlice : Bool} {len cap : Nat} {lo hi : Option Value} {l u : Int}
    (hlo : BdEq lo l 0) (hhi : BdEq hi u len) (h0 : 0 ≤ l) (h1 : l ≤ u) (h2 : u ≤ cap) :
    (Instr.sliceBounds isSlice len cap lo hi none).run P w = .ok (l.toNat, u.toNat, cap) w := by
  have bound : ∀ (k : IntKind) (i : Int) (y : Nat) (c : BoundsCode), 0 ≤ i → i ≤ y → (Instr.sliceBound (.int k i) y c).run P w = .ok i.toNat w := by
    intro k i y c ha hb
    have : 0 ≤ i ∧ i ≤ (y : Int) := ⟨ha, hb⟩
    simp [Instr.sliceBound, asIntOf, this]
  unfold Instr.sliceBounds
  cases hi with
  | none =>
    simp only [BdEq] at hhi
    subst hhi
    cases lo with
    | none => simp only [BdEq] at hlo; subst hlo; simp
    | some v =>
      obtain ⟨k, rfl⟩ := hlo
      simp only [Sem.run_bind, Sem.run_pure, Result.andThen_ok]
      rw [bound k l _ _ h0 (by omega)]
      simp
  | some v =>
    obtain ⟨k, rfl⟩ := hhi
    simp only [Sem.run_bind, Sem.run_pure, Result.andThen_ok]
    rw [bound k u _ _ (by omega) h2]
    cases lo with
    | none => simp only [BdEq] at hlo; subst hlo; simp
    | some v =>
      obtain ⟨k', rfl⟩ := hlo
      simp only [Result.andThen_ok, Sem.run_bind]
      rw [bound k' l _ _ h0 (by omega)]
      simp

/-- what a bound that is told, or not, stands for -/
def Bd (lo : Option Value) (l : Option Int) : Prop := match lo, l with
  | none, none => True
  | some v, some n => ∃ k, v = .int k n
  | _, _ => False

theorem Bd.eq {lo : Option Value} {l : Option Int} (h : Bd lo l) (d : Int) : BdEq lo (l.getD d) d := by
  cases lo <;> cases l <;> simp only [Bd] at h
  · rfl
  · exact h

theorem sliceT_sound {t : TypeId} {x z : V} {x' : Value} {lo hi : Option Value} {l u : Option Int} (hx : VRel I w ρ x x') (hl : Bd lo l) (hu : Bd hi u) (h : sliceT P t x l u = some (true, z)) :
    ∃ z', (Instr.slice t x' lo hi none).run P w = .ok z' w ∧ VRel I w ρ z z' := by
  unfold sliceT at h
  split at h
  · rename_i s ht
    simp only [Option.some.injEq, Prod.mk.injEq, Bool.and_eq_true, decide_eq_true_eq] at h
    obtain ⟨⟨⟨h0, h1⟩, h2⟩, rfl⟩ := h
    cases hx with
    | str _ s =>
      rw [bytesOf_length] at h1 h2 ⊢
      refine ⟨.string (s.extract (l.getD 0).toNat (u.getD s.size).toNat), ?_, ?_⟩
      · simp only [Instr.slice, Sem.run_bind, run_underlying ht, Result.andThen_ok, Option.isSome_none, Bool.false_eq_true, if_false, Sem.run_pure]
        rw [sliceBounds_run (hl.eq 0) (hu.eq s.size) h0 h1 h2]
        rfl
      · rw [← bytesOf_extract _ _ _ (by omega)]; exact .str _ _
  · rename_i e i o s len cap ht
    split at h
    · rename_i hs
      simp only [Option.some.injEq, Prod.mk.injEq, Bool.and_eq_true, decide_eq_true_eq] at h
      obtain ⟨⟨⟨h0, h1⟩, h2⟩, rfl⟩ := h
      have go : ∀ (b d c : Nat), (cap.getD len ≤ c) → (∀ n, cap = some n → n = c) → ∃ z', (Instr.slice t (.slice (some ⟨b, d, none⟩) len c) lo hi none).run P w = .ok z' w ∧
          z' = .slice (some (if c = (l.getD 0).toNat then ⟨b, d, none⟩ else ⟨b, d + (l.getD 0).toNat * s, none⟩)) ((u.getD len).toNat - (l.getD 0).toNat) (c - (l.getD 0).toNat) := by
        intro b d c hc _
        refine ⟨_, ?_, rfl⟩
        simp only [Instr.slice, Sem.run_bind, run_underlying ht, Result.andThen_ok]
        rw [sliceBounds_run (hl.eq 0) (hu.eq len) h0 h1 (by omega)]
        simp only [Result.andThen_ok, run_sizeT hs, Sem.run_pure, Option.map_some, add_eq]
        congr 2
        split <;> rfl
      cases hx with
      | sl _ _ _ _ _ _ c q hq k1 k2 k3 =>
        obtain ⟨z', hz, hz2⟩ := go q.b (q.d + o) c (by cases cap with | none => exact k1 | some n => simp [k3 n rfl]) k3
        refine ⟨z', hz, ?_⟩
        subst hz2
        have hle : (u.getD ↑len).toNat ≤ c := by
          cases cap with
          | none => simp at h2; omega
          | some n => have := k3 n rfl; simp at h2; omega
        have e1 : (u.getD ↑len - l.getD 0).toNat = (u.getD ↑len).toNat - (l.getD 0).toNat := by omega
        rw [e1]
        by_cases hcl : c = (l.getD 0).toNat
        · have z0 : (u.getD ↑len).toNat - (l.getD 0).toNat = 0 := by omega
          rw [if_pos hcl, z0, show c - (l.getD 0).toNat = 0 from by omega]
          exact .slz _ _ _ _ _ _ q hq (by
            intro n hn
            cases cap with
            | none => simp [slCap] at hn
            | some m => simp [slCap] at hn; have := k3 m rfl; omega)
        · rw [if_neg hcl]
          have e2 : slOff cap (l.getD 0) o s = o + (l.getD 0).toNat * s := by
            cases cap with
            | none => rfl
            | some m => have := k3 m rfl; simp only [slOff]; rw [if_neg (by omega)]
          rw [e2]
          have e3 : q.d + o + (l.getD 0).toNat * s = q.d + (o + (l.getD 0).toNat * s) := by omega
          rw [e3]
          refine .sl _ _ _ _ _ _ _ q hq (by omega) ?_ (by
            intro n hn
            cases cap with
            | none => simp [slCap] at hn
            | some m => simp [slCap] at hn; have := k3 m rfl; omega)
          have : (c - (l.getD 0).toNat) * s + (l.getD 0).toNat * s = c * s := by rw [← Nat.add_mul]; congr 1; omega
          omega
      | slz _ _ _ _ _ y q hq k3 =>
        obtain ⟨z', hz, hz2⟩ := go q.b y 0 (by cases cap with | none => exact Nat.le_refl _ | some n => simp [k3 n rfl]) k3
        refine ⟨z', hz, ?_⟩
        subst hz2
        have hle : (u.getD ((0 : Nat) : Int)).toNat = 0 := by
          cases cap with
          | none => simp at h2 ⊢; omega
          | some n => have := k3 n rfl; simp at h2 ⊢; omega
        have hl0 : (l.getD 0).toNat = 0 := by omega
        have e1 : (u.getD ((0 : Nat) : Int) - l.getD 0).toNat = 0 := by omega
        rw [hle, hl0, e1, if_pos rfl]
        exact .slz _ _ _ _ _ _ q hq (by
          intro n hn
          cases cap with
          | none => simp [slCap] at hn
          | some m => simp [slCap] at hn; have := k3 m rfl; omega)
    · cases h
  · rename_i e s len f ht
    split at h
    · rename_i hs
      simp only [Option.some.injEq, Prod.mk.injEq, Bool.and_eq_true, decide_eq_true_eq] at h
      obtain ⟨⟨⟨h0, h1⟩, h2⟩, rfl⟩ := h
      cases hx with
      | isl _ _ _ _ b o c g hI hc hw hv =>
        have e1 : (u.getD ↑len - l.getD 0).toNat = (u.getD ↑len).toNat - (l.getD 0).toNat := by omega
        refine ⟨.slice (some (if c = (l.getD 0).toNat then ⟨b, o, none⟩ else ⟨b, o + (l.getD 0).toNat * s, none⟩)) ((u.getD len).toNat - (l.getD 0).toNat) (c - (l.getD 0).toNat), ?_, ?_⟩
        · simp only [Instr.slice, Sem.run_bind, run_underlying ht, Result.andThen_ok]
          rw [sliceBounds_run (hl.eq 0) (hu.eq len) h0 h1 (by omega)]
          simp only [Result.andThen_ok, run_sizeT hs, Sem.run_pure, Option.map_some, add_eq]
          congr 2
          split <;> rfl
        · rw [e1]
          by_cases hcl : c = (l.getD 0).toNat
          · have z0 : (u.getD ↑len).toNat - (l.getD 0).toNat = 0 := by omega
            rw [if_pos hcl, z0]
            exact .isl _ _ _ _ b o _ (fun _ _ => undef) hI (by omega) (fun i j hi => by omega) (fun i j hi => by omega)
          · rw [if_neg hcl]
            refine .isl _ _ _ _ b _ _ (fun i j => g ((l.getD 0).toNat + i) j) hI (by omega) (fun i j hi hj => ?_) (fun i j hi hj => hv _ _ (by omega) hj)
            rw [← hw _ _ (show (l.getD 0).toNat + i < len by omega) hj]
            congr 2
            rw [Nat.add_mul]; omega
    · cases h
  · rename_i e ht
    split at h
    · cases h
    · simp only [Option.some.injEq, Prod.mk.injEq, Bool.and_eq_true, decide_eq_true_eq] at h
      obtain ⟨⟨h0, h1⟩, rfl⟩ := h
      cases hx
      refine ⟨.slice none 0 0, ?_, .nilSl _⟩
      rename_i hne
      obtain ⟨n, hs⟩ := Option.ne_none_iff_exists'.1 hne
      simp only [Instr.slice, Sem.run_bind, run_underlying ht, Result.andThen_ok]
      rw [sliceBounds_run (hl.eq 0) (hu.eq 0) (by omega) (by omega) (by omega)]
      simp [run_sizeT hs, h0, h1]
  · cases h
end
end Go.Lh
