/- Soundness of loads, stores, new blocks. -/
import Derived.Test.YtajbaocfdlopbaaLhL
set_option linter.unusedSimpArgs false
set_option linter.unusedVariables false
namespace Go.Lh

structure Did (P : Program) (a : Act) (o : Oper) (ρ : Ren) (I : Nat → Prop) (w : World) (h : Heap) (F : Nat → Prop) (idx : Nat) (v : V) (h' : Heap) : Prop where
  run : ∃ nx w' ρ' I' v', (execOp a.eval o).run P w = .ok nx w' ∧ (nx = .value v' ∨ (nx = .skip ∧ v' = undef)) ∧ VRel I' w' ρ' v v' ∧
    Rel ρ' I' w' h' (fun i => F i ∧ i ≠ idx) ∧ Went ρ I w h ρ' I' w' h'

section
variable {P : Program} {w : World} {I : Nat → Prop} {ρ : Ren} {h : Heap} {F : Nat → Prop} {idx : Nat} {a : Act} {o : Oper} {g : Fm}

theorem Did.quiet (R : Rel ρ I w h F) {v : V} {v' : Value} (hr : (execOp a.eval o).run P w = .ok (.value v') w) (hv : VRel I w ρ v v') : Did P a o ρ I w h F idx v h :=
  ⟨.value v', w, ρ, I, v', hr, .inl rfl, hv, R.weaken (fun _ h => h.1), .refl _ _ _ _⟩

theorem live_blk (R : Rel ρ I w h F) {i : Nat} {b : Blk} {l : Loc} (hi : h[i]? = some b) (hd : isDead b = false) (hl : ρ i = some l) :
    ∃ C e fz, w.heap[l.b]? = some (.cells C e fz) ∧ C.size = l.d + l.room ∧ (∀ o, o < l.room → ¬ (fz.1 ≤ l.d + o ∧ l.d + o < fz.2)) ∧ BlkIn I w ρ b (C.toList.drop l.d) ∧ b.len ≤ l.room ∧ b ≠ .dead := by
  have hne : b ≠ .dead := by rintro rfl; simp [isDead] at hd
  obtain ⟨q, hq, hB, _⟩ := R.blk i b hi hne
  rw [hl] at hq; cases hq
  obtain ⟨C, e, fz, m1, m2, m3, m4⟩ := hB.mem
  refine ⟨C, e, fz, m1, m2, m3, fun o ho => ?_, hB.fits, hne⟩
  obtain ⟨c, hc, hr⟩ := m4 o ho
  exact ⟨c, by rw [List.getElem?_drop, Array.getElem?_toList]; exact hc, hr⟩

theorem cell_at {C : Array Value} {e : TypeId} {fz : Nat × Nat} {b : Nat} (hm : w.heap[b]? = some (.cells C e fz)) (o : Nat) : w.cell? ⟨b, o, none⟩ = C[o]? := by
  simp [World.cell?, hm]

theorem load_sound (R : Rel ρ I w h F) (FR : FRel I w ρ g a) {t : TypeId} {x : Operand} {v : V} {h' : Heap} (ho : o.op = .load t x)
    (hs : stepH P idx g h o.op = some (true, v, h')) : Did P a o ρ I w h F idx v h' := by
  rw [ho] at hs
  simp only [stepH] at hs
  split at hs <;> try simp only [reduceCtorEq] at hs
  · rename_i i q n hx hag hsz
    split at hs <;> try simp only [reduceCtorEq] at hs
    rename_i b hb
    split at hs <;> simp at hs
    rename_i hdead
    obtain ⟨h1, rfl, rfl⟩ := hs
    have r := opnd_sound FR hx
    cases hv : a.eval x <;> rw [hv] at r <;> cases r
    rename_i l hl
    obtain ⟨C, e, fz, m1, m2, m3, m4, m5, m6⟩ := live_blk R hb (by simpa using hdead) hl
    have hat := atN_rel m4 n q h1
    rw [List.drop_drop] at hat
    refine Did.quiet R (v' := .agg ⟨(C.toList.drop (l.d + q)).take n⟩) ?_ (.agg _ _ _ hat)
    have hlen : ((C.toList.drop (l.d + q)).take n).length = n := by simp; omega
    have hrun := run_loadCells_list (P := P) (w := w) ⟨l.b, l.d + q, none⟩ ((C.toList.drop (l.d + q)).take n) (fun j c hj => by
      rw [add_eq, cell_at m1]
      rw [List.getElem?_take] at hj
      split at hj
      · rw [List.getElem?_drop, Array.getElem?_toList] at hj; exact hj
      · cases hj)
    rw [hlen] at hrun
    simp [execOp, ho, hv, Instr.loadAt, Instr.sureAddr, loadVar, run_isAggT hag, run_sizeT hsz, hrun]
  · rename_i i q n hx hag hsz
    split at hs <;> try simp only [reduceCtorEq] at hs
    rename_i b hb
    split at hs <;> simp at hs
    rename_i hdead
    obtain ⟨h1, rfl, rfl⟩ := hs
    have r := opnd_sound FR hx
    cases hv : a.eval x <;> rw [hv] at r <;> cases r
    rename_i l hl
    obtain ⟨C, e, fz, m1, m2, m3, m4, m5, m6⟩ := live_blk R hb (by simpa using hdead) hl
    obtain ⟨c, hc, hr⟩ := m4 q h1
    rw [List.getElem?_drop, Array.getElem?_toList] at hc
    refine Did.quiet R (v' := c) ?_ hr
    have : w.cell? ⟨l.b, l.d + q, none⟩ = some c := by rw [cell_at m1]; exact hc
    simp [execOp, ho, hv, Instr.loadAt, Instr.sureAddr, loadVar, run_isAggT hag, this]
  · rename_i s len f i j n hx hag hsz
    simp at hs
    obtain ⟨⟨h1, h2⟩, rfl, rfl⟩ := hs
    have r := opnd_sound FR hx
    cases hv : a.eval x <;> rw [hv] at r <;> cases r
    rename_i b o' g' hI hw hv'
    refine Did.quiet R (v' := .agg ⟨(List.range n).map fun k => g' i (j + k)⟩) ?_ (.agg _ _ _ ?_)
    · have hrun := run_loadCells_list (P := P) (w := w) ⟨b, o' + i * s + j, none⟩ ((List.range n).map fun k => g' i (j + k)) (fun k c hk => by
        rw [add_eq]
        rw [List.getElem?_map] at hk
        cases hr : (List.range n)[k]? with
        | none => simp [hr] at hk
        | some m =>
          have hm := List.getElem?_eq_some_iff.1 hr
          obtain ⟨hk1, hk2⟩ := hm
          simp at hk1 hk2; subst hk2
          simp [hr] at hk; subst hk
          rw [← hw i (j + k) h1 (by omega)]
          congr 2; omega)
      simp only [List.length_map, List.length_range] at hrun
      simp [execOp, ho, hv, Instr.loadAt, Instr.sureAddr, loadVar, run_isAggT hag, run_sizeT hsz, hrun]
    · refine .of_get (by simp) (fun k x x' hx1 hx2 => ?_)
      rw [List.getElem?_map] at hx1 hx2
      cases hr : (List.range n)[k]? with
      | none => simp [hr] at hx1
      | some m =>
        obtain ⟨hk1, hk2⟩ := List.getElem?_eq_some_iff.1 hr
        simp at hk1 hk2; subst hk2
        simp [hr] at hx1 hx2; subst hx1; subst hx2
        exact (hv' i (j + k) h1 (by omega)).mono (fun _ h => h) (fun _ _ => rfl) _ (fun _ _ h => by cases h)
  · rename_i s len f i j n hx hag hsz
    simp at hs
    obtain ⟨⟨h1, h2⟩, rfl, rfl⟩ := hs
    have r := opnd_sound FR hx
    cases hv : a.eval x <;> rw [hv] at r <;> cases r
    rename_i b o' g' hI hw hv'
    refine Did.quiet R (v' := g' i j) ?_ ((hv' i j h1 h2).mono (fun _ h => h) (fun _ _ => rfl) _ (fun _ _ h => by cases h))
    simp [execOp, ho, hv, Instr.loadAt, Instr.sureAddr, loadVar, run_isAggT hag, hw i j h1 h2]

/-- storing cells, one by one -/
theorem storeCells_run {b : Nat} {e : TypeId} {fz : Nat × Nat} : ∀ (vs : List Value) (w : World) (C : Array Value) (o i : Nat), w.heap[b]? = some (.cells C e fz) → (∀ v ∈ vs, v.oneCell' = true) →
    o + i + vs.length ≤ C.size → (∀ k, o + i ≤ k → k < o + i + vs.length → ¬ (fz.1 ≤ k ∧ k < fz.2)) →
    ∃ w' C', (storeCells ⟨b, o, none⟩ vs i).run P w = .ok () w' ∧ w'.heap[b]? = some (.cells C' e fz) ∧ C'.size = C.size ∧ w'.heap.size = w.heap.size ∧ (∀ k, k ≠ b → w'.heap[k]? = w.heap[k]?) ∧
      w'.os = w.os ∧ w'.tape = w.tape ∧ w'.output = w.output ∧
      (∀ k, C'[k]? = if o + i ≤ k ∧ k < o + i + vs.length then vs[k - (o + i)]? else C[k]?)
  | [], w, C, o, i, hm, _, _, _ => ⟨w, C, by simp [storeCells], hm, rfl, rfl, fun _ _ => rfl, rfl, rfl, rfl, fun k => by rw [if_neg (by simp only [List.length_nil]; omega)]⟩
  | v :: r, w, C, o, i, hm, h1, h2, h3 => by
    simp only [List.length_cons] at h2 h3
    have hlt : o + i < C.size := by omega
    have hcell : w.cell? ⟨b, o + i, none⟩ = some C[o + i] := by rw [cell_at hm, Array.getElem?_eq_getElem hlt]
    have hfz : w.frozen? ⟨b, o + i, none⟩ = false := by
      simp only [World.frozen?, hm]
      have := h3 (o + i) (Nat.le_refl _) (by omega)
      simpa using this
    have hset : (w.setCell ⟨b, o + i, none⟩ v).heap[b]? = some (.cells (C.setIfInBounds (o + i) v) e fz) := by
      simp [World.setCell, Array.getElem?_modify, hm]
    obtain ⟨w', C', e1, e2, e3, e4, e5, e6, e7, e8, e9⟩ := storeCells_run r (w.setCell ⟨b, o + i, none⟩ v) _ o (i + 1) hset (fun u hu => h1 u (by simp [hu])) (by simp; omega)
      (fun k hk1 hk2 => h3 k (by omega) (by omega))
    refine ⟨w', C', ?_, e2, by simpa using e3, by simpa using e4, ?_, e6, e7, e8, ?_⟩
    · simp only [storeCells, Sem.run_bind, add_eq]
      rw [run_store _ _ _ _ _ (h1 v (by simp))]
      simp only [hcell, hfz]
      simpa [add_eq] using e1
    · intro k hk
      rw [e5 k hk]
      simp only [World.setCell, Array.getElem?_modify]
      rw [if_neg (fun h => hk h.symm)]
    · intro k
      rw [e9 k]
      by_cases hk : k = o + i
      · subst hk
        rw [if_neg (by omega), if_pos (by simp)]
        simp [hlt]
      · by_cases hk2 : o + i ≤ k ∧ k < o + i + (r.length + 1)
        · rw [if_pos (by omega), if_pos (by simpa using hk2)]
          rw [show k - (o + i) = (k - (o + (i + 1))) + 1 from by omega]
          simp
        · rw [if_neg (by omega), if_neg (by simpa using hk2)]
          rw [Array.getElem?_setIfInBounds_ne (by omega)]
end
end Go.Lh
