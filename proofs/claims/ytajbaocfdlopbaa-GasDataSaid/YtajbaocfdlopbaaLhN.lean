/- Soundness of stores, new variables, slices of arrays. -/
import Derived.Test.YtajbaocfdlopbaaLhM
set_option linter.unusedSimpArgs false
set_option linter.unusedVariables false
namespace Go.Lh

theorem Blk.st_at {b b' : Blk} {o : Nat} {v : V} (h : b.st o v = some b') (ho : o < b.len) : b'.len = b.len ∧ b' ≠ .dead ∧ v.one = true ∧ ∀ k, b'.at k = if k = o then v else b.at k := by
  unfold Blk.st at h
  split at h <;> first | cases h | skip
  · rename_i xs x
    simp only [Blk.len] at ho
    refine ⟨by simp [Blk.len], by simp, rfl, fun k => ?_⟩
    simp only [Blk.at]
    by_cases hk : k = o
    · subst hk; simp [ho]
    · rw [if_neg hk]; simp [List.getElem?_set_ne (Ne.symm hk)]
  · rename_i xs x
    simp only [Blk.len] at ho
    refine ⟨by simp [Blk.len], by simp, rfl, fun k => ?_⟩
    simp only [Blk.at]
    by_cases hk : k = o
    · subst hk; simp [ho]
    · rw [if_neg hk]; simp [List.getElem?_set_ne (Ne.symm hk)]
  · rename_i xs x
    simp only [Blk.len] at ho
    refine ⟨by simp [Blk.len], by simp, rfl, fun k => ?_⟩
    simp only [Blk.at]
    by_cases hk : k = o
    · subst hk; simp [ho]
    · rw [if_neg hk]; simp [List.getElem?_set_ne (Ne.symm hk)]
  · rename_i cs v' n1 n2 n3
    simp only [Blk.len] at ho
    refine ⟨by simp [Blk.len], by simp, ?_, fun k => ?_⟩
    · cases v <;> first | rfl | (exact (n1 _ rfl).elim) | (exact (n2 _ rfl).elim) | (exact (n3 rfl).elim)
    · simp only [Blk.at]
      by_cases hk : k = o
      · subst hk; simp [ho]
      · rw [if_neg hk]; simp [List.getElem?_set_ne (Ne.symm hk)]

theorem Blk.stN_at : ∀ {vs : List V} {b b' : Blk} {o : Nat}, b.stN o vs = some b' → o + vs.length ≤ b.len → b ≠ .dead →
    b'.len = b.len ∧ b' ≠ .dead ∧ (∀ v ∈ vs, v.one = true) ∧ ∀ k, b'.at k = if o ≤ k ∧ k < o + vs.length then vs.getD (k - o) .any else b.at k
  | [], b, b', o, h, ho, hd => by
    simp only [Blk.stN, Option.some.injEq] at h; subst h
    exact ⟨rfl, hd, by simp, fun k => by rw [if_neg (by simp only [List.length_nil]; omega)]⟩
  | v :: r, b, b', o, h, ho, hd => by
    simp only [Blk.stN] at h
    split at h <;> try cases h
    rename_i b1 hb1
    simp only [List.length_cons] at ho
    obtain ⟨l1, d1, o1, a1⟩ := Blk.st_at hb1 (by omega)
    obtain ⟨l2, d2, o2, a2⟩ := Blk.stN_at h (by omega) d1
    refine ⟨l2.trans l1, d2, by intro u hu; rcases List.mem_cons.1 hu with rfl | hu; exact o1; exact o2 u hu, fun k => ?_⟩
    rw [a2 k, a1 k]
    by_cases hk : k = o
    · subst hk
      rw [if_neg (by omega), if_pos rfl, if_pos (by simp)]
      simp
    · by_cases hk2 : o ≤ k ∧ k < o + (r.length + 1)
      · rw [if_pos (by omega), if_pos (by simpa using hk2)]
        rw [show k - o = (k - (o + 1)) + 1 from by omega]
        simp
      · rw [if_neg (by omega), if_neg hk, if_neg (by simpa using hk2)]

theorem one_cell {I : Nat → Prop} {w : World} {ρ : Ren} {v : V} {v' : Value} (h : VRel I w ρ v v') (ho : v.one = true) : v'.oneCell' = true := by
  cases h <;> first | rfl | simp [V.one] at ho

theorem all_one_cell {I : Nat → Prop} {w : World} {ρ : Ren} : ∀ {vs : List V} {vs' : List Value}, VsRel I w ρ vs vs' → (∀ v ∈ vs, v.one = true) → ∀ v ∈ vs', v.oneCell' = true
  | [], _, h, _ => by cases h; simp
  | _ :: _, _, h, ho => by
    cases h with
    | cons _ _ v' _ r' hv hr =>
      intro u hu
      rcases List.mem_cons.1 hu with rfl | hu
      · exact one_cell hv (ho _ (by simp))
      · exact all_one_cell hr (fun v hv => ho v (by simp [hv])) u hu

section
variable {P : Program} {w : World} {I : Nat → Prop} {ρ : Ren} {h : Heap} {F : Nat → Prop} {idx : Nat} {a : Act} {o : Oper} {g : Fm}

/-- Cells written into a live block: the heap behind it. -/
theorem write_sound (R : Rel ρ I w h F) {i q : Nat} {b b' : Blk} {l : Loc} {vs : List V} {vs' : List Value} (hb : h[i]? = some b) (hd : isDead b = false) (hl : ρ i = some l)
    (hvs : VsRel I w ρ vs vs') (hone : ∀ v ∈ vs', v.oneCell' = true) (hq : q + vs'.length ≤ b.len)
    (hlen : b'.len = b.len) (hat : ∀ k, k < b.len → b'.at k = if q ≤ k ∧ k < q + vs.length then vs.getD (k - q) .any else b.at k) :
    ∃ w', (storeCells ⟨l.b, l.d + q, none⟩ vs').run P w = .ok () w' ∧ Rel ρ I w' (h.set i b') F ∧ Went ρ I w h ρ I w' (h.set i b') := by
  obtain ⟨C, e, fz, m1, m2, m3, m4, m5, m6⟩ := live_blk R hb hd hl
  obtain ⟨w', C', e1, e2, e3, e4, e5, e6, e7, e8, e9⟩ := storeCells_run (P := P) vs' w C (l.d + q) 0 m1 hone (by omega) (fun k hk1 hk2 => by
    have := m3 (k - l.d) (by omega)
    rwa [show l.d + (k - l.d) = k from by omega] at this)
  refine ⟨w', e1, ?_⟩
  have hlen' := hvs.length
  have hlt : i < h.length := by
    rcases Nat.lt_or_ge i h.length with h0 | h0
    · exact h0
    · rw [List.getElem?_eq_none h0] at hb; cases hb
  have key := rel_put (h1 := h) (idx := i) (l := l) (b := b') R e6 e7 e8 (Nat.le_of_eq e4.symm) rfl hlt (fun _ _ _ h _ => h) (.inr hl) (fun k _ hk => e5 k hk)
    (.inr ⟨i, b, l, hb, m6, hl, rfl⟩) (fun j x lj hj hx hxd hlj => R.apart j i x b lj l hj hx hxd hb m6 hlj hl) (fun _ hmono => by
      refine ⟨⟨C', e, fz, e2, by rw [e3, m2], m3, fun k hk => ?_⟩, by rw [hlen]; exact m5⟩
      rw [hlen] at hk
      rw [hat k hk, e9]
      by_cases hr : q ≤ k ∧ k < q + vs.length
      · rw [if_pos hr, if_pos (by omega)]
        have hx : vs[k - q]? = some (vs.getD (k - q) .any) := by rw [List.getD_eq_getElem?_getD, List.getElem?_eq_getElem (by omega)]; rfl
        obtain ⟨x', hx1, hx2⟩ := hvs.get _ _ hx
        exact ⟨x', by rw [show l.d + k - (l.d + q + 0) = k - q from by omega]; exact hx1, hmono _ _ hx2⟩
      · rw [if_neg hr, if_neg (by omega)]
        obtain ⟨c, hc, hr⟩ := m4 k hk
        rw [List.getElem?_drop, Array.getElem?_toList] at hc
        exact ⟨c, hc, hmono _ _ hr⟩)
  have e : upd ρ i l = ρ := by
    funext j
    by_cases hj : j = i
    · subst hj; rw [upd_same]; exact hl.symm
    · rw [upd_ne _ _ hj]
  rw [e] at key
  refine ⟨⟨key.1.blk, R.free, key.1.out, key.1.apart, key.1.lt⟩, key.2⟩

theorem store_sound (R : Rel ρ I w h F) (FR : FRel I w ρ g a) {t : TypeId} {x y : Operand} {v : V} {h' : Heap} (ho : o.op = .store t x y)
    (hs : stepH P idx g h o.op = some (true, v, h')) : Did P a o ρ I w h F idx v h' := by
  rw [ho] at hs
  simp only [stepH] at hs
  split at hs <;> try simp only [reduceCtorEq] at hs
  rename_i i q v0 n hna hx hy hsz
  split at hs <;> try simp only [reduceCtorEq] at hs
  rename_i hn
  split at hs <;> try simp only [reduceCtorEq] at hs
  rename_i b hb
  split at hs <;> try simp only [reduceCtorEq] at hs
  rename_i hdead
  split at hs <;> simp at hs
  rename_i b' hb'
  obtain ⟨h1, rfl, rfl⟩ := hs
  have r := opnd_sound FR hx
  cases hv : a.eval x <;> rw [hv] at r <;> cases r
  rename_i l hl
  have r2 := opnd_sound FR hy
  have hc := cells_sound r2 (fun e => hna (by rw [← e]))
  have hne : b ≠ .dead := by rintro rfl; simp [isDead] at hdead
  obtain ⟨l2, d2, o2, a2⟩ := Blk.stN_at hb' h1 hne
  have hlen := hc.length
  obtain ⟨w', e1, e2, e3⟩ := write_sound (P := P) R hb (by simpa using hdead) hl hc (all_one_cell hc o2) (by omega) l2 (fun k _ => a2 k)
  refine ⟨.skip, w', ρ, I, undef, ?_, .inr ⟨rfl, rfl⟩, .any _ _, e2.weaken (fun _ h => h.1), e3⟩
  have hsize : ¬ (a.eval y).cells.size ≠ n := by
    rw [hn, hlen]; simp
  simp only [execOp, ho, hv, Instr.storeAt, Instr.sureAddr, storeVar, Sem.run_bind, Sem.run_pure, Result.andThen_ok, run_sizeT hsz, Sem.run_ite]
  rw [if_neg hsize]
  simp [e1]

/-- A new block of cells. -/
theorem new_sound (R : Rel ρ I w h F) (hF : F idx) (hidx : h[idx]? = some .dead) {w' : World} {C : Array Value} {e : TypeId} {fz : Nat × Nat} {b : Blk}
    (hw : w'.heap = w.heap.push (.cells C e fz)) (hos : w'.os = w.os) (htape : w'.tape = w.tape) (hout : w'.output = w.output)
    (hfz : ∀ k, k < C.size → ¬ (fz.1 ≤ k ∧ k < fz.2)) (hb : b.len ≤ C.size) (hin : BlkIn I w ρ b C.toList) :
    Rel (upd ρ idx ⟨w.heap.size, 0, C.size⟩) I w' (h.set idx b) (fun i => F i ∧ i ≠ idx) ∧ Went ρ I w h (upd ρ idx ⟨w.heap.size, 0, C.size⟩) I w' (h.set idx b) := by
  have hlt : idx < h.length := by
    rcases Nat.lt_or_ge idx h.length with h0 | h0
    · exact h0
    · rw [List.getElem?_eq_none h0] at hidx; cases hidx
  refine rel_put (h1 := h) R hos htape hout (by rw [hw]; simp) rfl hlt (fun _ _ _ h _ => h) (.inl (R.free _ hF)) (fun k hk _ => by rw [hw, Array.getElem?_push]; rw [if_neg (by omega)]) (.inl (Nat.le_refl _)) ?_ ?_
  · intro j x lj hj hx hxd hlj
    obtain ⟨q, hq, hB, _⟩ := R.blk j x hx hxd
    rw [hlj] at hq; cases hq
    obtain ⟨C', e', fz', m1, _⟩ := hB.mem
    intro e
    simp only at e
    rw [e, Array.getElem?_eq_none (Nat.le_refl _)] at m1
    cases m1
  · intro _ hmono
    refine ⟨⟨C, e, fz, by rw [hw]; simp, by simp, fun k hk => by simpa using hfz k hk, fun k hk => ?_⟩, hb⟩
    obtain ⟨c, hc, hr⟩ := hin k hk
    exact ⟨c, by simpa using hc, hmono _ _ hr⟩

theorem newVar_run (t : TypeId) (v : Value) : (newVar t v).run P w = .ok ⟨w.heap.size, 0, none⟩ { w with heap := w.heap.push (.cells v.cells t) } := by
  rfl

theorem new_ptr {I' : Nat → Prop} {w' : World} (n m : Nat) : VRel I' w' (upd ρ idx ⟨n, 0, m⟩) (.ptr idx 0) (.pointer (some ⟨n, 0, none⟩)) := by
  have := VRel.ptr (I := I') (w := w') (upd ρ idx ⟨n, 0, m⟩) idx 0 _ (upd_same _ _ _)
  simpa using this

theorem alloc_sound (R : Rel ρ I w h F) (hF : F idx) (hidx : h[idx]? = some .dead) {e : TypeId} {v : V} {h' : Heap} (ho : o.op = .alloc e)
    (hs : stepH P idx g h o.op = some (true, v, h')) : Did P a o ρ I w h F idx v h' := by
  rw [ho] at hs
  simp only [stepH, zeroBlk] at hs
  cases hz : zeroT P e with
  | none => simp [hz] at hs
  | some z =>
    simp [hz] at hs
    obtain ⟨rfl, rfl⟩ := hs
    obtain ⟨z', e1, e2, e3⟩ := run_zeroT (P := P) (w := w) (I := I) (ρ := ρ) hz
    have hc := cells_sound e2 (ofValue_not_any e3)
    obtain ⟨m1, m2⟩ := new_sound R hF hidx (w' := { w with heap := w.heap.push (.cells z'.cells e) }) (C := z'.cells) (e := e) (fz := (0, 0)) (b := mkBlk z.cells) rfl rfl rfl rfl (fun k _ => by simp) (by
      rw [(mkBlk_at z.cells).1, hc.length]; simp) (mkBlk_in hc)
    refine ⟨.value (.pointer (some ⟨w.heap.size, 0, none⟩)), _, _, I, _, ?_, .inl rfl, new_ptr _ _, m1, m2⟩
    simp only [execOp, ho, Instr.alloc, Sem.run_bind, e1, Result.andThen_ok, newVar_run, Sem.run_pure]

theorem box_sound (R : Rel ρ I w h F) (FR : FRel I w ρ g a) (hF : F idx) (hidx : h[idx]? = some .dead) {e : TypeId} {x : Operand} {v : V} {h' : Heap} (ho : o.op = .box e x)
    (hs : stepH P idx g h o.op = some (true, v, h')) : Did P a o ρ I w h F idx v h' := by
  rw [ho] at hs
  simp only [stepH] at hs
  split at hs <;> simp at hs
  rename_i v0 hna hx
  obtain ⟨rfl, rfl⟩ := hs
  have r := opnd_sound FR hx
  have hc := cells_sound r (fun e => hna e)
  obtain ⟨m1, m2⟩ := new_sound R hF hidx (w' := { w with heap := w.heap.push (.cells (a.eval x).cells e) }) (C := (a.eval x).cells) (e := e) (fz := (0, 0)) (b := mkBlk v0.cells) rfl rfl rfl rfl (fun k _ => by simp) (by
    rw [(mkBlk_at v0.cells).1, hc.length]; simp) (mkBlk_in hc)
  refine ⟨.value (.pointer (some ⟨w.heap.size, 0, none⟩)), _, _, I, _, ?_, .inl rfl, new_ptr _ _, m1, m2⟩
  simp only [execOp, ho, Instr.box, Sem.run_bind, Result.andThen_ok, newVar_run, Sem.run_pure]

theorem arrSlice_sound (R : Rel ρ I w h F) (FR : FRel I w ρ g a) {t : TypeId} {x : Operand} {lo hi : Option Operand} {v : V} {h' : Heap} (ho : o.op = .slice t x lo hi none)
    (hs : stepH P idx g h o.op = some (true, v, h')) : Did P a o ρ I w h F idx v h' := by
  rw [ho] at hs
  simp only [stepH] at hs
  split at hs <;> try simp only [reduceCtorEq] at hs
  rename_i n e i q hu hx
  split at hs <;> try simp only [reduceCtorEq] at hs
  rename_i s b l u hsz hb hlo hhi
  split at hs <;> simp at hs
  rename_i hdead
  obtain ⟨⟨⟨⟨h1, h2⟩, h3⟩, h4⟩, rfl, rfl⟩ := hs
  have r := opnd_sound FR hx
  cases hv : a.eval x <;> rw [hv] at r <;> cases r
  rename_i lc hl
  obtain ⟨C, e', fz, m1, m2, m3, m4, m5, m6⟩ := live_blk R hb (by simpa using hdead) hl
  have bd1 : BdEq (lo.map a.eval) l 0 := by
    cases lo with
    | none => simp [optIx] at hlo; simp [BdEq, hlo]
    | some y => exact optIx_sound FR hlo
  have bd2 : BdEq (hi.map a.eval) u n := by
    cases hi with
    | none => simp [optIx] at hhi; simp [BdEq, hhi]
    | some y => exact optIx_sound FR hhi
  refine Did.quiet R (v' := .slice (some (if n = l.toNat then ⟨lc.b, lc.d + q, none⟩ else ⟨lc.b, lc.d + q + l.toNat * s, none⟩)) (u.toNat - l.toNat) (n - l.toNat)) ?_ ?_
  · simp only [execOp, ho, hv, Instr.sliceAt, Sem.run_bind, run_underlying hu, Result.andThen_ok, Instr.sureAddr, Sem.run_pure, Option.map_none]
    rw [sliceBounds_run bd1 bd2 h1 h2 h3]
    simp only [Result.andThen_ok, run_sizeT hsz, add_eq]
  · rw [show (u - l).toNat = u.toNat - l.toNat from by omega]
    by_cases hln : l = (n : Int)
    · rw [if_pos hln, if_pos (by omega), show u.toNat - l.toNat = 0 from by omega, show n - l.toNat = 0 from by omega]
      exact .slz _ _ _ _ _ _ lc hl (by intro m hm; cases hm; rfl)
    · rw [if_neg hln, if_neg (by omega)]
      have e3 : lc.d + q + l.toNat * s = lc.d + (q + l.toNat * s) := by omega
      rw [e3]
      refine .sl _ _ _ _ _ _ _ lc hl (by omega) ?_ (by intro m hm; cases hm; rfl)
      have : (n - l.toNat) * s + l.toNat * s = n * s := by rw [← Nat.add_mul]; congr 1; omega
      omega
end
end Go.Lh
