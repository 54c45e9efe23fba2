/- Soundness of append and copy. -/
import Derived.Test.YtajbaocfdlopbaaLhP
set_option linter.unusedSimpArgs false
set_option linter.unusedVariables false
namespace Go.Lh
section
variable {P : Program} {w : World} {I : Nat → Prop} {ρ : Ren} {h : Heap} {F : Nat → Prop} {idx : Nat} {a : Act} {o : Oper} {g : Fm}

/-- append, what is appended being told by its run: n elements, cells C. -/
def appendOf (elem : TypeId) (size : Nat) (base : Option Addr) (sLen sCap n : Nat) (zeros : Bool) (s x : Value) (appended : Sem (Array Value)) : Sem Value := do
  let need := sLen + n
  if need ≤ sCap then
    let new ← appended
    if let some a := base then storeCells (a.add (sLen * size)) new.toList
    pure (.slice base need sCap)
  else
    if (need : Int) > IntKind.i64.max ∧ (zeros ∨ (← typeInfo elem).bytes = 0) then runtimePanic (.error "growslice: len out of range")
    if Builtin.nextslicecap need sCap * (← typeInfo elem).bytes > 2 ^ 48 then (if zeros then runtimePanic (.error "growslice: len out of range") else do
      if !(← Builtin.mayShare size sLen n base x) then mark .noRoom
      unsupported (.resourceLimit "append: a slice or a string whose bytes no memory bears"))
    let newCap ← choose (.appendCap need sCap elem)
    askRoom (newCap * (← typeInfo elem).bytes)
    let old ← Builtin.firstCells size sLen s
    let new ← appended
    let rest := Builtin.zeroCells (← zeroValue elem).cells (newCap - need)
    pure (.slice (some (← newRow elem (old ++ new ++ rest))) need newCap)

/-- the new row's world -/
def grownW (w : World) (e : TypeId) (C : Array Value) : World := { w with heap := w.heap.push (.cells C e), drawn := w.drawn + 1 }

theorem zeroCells_size (zc : Array Value) (n : Nat) : (Builtin.zeroCells zc n).size = n * zc.size := by simp [Builtin.zeroCells]

/-- the growing arm -/
theorem appendOf_grow {elem : TypeId} {size : Nat} {base : Option Addr} {sLen sCap n : Nat} {zeros : Bool} {s x : Value} {appended : Sem (Array Value)} {old new : Array Value} {i : TypeInfo} {z : Value}
    (hi : P.info? elem = some i) (hz : ∀ w : World, (zeroValue elem).run P w = .ok z w) (hlt : sCap < sLen + n) (hroom : appRoom P elem size (sLen + n) = true)
    (hold : (Builtin.firstCells size sLen s).run P { w with drawn := w.drawn + 1 } = .ok old { w with drawn := w.drawn + 1 })
    (hnew : appended.run P { w with drawn := w.drawn + 1 } = .ok new { w with drawn := w.drawn + 1 }) :
    ∃ cap, sLen + n ≤ cap ∧ (appendOf elem size base sLen sCap n zeros s x appended).run P w =
      .ok (.slice (some ⟨w.heap.size, 0, none⟩) (sLen + n) cap) (grownW w elem (old ++ new ++ Builtin.zeroCells z.cells (cap - (sLen + n)))) := by
  obtain ⟨r1, r2⟩ := room_ok hroom (Nat.le_of_lt hlt) zeros hi
  refine ⟨(Question.appendCap (sLen + n) sCap elem).cut (w.tape w.drawn (.appendCap (sLen + n) sCap elem)), by simp [Question.cut], ?_⟩
  unfold appendOf
  simp only [Sem.run_ite]
  rw [if_neg (by omega)]
  simp only [Sem.run_bind, run_typeInfo w hi, Result.andThen_ok]
  rw [if_neg r1]
  simp only [Sem.run_bind, run_typeInfo w hi, Result.andThen_ok]
  rw [if_neg r2]
  simp only [Sem.run_bind, run_choose, Question.forced, Bool.false_eq_true, if_false, Result.andThen_ok, run_typeInfo _ hi, run_askRoom, hold, hnew, hz, newRow, run_newObj, Sem.run_pure]
  rfl

theorem Rel.heap_eq {w₁ : World} (R : Rel ρ I w h F) (hw : w₁.heap = w.heap) : Rel ρ I w₁ h F := by
  refine ⟨fun i b hb hd => ?_, R.free, R.out, R.apart, fun b hb => by rw [hw]; exact R.lt b hb⟩
  obtain ⟨l, hl, hB, hn⟩ := R.blk i b hb hd
  refine ⟨l, hl, ⟨?_, hB.fits⟩, hn⟩
  obtain ⟨C, e, fz, m1, m2, m3, m4⟩ := hB.mem
  refine ⟨C, e, fz, by rw [hw]; exact m1, m2, m3, fun o ho => ?_⟩
  obtain ⟨c, hc, hr⟩ := m4 o ho
  exact ⟨c, hc, hr.mono (fun _ h => h) (fun _ _ => by rw [hw]) _ (fun _ _ h => h)⟩

theorem BlkIn.app {b c b' : Blk} {C D : List Value} (hb : BlkIn I w ρ b C) (hc : BlkIn I w ρ c D) (hbd : b ≠ .dead) (hcd : c ≠ .dead) (h : b.app c = some b') (hC : C.length = b.len) : BlkIn I w ρ b' (C ++ D) := by
  obtain ⟨h1, _, h3⟩ := Blk.app_at h hbd hcd
  intro k hk
  rw [h1] at hk
  rw [h3 k hk]
  split
  · rename_i hlt
    obtain ⟨x, hx, hr⟩ := hb k hlt
    exact ⟨x, by rw [List.getElem?_append_left (by omega)]; exact hx, hr⟩
  · rename_i hge
    obtain ⟨x, hx, hr⟩ := hc (k - b.len) (by omega)
    exact ⟨x, by rw [List.getElem?_append_right (by omega), hC]; exact hx, hr⟩

theorem blkIn_atN {b : Blk} {C : List Value} (H : BlkIn I w ρ b C) (hC : C.length = b.len) : VsRel I w ρ (b.atN 0 b.len) C := by
  have := atN_rel H b.len 0 (by omega)
  rwa [List.drop_zero, List.take_of_length_le (by omega)] at this

theorem ones_cells {b : Blk} {C : List Value} (H : BlkIn I w ρ b C) (hC : C.length = b.len) (ho : b.ones = true) : ∀ v ∈ C, v.oneCell' = true := by
  refine all_one_cell (blkIn_atN H hC) (fun v hv => ?_)
  obtain ⟨k, hk⟩ := List.getElem?_of_mem hv
  obtain ⟨hk1, hk2⟩ := List.getElem?_eq_some_iff.1 hk
  rw [atN_length] at hk1
  have := atN_getD b b.len 0 k hk1
  rw [List.getD_eq_getElem?_getD, hk] at this
  simp at this
  rw [this]; exact ones_at ho k hk1

theorem zero_of_room {e : TypeId} {s need : Nat} (h : appRoom P e s need = true) : ∃ z' : Value, (∀ w : World, (zeroValue e).run P w = .ok z' w) ∧ z'.cells.size = s := by
  simp only [appRoom, Bool.and_eq_true, zeroFits] at h
  obtain ⟨_, h⟩ := h
  cases hz : zeroT P e with
  | none => simp [hz] at h
  | some z =>
    simp only [hz, beq_iff] at h
    obtain ⟨z', e1, e2, e3⟩ := run_zeroT (P := P) (w := default) (I := fun _ => False) (ρ := fun _ => none) hz
    have hc := (cells_sound e2 (ofValue_not_any e3)).length
    refine ⟨z', fun w => ?_, by simp at hc; omega⟩
    unfold zeroT at hz
    cases hi : P.info? e with
    | none => simp [hi] at hz
    | some i =>
      simp only [hi] at hz
      cases hzz : i.zero with
      | none => simp [hzz] at hz
      | some z2 =>
        simp only [hzz] at hz
        have : z2 = z' := by
          have h1 : (zeroValue e).run P default = .ok z2 default := by simp [zeroValue, run_typeInfo _ hi, hzz]
          rw [h1] at e1; cases e1; rfl
        subst this
        simp [zeroValue, run_typeInfo w hi, hzz]

/-- append, told by the run of what is appended -/
theorem appH_sound (R : Rel ρ I w h F) (hF : F idx) (hidx : h[idx]? = some .dead) {e : TypeId} {s n : Nat} {x v : V} {x' y' : Value} {c : Blk} {h' : Heap} {zeros : Bool} {appended : Sem (Array Value)} {new : Array Value}
    (hx : VRel I w ρ x x') (hsz : sizeT P e = some s) (hc1 : c.len = n * s) (hc2 : c ≠ .dead) (hnew : ∀ w₁ : World, w₁.heap = w.heap → appended.run P w₁ = .ok new w₁) (hn1 : new.size = n * s) (hn2 : BlkIn I w ρ c new.toList)
    (hs : appH P idx h e s x n c = some (true, v, h')) :
    ∃ base sLen sCap, x' = .slice base sLen sCap ∧ ∃ v' w' ρ' , (appendOf e s base sLen sCap n zeros x' y' appended).run P w = .ok v' w' ∧ VRel I w' ρ' v v' ∧ Rel ρ' I w' h' (fun i => F i ∧ i ≠ idx) ∧ Went ρ I w h ρ' I w' h' := by
  obtain ⟨i, hi, hib, his⟩ := info_bytes hsz
  have hlt : idx < h.length := by
    rcases Nat.lt_or_ge idx h.length with h0 | h0
    · exact h0
    · rw [List.getElem?_eq_none h0] at hidx; cases hidx
  -- a new row: the old cells, the new ones, zeros
  have grow : ∀ (base : Option Addr) (sLen sCap : Nat) (xv : Value) (old : Array Value) (b' : Blk) (h1 : Heap), sCap < sLen + n → appRoom P e s (sLen + n) = true →
      (∀ w₁ : World, w₁.heap = w.heap → (Builtin.firstCells s sLen xv).run P w₁ = .ok old w₁) → old.size = sLen * s → b'.len = (sLen + n) * s → BlkIn I w ρ b' (old ++ new).toList →
      h1.length = h.length → (∀ j y, j ≠ idx → h1[j]? = some y → y ≠ .dead → h[j]? = some y) →
      ∃ v' w' ρ', (appendOf e s base sLen sCap n zeros xv y' appended).run P w = .ok v' w' ∧ VRel I w' ρ' (.sl idx 0 s (sLen + n) none) v' ∧ Rel ρ' I w' (h1.set idx b') (fun i => F i ∧ i ≠ idx) ∧ Went ρ I w h ρ' I w' (h1.set idx b') := by
    intro base sLen sCap xv old b' h1 g1 g2 g3 g4 g5 g6 g7 g8
    obtain ⟨z', hz', hzs⟩ := zero_of_room g2
    obtain ⟨cap, k1, k2⟩ := appendOf_grow (P := P) (w := w) (size := s) (base := base) (sLen := sLen) (sCap := sCap) (n := n) (zeros := zeros) (s := xv) (x := y') (appended := appended) (old := old) (new := new) hi hz' g1 g2
        (g3 _ rfl) (hnew _ rfl)
    let C := old ++ new ++ Builtin.zeroCells z'.cells (cap - (sLen + n))
    have hC : C.size = cap * s := by
      simp only [C, Array.size_append, g4, hn1, zeroCells_size, hzs]
      rw [← Nat.add_mul, ← Nat.add_mul]; congr 1; omega
    have key := rel_put (h1 := h1) (idx := idx) (l := ⟨w.heap.size, 0, C.size⟩) (b := b') (w' := grownW w e C) R rfl rfl rfl (by simp [grownW]) g7 hlt g8 (.inl (R.free _ hF))
      (fun k hk _ => by simp only [grownW]; rw [Array.getElem?_push, if_neg (by omega)]) (.inl (Nat.le_refl _)) (by
        intro j x lj hj hxj hxd hlj
        obtain ⟨q, hq, hB, _⟩ := R.blk j x (g8 j x hj hxj hxd) hxd
        rw [hlj] at hq; cases hq
        obtain ⟨C', e', fz', m1, _⟩ := hB.mem
        intro e
        simp only at e
        rw [e, Array.getElem?_eq_none (Nat.le_refl _)] at m1
        cases m1) (by
        intro _ hmono
        refine ⟨⟨C, e, (0, 0), by simp [grownW], by simp, fun k hk => by simp, fun k hk => ?_⟩, by
          rw [g5, hC]; exact Nat.mul_le_mul_right _ k1⟩
        obtain ⟨c, hc, hr⟩ := g6 k hk
        refine ⟨c, ?_, hmono _ _ hr⟩
        have hkl : k < (old ++ new).size := by simp only [Array.size_append, g4, hn1]; rw [← Nat.add_mul]; omega
        simp only [Nat.zero_add, C]
        rw [Array.getElem?_append_left hkl, ← Array.getElem?_toList]
        exact hc)
    refine ⟨_, _, _, k2, ?_, key.1, key.2⟩
    exact sl_new k1 (by rw [hC]; exact Nat.le_refl _) (by intro k hk; cases hk)
  unfold appH at hs
  split at hs <;> try simp only [reduceCtorEq] at hs
  · -- nil
    cases hx
    refine ⟨none, 0, 0, rfl, ?_⟩
    split at hs
    · rename_i hn
      simp at hs
      obtain ⟨rfl, rfl⟩ := hs
      subst hn
      refine ⟨.slice none 0 0, w, ρ, ?_, .nilSl _, R.weaken (fun _ h => h.1), .refl _ _ _ _⟩
      simp [appendOf, hnew w rfl]
    · rename_i hn
      simp at hs
      obtain ⟨hroom, rfl, rfl⟩ := hs
      have := grow none 0 0 (.slice none 0 0) #[] c h (by omega) (by simpa using hroom) (fun _ _ => by simp [Builtin.firstCells]) (by simp) (by simpa using hc1) (by simpa using hn2) rfl (fun _ _ _ h _ => h)
      simpa using this
  · rename_i i' q s' len cap
    split at hs <;> try simp only [reduceCtorEq] at hs
    rename_i hss; subst hss
    split at hs <;> try simp only [reduceCtorEq] at hs
    rename_i b hb
    split at hs <;> try simp only [reduceCtorEq] at hs
    rename_i hd
    have hd : isDead b = false := by simpa using hd
    have hne : b ≠ .dead := by rintro rfl; simp [isDead] at hd
    have hi'lt : i' < h.length := by
      rcases Nat.lt_or_ge i' h.length with h0 | h0
      · exact h0
      · rw [List.getElem?_eq_none h0] at hb; cases hb
    have hii : i' ≠ idx := by rintro rfl; rw [hidx] at hb; cases hb; exact hne rfl
    -- the old cells
    have oldCells : q + len * s' ≤ b.len → ∃ old : Array Value, (∀ w₁ : World, w₁.heap = w.heap → (Builtin.firstCells s' len x').run P w₁ = .ok old w₁) ∧ old.size = len * s' ∧ BlkIn I w ρ (b.cut q (len * s')) old.toList := by
      intro hq
      have hsrc : srcB h s' (.sl i' q s' len cap) = some (true, len, b.cut q (len * s')) := by
        simp only [srcB, if_true, hb, hd, Bool.false_eq_true, if_false, hq, decide_true]
      obtain ⟨_, _, _, s4⟩ := srcB_sound (P := P) R hx hsrc
      obtain ⟨C, c1, c2, c3⟩ := s4 len (Nat.le_refl _)
      refine ⟨C, c1, c2, ?_⟩
      have : (b.cut q (len * s')).cut 0 (len * s') = b.cut q (len * s') := by
        obtain ⟨d1, d2, _⟩ := Blk.cut_at hq hne
        cases hcc : b.cut q (len * s') <;> rw [hcc] at d1 d2 <;> simp only [Blk.len] at d1 <;> simp [Blk.cut, d1.symm]
      rwa [this] at c3
    -- more than there is room for: a new row
    have growArm : ∀ (b' : Blk) (h1 : Heap) (base : Option Addr) (sCap : Nat), (b.cut q (len * s')).app c = some b' → q + len * s' ≤ b.len → appRoom P e s' (len + n) = true → sCap < len + n →
        h1.length = h.length → (∀ j y, j ≠ idx → h1[j]? = some y → y ≠ .dead → h[j]? = some y) →
        ∃ v' w' ρ', (appendOf e s' base len sCap n zeros x' y' appended).run P w = .ok v' w' ∧ VRel I w' ρ' (.sl idx 0 s' (len + n) none) v' ∧ Rel ρ' I w' (h1.set idx b') (fun i => F i ∧ i ≠ idx) ∧ Went ρ I w h ρ' I w' (h1.set idx b') := by
      intro b' h1 base sCap hb' hq hroom hcap g7 g8
      obtain ⟨old, o1, o2, o3⟩ := oldCells hq
      obtain ⟨d1, d2, _⟩ := Blk.cut_at hq hne
      obtain ⟨a1, a2, a3⟩ := Blk.app_at hb' d2 hc2
      refine grow base len sCap x' old b' h1 hcap hroom o1 o2 (by rw [a1, d1, hc1, Nat.add_mul]) ?_ g7 g8
      have := BlkIn.app o3 hn2 d2 hc2 hb' (by simp; omega)
      simpa using this
    split at hs
    · -- the room is known
      rename_i k
      split at hs
      · rename_i hle
        split at hs <;> simp at hs
        rename_i b' hb'
        obtain ⟨⟨h1, hones⟩, rfl, rfl⟩ := hs
        have hnm : (len + n) * s' = len * s' + n * s' := Nat.add_mul _ _ _
        obtain ⟨v1, v2, v3⟩ := Blk.over_at hb' hne (by rw [hc1]; omega)
        cases hx with
        | sl _ _ _ _ _ _ cc l hl k1 k2 k3 =>
          have hcc := k3 k rfl
          subst hcc
          refine ⟨_, _, _, rfl, ?_⟩
          obtain ⟨w', e1, e2, e3⟩ := write_sound (P := P) R (q := q + len * s') (vs := c.atN 0 c.len) (vs' := new.toList) (b' := b') hb hd hl (blkIn_atN hn2 (by simp; omega)) (ones_cells hn2 (by simp; omega) hones)
            (by simp; omega) v1 (fun j _ => by
              rw [v3 j, atN_length]
              split
              · rename_i hr; rw [atN_getD _ _ _ _ (by omega), Nat.zero_add]
              · rfl)
          refine ⟨.slice (some ⟨l.b, l.d + q, none⟩) (len + n) k, w', ρ, ?_, ?_, e2.weaken (fun _ h => h.1), e3⟩
          · simp only [appendOf, Sem.run_ite]
            rw [if_pos hle]
            simp only [Sem.run_bind, hnew w rfl, Result.andThen_ok, add_eq]
            rw [show l.d + q + len * s' = l.d + (q + len * s') from by omega, e1]
            rfl
          · exact .sl _ _ _ _ _ _ _ l hl hle (by omega) (by intro m hm; cases hm; rfl)
        | slz _ _ _ _ _ y l hl k3 =>
          have hk0 := k3 k rfl
          subst hk0
          have hn0 : n = 0 := by omega
          subst hn0
          refine ⟨_, _, _, rfl, ?_⟩
          have hnil : new.toList = [] := by
            have : new.size = 0 := by omega
            exact List.length_eq_zero_iff.1 (by simpa using this)
          obtain ⟨w', e1, e2, e3⟩ := write_sound (P := P) R (q := 0) (vs := []) (vs' := []) (b' := b') hb hd hl (.nil _) (by simp) (by simp) v1 (fun j _ => by
              rw [v3 j, if_neg (by rw [hc1]; omega), if_neg (by simp)])
          have hw : w' = w := by simp [storeCells] at e1; exact e1.symm
          subst hw
          refine ⟨.slice (some ⟨l.b, y, none⟩) 0 0, w', ρ, ?_, ?_, e2.weaken (fun _ h => h.1), e3⟩
          · simp [appendOf, hnew w' rfl, hnil, storeCells]
          · exact .slz _ _ _ _ _ y l hl (by intro m hm; cases hm; rfl)
      · rename_i hgt
        split at hs <;> simp at hs
        rename_i b' hb'
        obtain ⟨⟨h1, hroom⟩, rfl, rfl⟩ := hs
        cases hx with
        | sl _ _ _ _ _ _ cc l hl k1 k2 k3 =>
          have hcc := k3 k rfl
          subst hcc
          exact ⟨_, _, _, rfl, growArm b' h _ k hb' h1 hroom (by omega) rfl (fun _ _ _ h _ => h)⟩
        | slz _ _ _ _ _ y l hl k3 =>
          have hk0 := k3 k rfl
          subst hk0
          exact ⟨_, _, _, rfl, growArm b' h _ 0 hb' h1 hroom (by omega) rfl (fun _ _ _ h _ => h)⟩
    · -- the room is not known
      split at hs <;> simp at hs
      rename_i b' hb'
      obtain ⟨⟨⟨h1, hroom⟩, hones⟩, rfl, rfl⟩ := hs
      have g7 : (h.set i' .dead).length = h.length := by simp
      have g8 : ∀ j y, j ≠ idx → (h.set i' .dead)[j]? = some y → y ≠ .dead → h[j]? = some y := by
        intro j y _ hy hyd
        by_cases hj : j = i'
        · subst hj; rw [List.getElem?_set_self hi'lt] at hy; cases hy; exact absurd rfl hyd
        · rwa [List.getElem?_set_ne (Ne.symm hj)] at hy
      obtain ⟨d1, d2, d3⟩ := Blk.cut_at h1 hne
      obtain ⟨a1, a2, a3⟩ := Blk.app_at hb' d2 hc2
      cases hx with
      | sl _ _ _ _ _ _ cc l hl k1 k2 k3 =>
        refine ⟨_, _, _, rfl, ?_⟩
        by_cases hle : len + n ≤ cc
        · -- in place
          have hnm : (len + n) * s' = len * s' + n * s' := Nat.add_mul _ _ _
          have hcs : (len + n) * s' ≤ cc * s' := Nat.mul_le_mul_right _ hle
          obtain ⟨C, e', fz, m1, m2, m3, m4, m5, m6⟩ := live_blk R hb hd hl
          obtain ⟨w', C', e1, e2, e3, e4, e5, e6, e7, e8, e9⟩ := storeCells_run (P := P) new.toList w C (l.d + (q + len * s')) 0 m1 (ones_cells hn2 (by simp; omega) hones) (by simp; omega) (fun k hk1 hk2 => by
            simp at hk2
            have := m3 (k - l.d) (by omega)
            rwa [show l.d + (k - l.d) = k from by omega] at this)
          have key := rel_put (h1 := h.set i' .dead) (idx := idx) (l := ⟨l.b, l.d + q, l.room - q⟩) (b := b') (w' := w') R e6 e7 e8 (Nat.le_of_eq e4.symm) g7 hlt g8 (.inl (R.free _ hF)) (fun k _ hk => e5 k hk)
            (.inr ⟨i', b, l, hb, hne, hl, rfl⟩) (by
              intro j y lj hj hy hyd hlj
              have hji : j ≠ i' := by rintro rfl; rw [List.getElem?_set_self hi'lt] at hy; cases hy; exact hyd rfl
              rw [List.getElem?_set_ne (Ne.symm hji)] at hy
              exact R.apart j i' y b lj l hji hy hyd hb hne hlj hl) (by
              intro _ hmono
              refine ⟨⟨C', e', fz, e2, by rw [e3, m2]; simp only; omega, fun k hk => ?_, fun k hk => ?_⟩, by rw [a1, d1, hc1]; simp only; omega⟩
              · have := m3 (q + k) (by simp only at hk; omega)
                simp only
                rwa [← Nat.add_assoc] at this
              · rw [a1, d1, hc1] at hk
                rw [a3 k (by rw [d1, hc1]; exact hk), d1, e9]
                simp only
                by_cases hlt2 : k < len * s'
                · rw [if_pos hlt2, if_neg (by omega), d3 k hlt2]
                  obtain ⟨c, hc, hr⟩ := m4 (q + k) (by omega)
                  rw [List.getElem?_drop, Array.getElem?_toList] at hc
                  exact ⟨c, by rw [Nat.add_assoc]; exact hc, hmono _ _ hr⟩
                · rw [if_neg hlt2, if_pos (by simp; omega)]
                  obtain ⟨c, hc, hr⟩ := hn2 (k - len * s') (by rw [hc1]; omega)
                  exact ⟨c, by rw [show l.d + q + k - (l.d + (q + len * s') + 0) = k - len * s' from by omega]; exact hc, hmono _ _ hr⟩)
          refine ⟨.slice (some ⟨l.b, l.d + q, none⟩) (len + n) cc, w', _, ?_, ?_, key.1, key.2⟩
          · simp only [appendOf, Sem.run_ite]
            rw [if_pos hle]
            simp only [Sem.run_bind, hnew w rfl, Result.andThen_ok, add_eq]
            rw [show l.d + q + len * s' = l.d + (q + len * s') from by omega, e1]
            rfl
          · have := VRel.sl (I := I) (w := w') (upd ρ idx ⟨l.b, l.d + q, l.room - q⟩) idx 0 s' (len + n) none cc _ (upd_same _ _ _) hle (by simp only; omega) (by intro m hm; cases hm)
            simpa using this
        · exact growArm b' _ _ cc hb' h1 hroom (by omega) g7 g8
      | slz _ _ _ _ _ y l hl k3 =>
        refine ⟨_, _, _, rfl, ?_⟩
        by_cases hn0 : n = 0
        · subst hn0
          obtain ⟨C, e', fz, m1, m2, m3, m4, m5, m6⟩ := live_blk R hb hd hl
          have key := rel_put (h1 := h.set i' .dead) (idx := idx) (l := l) (b := b') (w' := w) R rfl rfl rfl (Nat.le_refl _) g7 hlt g8 (.inl (R.free _ hF)) (fun _ _ _ => rfl)
            (.inr ⟨i', b, l, hb, hne, hl, rfl⟩) (by
              intro j y lj hj hy hyd hlj
              have hji : j ≠ i' := by rintro rfl; rw [List.getElem?_set_self hi'lt] at hy; cases hy; exact hyd rfl
              rw [List.getElem?_set_ne (Ne.symm hji)] at hy
              exact R.apart j i' y b lj l hji hy hyd hb hne hlj hl) (by
              intro _ hmono
              refine ⟨⟨C, e', fz, m1, m2, m3, fun k hk => ?_⟩, by rw [a1, d1, hc1]; omega⟩
              rw [a1, d1, hc1] at hk; omega)
          have hnil : new.toList = [] := by
            have : new.size = 0 := by omega
            exact List.length_eq_zero_iff.1 (by simpa using this)
          refine ⟨.slice (some ⟨l.b, y, none⟩) 0 0, w, _, ?_, ?_, key.1, key.2⟩
          · simp [appendOf, hnew w rfl, hnil, storeCells]
          · exact .slz _ _ _ _ _ y l (upd_same _ _ _) (by intro m hm; cases hm)
        · exact growArm b' _ _ 0 hb' h1 hroom (by omega) g7 g8

theorem append_sound (R : Rel ρ I w h F) (FR : FRel I w ρ g a) (hF : F idx) (hidx : h[idx]? = some .dead) {args : Array Operand} {ts : Array TypeId} {v : V} {h' : Heap}
    (ho : o.op = .call { callee := .builtin .append, args := args, argTypes := ts }) (hs : stepH P idx g h o.op = some (true, v, h')) : Did P a o ρ I w h F idx v h' := by
  rw [ho] at hs
  simp only [stepH] at hs
  split at hs <;> try simp only [reduceCtorEq] at hs
  rename_i t t' tr x y hts hargs
  split at hs <;> try simp only [reduceCtorEq] at hs
  rename_i e hu
  have hr := opnds_sound FR hargs
  have h0 : ts[0]? = some t := by rw [← Array.getElem?_toList, hts]; rfl
  have h1 : ts[1]? = some t' := by rw [← Array.getElem?_toList, hts]; rfl
  cases hr' : args.toList.map a.eval with
  | nil => rw [hr'] at hr; cases hr
  | cons x' r1 =>
    rw [hr'] at hr
    cases hr with
    | cons _ _ _ _ _ hx hr =>
      cases hr with
      | cons _ _ y' _ r2 hy hr =>
        cases hr
        have eargs : args.map a.eval = #[x', y'] := by
          apply Array.ext'; simp [hr']
        have run0 : ∀ (base : Option Addr) (sLen sCap : Nat) (s : Nat) (zeros : Bool) (n : Nat) (w₂ : World) (r : Result Value), x' = .slice base sLen sCap → sizeT P e = some s → True → (Builtin.append_ ts o.type #[x', y']).run P w = r →
            (execOp a.eval o).run P w = r.andThen (fun v w => .ok (.value v) w) := by
          intro base sLen sCap s zeros n w₂ r _ _ _ hrun
          simp only [execOp, ho, resolve, Sem.run_bind, Sem.run_pure, Result.andThen_ok, invoke, eargs, builtin, hrun]
        split at hs <;> try simp only [reduceCtorEq] at hs
        · rename_i s k hsz hut'
          split at hs <;> try simp only [reduceCtorEq] at hs
          rename_i n hn
          split at hs <;> try simp only [reduceCtorEq] at hs
          rename_i c hc
          split at hs <;> simp at hs
          rename_i k' r hap
          obtain ⟨⟨⟨⟨⟨g1, g2⟩, g3⟩, g4⟩, rfl⟩, hrv⟩ := hs
          obtain ⟨j, hj⟩ := asIx_sound hy hn
          subst hj
          obtain ⟨i, hi, hib, his⟩ := info_bytes hsz
          obtain ⟨z', z1, z2, z3, z4⟩ := zeroN_sound (P := P) (w := w) (I := I) (ρ := ρ) hc g4
          have hzrun : ∀ w₁ : World, (zeroValue e).run P w₁ = .ok z' w₁ := by
            intro w₁
            obtain ⟨z2, y1, _⟩ := zeroN_sound (P := P) (w := w₁) (I := I) (ρ := ρ) hc g4
            have q : ∀ w : World, (zeroValue e).run P w = match i.zero with | some v => .ok v w | none => .halt (.unsupported (.resourceLimit "a value of more than 2^22 cells")) w := by
              intro w
              simp only [zeroValue, Sem.run_bind, run_typeInfo w hi, Result.andThen_ok]
              cases i.zero <;> rfl
            rw [q] at z1 y1 ⊢
            cases hz : i.zero with
            | none => simp [hz] at z1
            | some zz => simp [hz] at z1 ⊢; exact z1
          unfold most46 at g2
          unfold most48 at g3
          have wn : IntKind.i64.wrap n = n := IntWalk.i64_in _ (by omega)
          have hsmall : ¬ (n * (i.bytes : Int) > 2 ^ 48) := by
            have h6 : ((n.toNat * bytesT P e : Nat) : Int) ≤ ((2 ^ 48 : Nat) : Int) := by exact_mod_cast g3
            rw [Int.natCast_mul, Int.toNat_of_nonneg (by omega), ← hib] at h6
            have : ((2 ^ 48 : Nat) : Int) = 2 ^ 48 := by norm_cast
            omega
          let appended : Sem (Array Value) := if n.toNat * s = 0 then pure #[] else do pure (Builtin.zeroCells (← zeroValue e).cells n.toNat)
          have hnew : ∀ w₁ : World, w₁.heap = w.heap → appended.run P w₁ = .ok (zerosOf z'.cells (n.toNat * s)) w₁ := by
            intro w₁ _
            simp only [appended]
            split
            · rename_i h0; rw [h0]; simp [zerosOf]
            · rename_i h0
              have hs' : z'.cells.size = s := z4 (by rcases Nat.eq_zero_or_pos n.toNat with q | q; rw [q] at h0; simp at h0; exact q)
              simp only [Sem.run_bind, hzrun, Result.andThen_ok, Sem.run_pure, Builtin.zeroCells, zerosOf, hs']
          obtain ⟨base, sLen, sCap, rfl, v', w', ρ', e1, e2, e3, e4⟩ := appH_sound (P := P) (y' := .int j n) (zeros := true) (appended := appended) R hF hidx hx hsz g4 z2 hnew (by simp [zerosOf]) z3 (by rw [hap, hrv])
          refine ⟨.value v', w', ρ', I, v', ?_, .inl rfl, e2, e3, e4⟩
          rw [run0 base sLen sCap s true n.toNat w (.ok v' w') rfl hsz trivial]
          · rfl
          · rw [← e1]
            have hneg : ¬ n < 0 := by omega
            simp only [Builtin.append_, appendOf, appended, h0, h1, List.getElem?_toArray, List.getElem?_cons_zero, List.getElem?_cons_succ, Sem.run_bind, run_underlying hu, run_underlying hut', Result.andThen_ok, run_sizeT hsz, Sem.run_pure, asInt, asIntOf, wn, Sem.run_ite, if_true, Bool.not_true, Bool.false_eq_true, if_false, run_typeInfo w hi, hneg, hsmall]
            rfl
        · rename_i s d hnint hsz hut'
          split at hs <;> try simp only [reduceCtorEq] at hs
          rename_i k' n c hsrc
          split at hs <;> simp at hs
          rename_i k2 r hap
          obtain ⟨⟨rfl, rfl⟩, hrv⟩ := hs
          obtain ⟨i, hi, hib, his⟩ := info_bytes hsz
          obtain ⟨s1, s2, s3, s4⟩ := srcB_sound (P := P) R hy hsrc
          obtain ⟨C, c1, c2, c3⟩ := s4 n (Nat.le_refl _)
          have hcut : c.cut 0 (n * s) = c := by
            rw [← s2]
            cases c <;> simp [Blk.cut, Blk.len]
          rw [hcut] at c3
          obtain ⟨base, sLen, sCap, rfl, v', w', ρ', e1, e2, e3, e4⟩ := appH_sound (P := P) (y' := y') (zeros := false) (appended := Builtin.firstCells s n y') R hF hidx hx hsz s2 s3 c1 c2 c3 (by rw [hap, hrv])
          refine ⟨.value v', w', ρ', I, v', ?_, .inl rfl, e2, e3, e4⟩
          rw [run0 base sLen sCap s true n w (.ok v' w') rfl hsz trivial]
          · rfl
          · rw [← e1]
            clear hap hrv
            cases d
            all_goals first | exact (hnint _ rfl).elim | skip
            all_goals
             simp only [Builtin.append_, appendOf, h0, h1, List.getElem?_toArray, List.getElem?_cons_zero, List.getElem?_cons_succ, Sem.run_bind, run_underlying hu, run_underlying hut', Result.andThen_ok, run_sizeT hsz, Sem.run_pure, Bool.false_eq_true, if_false, s1, Sem.run_ite, if_true, Bool.not_false, run_typeInfo w hi]
             rfl
theorem copy_sound (R : Rel ρ I w h F) (FR : FRel I w ρ g a) {args : Array Operand} {ts : Array TypeId} {v : V} {h' : Heap}
    (ho : o.op = .call { callee := .builtin .copy, args := args, argTypes := ts }) (hs : stepH P idx g h o.op = some (true, v, h')) : Did P a o ρ I w h F idx v h' := by
  rw [ho] at hs
  simp only [stepH] at hs
  split at hs <;> try simp only [reduceCtorEq] at hs
  rename_i t tr i q s len cap y hts hargs
  split at hs <;> try simp only [reduceCtorEq] at hs
  rename_i e hu
  split at hs <;> try simp only [reduceCtorEq] at hs
  rename_i hsz
  split at hs <;> try simp only [reduceCtorEq] at hs
  rename_i k n c b hsrc hb
  split at hs <;> try simp only [reduceCtorEq] at hs
  rename_i hd
  split at hs <;> simp at hs
  rename_i b' hb'
  obtain ⟨⟨⟨rfl, g1⟩, hones⟩, rfl, rfl⟩ := hs
  have hd : isDead b = false := by simpa using hd
  have hne : b ≠ .dead := by rintro rfl; simp [isDead] at hd
  have hr := opnds_sound FR hargs
  have h0 : ts[0]? = some t := by rw [← Array.getElem?_toList, hts]; rfl
  cases hr' : args.toList.map a.eval with
  | nil => rw [hr'] at hr; cases hr
  | cons x' r1 =>
    rw [hr'] at hr
    cases hr with
    | cons _ _ _ _ _ hx hr =>
      cases hr with
      | cons _ _ y' _ r2 hy hr =>
        cases hr
        have eargs : args.map a.eval = #[x', y'] := by
          apply Array.ext'; simp [hr']
        obtain ⟨s1, s2, s3, s4⟩ := srcB_sound (P := P) R hy hsrc
        obtain ⟨C, c1, c2, c3⟩ := s4 (min n len) (Nat.min_le_left _ _)
        have hms : min n len * s ≤ n * s := Nat.mul_le_mul_right _ (Nat.min_le_left _ _)
        obtain ⟨d1, d2, d3⟩ := Blk.cut_at (b := c) (o := 0) (n := min n len * s) (by omega) s3
        have hones' : (c.cut 0 (min n len * s)).ones = true := by
          cases c <;> simp only [Blk.ones] at hones <;> simp only [Blk.cut, Blk.ones]
          · cases hones
          · simp only [List.drop_zero]
            rw [List.all_eq_true] at hones ⊢
            exact fun v hv => hones v (List.mem_of_mem_take hv)
        obtain ⟨v1, v2, v3⟩ := Blk.over_at hb' hne (by rw [d1]; exact g1)
        have hfold : (execOp a.eval o).run P w = ((Builtin.copy_ ts o.type #[x', y']).run P w).andThen (fun v w => .ok (.value v) w) := by
          simp only [execOp, ho, resolve, Sem.run_bind, Sem.run_pure, Result.andThen_ok, invoke, eargs, builtin]
        cases hx with
        | sl _ _ _ _ _ _ cc l hl k1 k2 k3 =>
          obtain ⟨w', e1, e2, e3⟩ := write_sound (P := P) R (q := q) (vs := (c.cut 0 (min n len * s)).atN 0 (c.cut 0 (min n len * s)).len) (vs' := C.toList) (b' := b') hb hd hl (blkIn_atN c3 (by simp; omega)) (ones_cells c3 (by simp; omega) hones')
            (by simp; omega) v1 (fun j _ => by
              rw [v3 j, atN_length]
              split
              · rename_i hr; rw [atN_getD _ _ _ _ (by omega), Nat.zero_add]
              · rfl)
          refine ⟨.value (goInt (min n len : Nat)), w', ρ, I, _, ?_, .inl rfl, .int _ _ _ rfl, e2.weaken (fun _ h => h.1), e3⟩
          rw [hfold]
          have hmin : Nat.min n len = min n len := rfl
          simp only [Builtin.copy_, h0, List.getElem?_toArray, List.getElem?_cons_zero, List.getElem?_cons_succ, Sem.run_bind, run_underlying hu, Result.andThen_ok, s1, run_sizeT hsz, hmin, c1 w rfl, e1, Sem.run_pure]
        | slz _ _ _ _ _ y l hl k3 =>
          have hm0 : min n 0 = 0 := by omega
          rw [hm0] at c1 c2 v3 d1
          have hnil : C.toList = [] := by
            have : C.size = 0 := by omega
            exact List.length_eq_zero_iff.1 (by simpa using this)
          obtain ⟨w', e1, e2, e3⟩ := write_sound (P := P) R (q := 0) (vs := []) (vs' := []) (b' := b') hb hd hl (.nil _) (by simp) (by simp) v1 (fun j _ => by
              rw [v3 j, if_neg (by rw [d1]; omega), if_neg (by simp)])
          have hw : w' = w := by simp [storeCells] at e1; exact e1.symm
          subst hw
          refine ⟨.value (goInt 0), w', ρ, I, _, ?_, .inl rfl, by rw [hm0]; exact .int _ _ _ rfl, e2.weaken (fun _ h => h.1), e3⟩
          rw [hfold]
          have hmin : Nat.min n 0 = 0 := by show min n 0 = 0; omega
          simp only [Builtin.copy_, h0, List.getElem?_toArray, List.getElem?_cons_zero, List.getElem?_cons_succ, Sem.run_bind, run_underlying hu, Result.andThen_ok, s1, run_sizeT hsz, hmin, c1 w' rfl, hnil, storeCells, Sem.run_pure]
          rfl
end
end Go.Lh
