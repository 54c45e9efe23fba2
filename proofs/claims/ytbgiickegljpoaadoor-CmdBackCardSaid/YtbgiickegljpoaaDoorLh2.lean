/- A reckoner for functions over a local heap: what each operation does, and that it is sound; numbers of 256 bits. -/
import Derived.KernelRfl
import Derived.Below
import Derived.WideShapes
import Derived.Test.YtbgiickegljpoaaDoorLh1
set_option linter.unusedSimpArgs false
set_option linter.unusedVariables false
section
namespace Go.Lh
section
variable {P : Program} {w : World} {I : Nat → Prop} {ρ : Ren} {h : Heap} {F : Nat → Prop} {idx : Nat} {a : Act} {o : Oper} {g : Fm}
def appendOf (elem : TypeId) (size : Nat) (base : Option Addr) (sLen sCap n : Nat) (zeros : Bool) (s x : Value) (appended : Sem (Array Value)) : Sem Value := do
  let need := sLen + n
  if need ≤ sCap then
    let new ← appended
    if let some a := base then storeCells (a.add (sLen * size)) new.toList
    pure (.slice base need sCap)
  else
    if (need : Int) > IntKind.i64.max ∧ (zeros ∨ (← typeInfo elem).bytes = 0) then runtimePanic (.error "growslice: len out of range")
    if Builtin.nextslicecap need sCap * (← typeInfo elem).bytes > 2 ^ 48 then (if zeros then runtimePanic (.error "growslice: len out of range") else do
      if !(← Builtin.mayShare size sLen n base x) then mark .noRoom
      unsupported (.resourceLimit "append: a slice or a string whose bytes no memory bears"))
    let newCap ← choose (.appendCap need sCap elem)
    askRoom (newCap * (← typeInfo elem).bytes)
    let old ← Builtin.firstCells size sLen s
    let new ← appended
    let rest := Builtin.zeroCells (← zeroValue elem).cells (newCap - need)
    pure (.slice (some (← newRow elem (old ++ new ++ rest))) need newCap)
def grownW (w : World) (e : TypeId) (C : Array Value) : World := { w with heap := w.heap.push (.cells C e), drawn := w.drawn + 1 }
theorem zeroCells_size (zc : Array Value) (n : Nat) : (Builtin.zeroCells zc n).size = n * zc.size := by simp [Builtin.zeroCells]
theorem appendOf_grow {elem : TypeId} {size : Nat} {base : Option Addr} {sLen sCap n : Nat} {zeros : Bool} {s x : Value} {appended : Sem (Array Value)} {old new : Array Value} {i : TypeInfo} {z : Value}
    (hi : P.info? elem = some i) (hz : ∀ w : World, (zeroValue elem).run P w = .ok z w) (hlt : sCap < sLen + n) (hroom : appRoom P elem size (sLen + n) = true)
    (hold : (Builtin.firstCells size sLen s).run P { w with drawn := w.drawn + 1 } = .ok old { w with drawn := w.drawn + 1 })
    (hnew : appended.run P { w with drawn := w.drawn + 1 } = .ok new { w with drawn := w.drawn + 1 }) :
    ∃ cap, sLen + n ≤ cap ∧ (appendOf elem size base sLen sCap n zeros s x appended).run P w =
      .ok (.slice (some ⟨w.heap.size, 0, none⟩) (sLen + n) cap) (grownW w elem (old ++ new ++ Builtin.zeroCells z.cells (cap - (sLen + n)))) := by
  obtain ⟨r1, r2⟩ := room_ok hroom (Nat.le_of_lt hlt) zeros hi
  refine ⟨(Question.appendCap (sLen + n) sCap elem).cut (w.tape w.drawn (.appendCap (sLen + n) sCap elem)), by simp [Question.cut], ?_⟩
  unfold appendOf
  simp only [Sem.run_ite]
  rw [if_neg (by omega)]
  simp only [Sem.run_bind, run_typeInfo w hi, Result.andThen_ok]
  rw [if_neg r1]
  simp only [Sem.run_bind, run_typeInfo w hi, Result.andThen_ok]
  rw [if_neg r2]
  simp only [Sem.run_bind, run_choose, Question.forced, Bool.false_eq_true, if_false, Result.andThen_ok, run_typeInfo _ hi, run_askRoom, hold, hnew, hz, newRow, run_newObj, Sem.run_pure]
  rfl
theorem BlkIn.app {b c b' : Blk} {C D : List Value} (hb : BlkIn I w ρ b C) (hc : BlkIn I w ρ c D) (hbd : b ≠ .dead) (hcd : c ≠ .dead) (h : b.app c = some b') (hC : C.length = b.len) : BlkIn I w ρ b' (C ++ D) := by
  obtain ⟨h1, _, h3⟩ := Blk.app_at h hbd hcd
  intro k hk
  rw [h1] at hk
  rw [h3 k hk]
  split
  · rename_i hlt
    obtain ⟨x, hx, hr⟩ := hb k hlt
    exact ⟨x, by rw [List.getElem?_append_left (by omega)]; exact hx, hr⟩
  · rename_i hge
    obtain ⟨x, hx, hr⟩ := hc (k - b.len) (by omega)
    exact ⟨x, by rw [List.getElem?_append_right (by omega), hC]; exact hx, hr⟩
theorem cut_nb (b : Blk) (o n : Nat) : (b.cut o n).tag = none := by
  cases b <;> rfl
theorem app_nb {b c b' : Blk} (h : b.app c = some b') (hb : b.tag = none) (hc : c.tag = none) : b'.tag = none := by
  unfold Blk.app at h
  split at h <;> simp only [Option.some.injEq, reduceCtorEq] at h <;> subst h <;> first | rfl | exact hc | exact hb
theorem over_ty {b c b' : Blk} {o : Nat} (h : b.over o c = some b') (t : TypeId × Nat) (hx : b'.tag = some t) : b.tag = some t := by
  unfold Blk.over at h
  split at h <;> simp only [Option.some.injEq, reduceCtorEq] at h <;> subst h <;> first | exact hx | cases hx
theorem srcB_nb {h : Heap} {s : Nat} {x : V} {k : Bool} {n : Nat} {c : Blk} (hs : srcB h s x = some (k, n, c)) : c.tag = none := by
  unfold srcB at hs
  split at hs
  · split at hs <;> cases hs; rfl
  · cases hs; rfl
  · split at hs
    · split at hs
      · split at hs <;> cases hs
        exact cut_nb _ _ _
      · cases hs
    · cases hs
  · split at hs <;> cases hs; rfl
  · cases hs
theorem newB_at (e : TypeId) (c : Blk) : (newB e c).len = c.len ∧ ∀ k, (newB e c).at k = c.at k := by
  cases c <;> simp [newB, Blk.len, Blk.at]
theorem newB_ty {e : TypeId} {c : Blk} (hc : c.tag = none) : ∀ e' n, (newB e c).tag = some (e', n) → e' = e ∧ n = 0 := by
  intro e' n h
  cases c <;> simp only [newB, Blk.tag, reduceCtorEq, Option.some.injEq, Prod.mk.injEq] at h hc
  exact ⟨h.1.symm, h.2.symm⟩
theorem keepB_at (e : TypeId) (o : Nat) (b c : Blk) : (keepB e o b c).len = c.len ∧ ∀ k, (keepB e o b c).at k = c.at k := by
  unfold keepB
  split
  · split <;> simp [Blk.len, Blk.at]
  · exact ⟨rfl, fun _ => rfl⟩
theorem keepB_ty {e : TypeId} {o : Nat} {b c : Blk} (hc : c.tag = none) : ∀ e' n, (keepB e o b c).tag = some (e', n) → e' = e ∧ n = 0 ∧ o = 0 ∧ b.tag = some (e, 0) := by
  intro e' n h
  unfold keepB at h
  split at h
  · split at h
    · rename_i hh
      simp only [Bool.and_eq_true] at hh
      have h1 := Nat.eq_of_beq_eq_true hh.1
      have h2 := Nat.eq_of_beq_eq_true hh.2
      subst h1
      simp only [Blk.tag, Option.some.injEq, Prod.mk.injEq] at h
      exact ⟨h.1.symm, h.2.symm, h2, rfl⟩
    · cases h
  · rw [hc] at h; cases h
theorem blkIn_atN {b : Blk} {C : List Value} (H : BlkIn I w ρ b C) (hC : C.length = b.len) : VsRel I w ρ (b.atN 0 b.len) C := by
  have := atN_rel H b.len 0 (by omega)
  rwa [List.drop_zero, List.take_of_length_le (by omega)] at this
theorem ones_cells {b : Blk} {C : List Value} (H : BlkIn I w ρ b C) (hC : C.length = b.len) (ho : b.ones = true) : ∀ v ∈ C, v.oneCell' = true := by
  refine all_one_cell (blkIn_atN H hC) (fun v hv => ?_)
  obtain ⟨k, hk⟩ := List.getElem?_of_mem hv
  obtain ⟨hk1, hk2⟩ := List.getElem?_eq_some_iff.1 hk
  rw [atN_length] at hk1
  have := atN_getD b b.len 0 k hk1
  rw [List.getD_eq_getElem?_getD, hk] at this
  simp at this
  rw [this]; exact ones_at ho k hk1
theorem zero_of_room {e : TypeId} {s need : Nat} (h : appRoom P e s need = true) : ∃ z' : Value, (∀ w : World, (zeroValue e).run P w = .ok z' w) ∧ z'.cells.size = s := by
  simp only [appRoom, Bool.and_eq_true, zeroFits] at h
  obtain ⟨_, h⟩ := h
  cases hz : zeroT P e with
  | none => simp [hz] at h
  | some z =>
    simp only [hz, beq_iff] at h
    obtain ⟨z', e1, e2, e3⟩ := run_zeroT (P := P) (w := default) (I := fun _ => False) (ρ := fun _ => none) hz
    have hc := (cells_sound e2 (ofValue_not_any e3)).length
    refine ⟨z', fun w => ?_, by simp at hc; omega⟩
    unfold zeroT at hz
    cases hi : P.info? e with
    | none => simp [hi] at hz
    | some i =>
      simp only [hi] at hz
      cases hzz : i.zero with
      | none => simp [hzz] at hz
      | some z2 =>
        simp only [hzz] at hz
        have : z2 = z' := by
          have h1 : (zeroValue e).run P default = .ok z2 default := by simp [zeroValue, run_typeInfo _ hi, hzz]
          rw [h1] at e1; cases e1; rfl
        subst this
        simp [zeroValue, run_typeInfo w hi, hzz]
theorem appH_sound (R : Rel ρ I w h F) (hF : F idx) (hidx : h[idx]? = some .dead) {e : TypeId} {s n : Nat} {x v : V} {x' y' : Value} {c : Blk} {h' : Heap} {zeros : Bool} {appended : Sem (Array Value)} {new : Array Value}
    (hx : VRel I w ρ x x') (hsz : sizeT P e = some s) (hc1 : c.len = n * s) (hc2 : c ≠ .dead) (hc3 : c.tag = none) (hnew : ∀ w₁ : World, w₁.heap = w.heap → appended.run P w₁ = .ok new w₁) (hn1 : new.size = n * s) (hn2 : BlkIn I w ρ c new.toList)
    (hs : appH P idx h e s x n c = some (true, v, h')) :
    ∃ base sLen sCap, x' = .slice base sLen sCap ∧ ∃ v' w' ρ' , (appendOf e s base sLen sCap n zeros x' y' appended).run P w = .ok v' w' ∧ VRel I w' ρ' v v' ∧ Rel ρ' I w' h' (fun i => F i ∧ i ≠ idx) ∧ Went ρ I w h ρ' I w' h' := by
  obtain ⟨i, hi, hib, his⟩ := info_bytes hsz
  have hlt : idx < h.length := by
    rcases Nat.lt_or_ge idx h.length with h0 | h0
    · exact h0
    · rw [List.getElem?_eq_none h0] at hidx; cases hidx
  -- a new row: the old cells, the new ones, zeros
  have grow : ∀ (base : Option Addr) (sLen sCap : Nat) (xv : Value) (old : Array Value) (b' : Blk) (h1 : Heap), sCap < sLen + n → appRoom P e s (sLen + n) = true →
      (∀ w₁ : World, w₁.heap = w.heap → (Builtin.firstCells s sLen xv).run P w₁ = .ok old w₁) → old.size = sLen * s → b'.len = (sLen + n) * s → BlkIn I w ρ b' (old ++ new).toList → (∀ e' n, b'.tag = some (e', n) → e' = e ∧ n = 0) →
      h1.length = h.length → (∀ j y, j ≠ idx → h1[j]? = some y → y ≠ .dead → h[j]? = some y) →
      ∃ v' w' ρ', (appendOf e s base sLen sCap n zeros xv y' appended).run P w = .ok v' w' ∧ VRel I w' ρ' (.sl idx 0 s (sLen + n) none) v' ∧ Rel ρ' I w' (h1.set idx b') (fun i => F i ∧ i ≠ idx) ∧ Went ρ I w h ρ' I w' (h1.set idx b') := by
    intro base sLen sCap xv old b' h1 g1 g2 g3 g4 g5 g6 g9 g7 g8
    obtain ⟨z', hz', hzs⟩ := zero_of_room g2
    obtain ⟨cap, k1, k2⟩ := appendOf_grow (P := P) (w := w) (size := s) (base := base) (sLen := sLen) (sCap := sCap) (n := n) (zeros := zeros) (s := xv) (x := y') (appended := appended) (old := old) (new := new) hi hz' g1 g2
        (g3 _ rfl) (hnew _ rfl)
    let C := old ++ new ++ Builtin.zeroCells z'.cells (cap - (sLen + n))
    have hC : C.size = cap * s := by
      simp only [C, Array.size_append, g4, hn1, zeroCells_size, hzs]
      rw [← Nat.add_mul, ← Nat.add_mul]; congr 1; omega
    have key := rel_put (h1 := h1) (idx := idx) (l := ⟨w.heap.size, 0, C.size⟩) (b := b') (w' := grownW w e C) R rfl rfl rfl (by simp [grownW]) g7 hlt g8 (.inl (R.free _ hF))
      (fun k hk _ => by simp only [grownW]; rw [Array.getElem?_push, if_neg (by omega)]) (.inl (Nat.le_refl _)) (by
        intro j x lj hj hxj hxd hlj
        obtain ⟨q, hq, hB, _⟩ := R.blk j x (g8 j x hj hxj hxd) hxd
        rw [hlj] at hq; cases hq
        obtain ⟨C', e', fz', m1, _⟩ := hB.mem
        intro e
        simp only at e
        rw [e, Array.getElem?_eq_none (Nat.le_refl _)] at m1
        cases m1) (by
        intro _ hmono
        refine ⟨⟨C, e, (0, 0), by simp [grownW], by simp, fun k hk => by simp, fun k hk => ?_⟩, by
          rw [g5, hC]; exact Nat.mul_le_mul_right _ k1, fun e' n' ex => ⟨rfl, C, (0, 0), by rw [(g9 e' n' ex).1]; simp [grownW], fun h => (h (g9 e' n' ex).2).elim⟩⟩
        obtain ⟨c, hc, hr⟩ := g6 k hk
        refine ⟨c, ?_, hmono _ _ hr⟩
        have hkl : k < (old ++ new).size := by simp only [Array.size_append, g4, hn1]; rw [← Nat.add_mul]; omega
        simp only [Nat.zero_add, C]
        rw [Array.getElem?_append_left hkl, ← Array.getElem?_toList]
        exact hc)
    refine ⟨_, _, _, k2, ?_, key.1, key.2⟩
    exact sl_new k1 (by rw [hC]; exact Nat.le_refl _) (by intro k hk; cases hk)
  unfold appH at hs
  split at hs <;> try simp only [reduceCtorEq] at hs
  · -- nil
    cases hx
    refine ⟨none, 0, 0, rfl, ?_⟩
    split at hs
    · rename_i hn
      simp at hs
      obtain ⟨rfl, rfl⟩ := hs
      subst hn
      refine ⟨.slice none 0 0, w, ρ, ?_, .nilSl _, R.weaken (fun _ h => h.1), .refl _ _ _ _⟩
      simp [appendOf, hnew w rfl]
    · rename_i hn
      simp at hs
      obtain ⟨hroom, rfl, rfl⟩ := hs
      have := grow none 0 0 (.slice none 0 0) #[] (newB e c) h (by omega) (by simpa using hroom) (fun _ _ => by simp [Builtin.firstCells]) (by simp) (by rw [(newB_at e c).1]; simpa using hc1) (by
        intro k hk
        rw [(newB_at e c).1] at hk
        rw [(newB_at e c).2]
        simpa using hn2 k hk) (newB_ty hc3) rfl (fun _ _ _ h _ => h)
      simpa using this
  · rename_i i' q s' len cap
    split at hs <;> try simp only [reduceCtorEq] at hs
    rename_i hss; subst hss
    split at hs <;> try simp only [reduceCtorEq] at hs
    rename_i b hb
    split at hs <;> try simp only [reduceCtorEq] at hs
    rename_i hd
    have hd : isDead b = false := by simpa using hd
    have hne : b ≠ .dead := by rintro rfl; simp [isDead] at hd
    have hi'lt : i' < h.length := by
      rcases Nat.lt_or_ge i' h.length with h0 | h0
      · exact h0
      · rw [List.getElem?_eq_none h0] at hb; cases hb
    have hii : i' ≠ idx := by rintro rfl; rw [hidx] at hb; cases hb; exact hne rfl
    -- the old cells
    have oldCells : q + len * s' ≤ b.len → ∃ old : Array Value, (∀ w₁ : World, w₁.heap = w.heap → (Builtin.firstCells s' len x').run P w₁ = .ok old w₁) ∧ old.size = len * s' ∧ BlkIn I w ρ (b.cut q (len * s')) old.toList := by
      intro hq
      have hsrc : srcB h s' (.sl i' q s' len cap) = some (true, len, b.cut q (len * s')) := by
        simp only [srcB, if_true, hb, hd, Bool.false_eq_true, if_false, hq, decide_true]
      obtain ⟨_, _, _, s4⟩ := srcB_sound (P := P) R hx hsrc
      obtain ⟨C, c1, c2, c3⟩ := s4 len (Nat.le_refl _)
      refine ⟨C, c1, c2, ?_⟩
      have : (b.cut q (len * s')).cut 0 (len * s') = b.cut q (len * s') := by
        obtain ⟨d1, d2, _⟩ := Blk.cut_at hq hne
        cases hcc : b.cut q (len * s') <;> rw [hcc] at d1 d2 <;> simp only [Blk.len] at d1 <;> simp [Blk.cut, d1.symm]
        all_goals
          have := cut_nb b q (len * s')
          rw [hcc] at this
          cases this
      rwa [this] at c3
    -- more than there is room for: a new row
    have growArm : ∀ (b' b2 : Blk) (h1 : Heap) (base : Option Addr) (sCap : Nat), (b.cut q (len * s')).app c = some b' → b2.len = b'.len → (∀ k, b2.at k = b'.at k) → (∀ e' n, b2.tag = some (e', n) → e' = e ∧ n = 0) → q + len * s' ≤ b.len → appRoom P e s' (len + n) = true → sCap < len + n →
        h1.length = h.length → (∀ j y, j ≠ idx → h1[j]? = some y → y ≠ .dead → h[j]? = some y) →
        ∃ v' w' ρ', (appendOf e s' base len sCap n zeros x' y' appended).run P w = .ok v' w' ∧ VRel I w' ρ' (.sl idx 0 s' (len + n) none) v' ∧ Rel ρ' I w' (h1.set idx b2) (fun i => F i ∧ i ≠ idx) ∧ Went ρ I w h ρ' I w' (h1.set idx b2) := by
      intro b' b2 h1 base sCap hb' hb2 hb3 hb4 hq hroom hcap g7 g8
      obtain ⟨old, o1, o2, o3⟩ := oldCells hq
      obtain ⟨d1, d2, _⟩ := Blk.cut_at hq hne
      obtain ⟨a1, a2, a3⟩ := Blk.app_at hb' d2 hc2
      refine grow base len sCap x' old b2 h1 hcap hroom o1 o2 (by rw [hb2, a1, d1, hc1, Nat.add_mul]) ?_ hb4 g7 g8
      have := BlkIn.app o3 hn2 d2 hc2 hb' (by simp; omega)
      intro k hk
      rw [hb2] at hk
      rw [hb3]
      simpa using this k hk
    split at hs
    · -- the room is known
      rename_i k
      split at hs
      · rename_i hle
        split at hs <;> simp at hs
        rename_i b' hb'
        obtain ⟨⟨h1, hones⟩, rfl, rfl⟩ := hs
        have hnm : (len + n) * s' = len * s' + n * s' := Nat.add_mul _ _ _
        obtain ⟨v1, v2, v3⟩ := Blk.over_at hb' hne (by rw [hc1]; omega)
        cases hx with
        | sl _ _ _ _ _ _ cc l hl k1 k2 k3 =>
          have hcc := k3 k rfl
          subst hcc
          refine ⟨_, _, _, rfl, ?_⟩
          obtain ⟨w', e1, e2, e3⟩ := write_sound (P := P) R (q := q + len * s') (vs := c.atN 0 c.len) (vs' := new.toList) (b' := b') hb hd hl (blkIn_atN hn2 (by simp; omega)) (ones_cells hn2 (by simp; omega) hones)
            (by simp; omega) (over_ty hb') v1 (fun j _ => by
              rw [v3 j, atN_length]
              split
              · rename_i hr; rw [atN_getD _ _ _ _ (by omega), Nat.zero_add]
              · rfl)
          refine ⟨.slice (some ⟨l.b, l.d + q, none⟩) (len + n) k, w', ρ, ?_, ?_, e2.weaken (fun _ h => h.1), e3⟩
          · simp only [appendOf, Sem.run_ite]
            rw [if_pos hle]
            simp only [Sem.run_bind, hnew w rfl, Result.andThen_ok, add_eq]
            rw [show l.d + q + len * s' = l.d + (q + len * s') from by omega, e1]
            rfl
          · exact .sl _ _ _ _ _ _ _ l hl hle (by omega) (by intro m hm; cases hm; rfl)
        | slz _ _ _ _ _ y l hl k3 =>
          have hk0 := k3 k rfl
          subst hk0
          have hn0 : n = 0 := by omega
          subst hn0
          refine ⟨_, _, _, rfl, ?_⟩
          have hnil : new.toList = [] := by
            have : new.size = 0 := by omega
            exact List.length_eq_zero_iff.1 (by simpa using this)
          obtain ⟨w', e1, e2, e3⟩ := write_sound (P := P) R (q := 0) (vs := []) (vs' := []) (b' := b') hb hd hl (.nil _) (by simp) (by simp) (over_ty hb') v1 (fun j _ => by
              rw [v3 j, if_neg (by rw [hc1]; omega), if_neg (by simp)])
          have hw : w' = w := by simp [storeCells] at e1; exact e1.symm
          subst hw
          refine ⟨.slice (some ⟨l.b, y, none⟩) 0 0, w', ρ, ?_, ?_, e2.weaken (fun _ h => h.1), e3⟩
          · simp [appendOf, hnew w' rfl, hnil, storeCells]
          · exact .slz _ _ _ _ _ y l hl (by intro m hm; cases hm; rfl)
      · rename_i hgt
        split at hs <;> simp at hs
        rename_i b' hb'
        obtain ⟨⟨h1, hroom⟩, rfl, rfl⟩ := hs
        cases hx with
        | sl _ _ _ _ _ _ cc l hl k1 k2 k3 =>
          have hcc := k3 k rfl
          subst hcc
          exact ⟨_, _, _, rfl, growArm b' b' h _ k hb' rfl (fun _ => rfl) (fun e' n' ex => by rw [app_nb hb' (cut_nb _ _ _) hc3] at ex; cases ex) h1 hroom (by omega) rfl (fun _ _ _ h _ => h)⟩
        | slz _ _ _ _ _ y l hl k3 =>
          have hk0 := k3 k rfl
          subst hk0
          exact ⟨_, _, _, rfl, growArm b' b' h _ 0 hb' rfl (fun _ => rfl) (fun e' n' ex => by rw [app_nb hb' (cut_nb _ _ _) hc3] at ex; cases ex) h1 hroom (by omega) rfl (fun _ _ _ h _ => h)⟩
    · -- the room is not known
      split at hs <;> simp at hs
      rename_i b' hb'
      obtain ⟨⟨⟨h1, hroom⟩, hones⟩, rfl, rfl⟩ := hs
      have g7 : (h.set i' .dead).length = h.length := by simp
      have g8 : ∀ j y, j ≠ idx → (h.set i' .dead)[j]? = some y → y ≠ .dead → h[j]? = some y := by
        intro j y _ hy hyd
        by_cases hj : j = i'
        · subst hj; rw [List.getElem?_set_self hi'lt] at hy; cases hy; exact absurd rfl hyd
        · rwa [List.getElem?_set_ne (Ne.symm hj)] at hy
      obtain ⟨d1, d2, d3⟩ := Blk.cut_at h1 hne
      obtain ⟨a1, a2, a3⟩ := Blk.app_at hb' d2 hc2
      cases hx with
      | sl _ _ _ _ _ _ cc l hl k1 k2 k3 =>
        refine ⟨_, _, _, rfl, ?_⟩
        by_cases hle : len + n ≤ cc
        · -- in place
          have hnm : (len + n) * s' = len * s' + n * s' := Nat.add_mul _ _ _
          have hcs : (len + n) * s' ≤ cc * s' := Nat.mul_le_mul_right _ hle
          obtain ⟨C, e', fz, m1, m2, m3, m4, m5, m6⟩ := live_blk R hb hd hl
          obtain ⟨w', C', e1, e2, e3, e4, e5, e6, e7, e8, e9⟩ := storeCells_run (P := P) new.toList w C (l.d + (q + len * s')) 0 m1 (ones_cells hn2 (by simp; omega) hones) (by simp; omega) (fun k hk1 hk2 => by
            simp at hk2
            have := m3 (k - l.d) (by omega)
            rwa [show l.d + (k - l.d) = k from by omega] at this)
          have key := rel_put (h1 := h.set i' .dead) (idx := idx) (l := ⟨l.b, l.d + q, l.room - q⟩) (b := keepB e q b b') (w' := w') R e6 e7 e8 (Nat.le_of_eq e4.symm) g7 hlt g8 (.inl (R.free _ hF)) (fun k _ hk => e5 k hk)
            (.inr ⟨i', b, l, hb, hne, hl, rfl⟩) (by
              intro j y lj hj hy hyd hlj
              have hji : j ≠ i' := by rintro rfl; rw [List.getElem?_set_self hi'lt] at hy; cases hy; exact hyd rfl
              rw [List.getElem?_set_ne (Ne.symm hji)] at hy
              exact R.apart j i' y b lj l hji hy hyd hb hne hlj hl) (by
              intro _ hmono
              refine ⟨⟨C', e', fz, e2, by rw [e3, m2]; simp only; omega, fun k hk => ?_, fun k hk => ?_⟩, by rw [(keepB_at e q b b').1, a1, d1, hc1]; simp only; omega, fun e'' n'' ex => ?_⟩
              rotate_left 2
              · obtain ⟨t1, t0, t2, t3⟩ := keepB_ty (app_nb hb' (cut_nb _ _ _) hc3) e'' n'' ex
                subst t1
                obtain ⟨q0, q1, q2, q3⟩ := R.blk i' b hb hne
                rw [hl] at q1; cases q1
                obtain ⟨u1, C2, fz2, u2, _⟩ := q2.ty _ _ t3
                rw [m1] at u2; cases u2
                exact ⟨by simp only; omega, C', fz, e2, fun h => (h t0).elim⟩
              · have := m3 (q + k) (by simp only at hk; omega)
                simp only
                rwa [← Nat.add_assoc] at this
              · rw [(keepB_at e q b b').1, a1, d1, hc1] at hk
                rw [(keepB_at e q b b').2, a3 k (by rw [d1, hc1]; exact hk), d1, e9]
                simp only
                by_cases hlt2 : k < len * s'
                · rw [if_pos hlt2, if_neg (by omega), d3 k hlt2]
                  obtain ⟨c, hc, hr⟩ := m4 (q + k) (by omega)
                  rw [List.getElem?_drop, Array.getElem?_toList] at hc
                  exact ⟨c, by rw [Nat.add_assoc]; exact hc, hmono _ _ hr⟩
                · rw [if_neg hlt2, if_pos (by simp; omega)]
                  obtain ⟨c, hc, hr⟩ := hn2 (k - len * s') (by rw [hc1]; omega)
                  exact ⟨c, by rw [show l.d + q + k - (l.d + (q + len * s') + 0) = k - len * s' from by omega]; exact hc, hmono _ _ hr⟩)
          refine ⟨.slice (some ⟨l.b, l.d + q, none⟩) (len + n) cc, w', _, ?_, ?_, key.1, key.2⟩
          · simp only [appendOf, Sem.run_ite]
            rw [if_pos hle]
            simp only [Sem.run_bind, hnew w rfl, Result.andThen_ok, add_eq]
            rw [show l.d + q + len * s' = l.d + (q + len * s') from by omega, e1]
            rfl
          · have := VRel.sl (I := I) (w := w') (upd ρ idx ⟨l.b, l.d + q, l.room - q⟩) idx 0 s' (len + n) none cc _ (upd_same _ _ _) hle (by simp only; omega) (by intro m hm; cases hm)
            simpa using this
        · exact growArm b' (keepB e q b b') _ _ cc hb' (keepB_at e q b b').1 (keepB_at e q b b').2 (fun e' n' ex => ⟨(keepB_ty (app_nb hb' (cut_nb _ _ _) hc3) e' n' ex).1, (keepB_ty (app_nb hb' (cut_nb _ _ _) hc3) e' n' ex).2.1⟩) h1 hroom (by omega) g7 g8
      | slz _ _ _ _ _ y l hl k3 =>
        refine ⟨_, _, _, rfl, ?_⟩
        by_cases hn0 : n = 0
        · subst hn0
          obtain ⟨C, e', fz, m1, m2, m3, m4, m5, m6⟩ := live_blk R hb hd hl
          have key := rel_put (h1 := h.set i' .dead) (idx := idx) (l := l) (b := keepB e q b b') (w' := w) R rfl rfl rfl (Nat.le_refl _) g7 hlt g8 (.inl (R.free _ hF)) (fun _ _ _ => rfl)
            (.inr ⟨i', b, l, hb, hne, hl, rfl⟩) (by
              intro j y lj hj hy hyd hlj
              have hji : j ≠ i' := by rintro rfl; rw [List.getElem?_set_self hi'lt] at hy; cases hy; exact hyd rfl
              rw [List.getElem?_set_ne (Ne.symm hji)] at hy
              exact R.apart j i' y b lj l hji hy hyd hb hne hlj hl) (by
              intro _ hmono
              refine ⟨⟨C, e', fz, m1, m2, m3, fun k hk => ?_⟩, by rw [(keepB_at e q b b').1, a1, d1, hc1]; omega, fun e'' n'' ex => ?_⟩
              · rw [(keepB_at e q b b').1, a1, d1, hc1] at hk; omega
              · obtain ⟨t1, t0, t2, t3⟩ := keepB_ty (app_nb hb' (cut_nb _ _ _) hc3) e'' n'' ex
                subst t1
                obtain ⟨q0, q1, q2, q3⟩ := R.blk i' b hb hne
                rw [hl] at q1; cases q1
                subst t0
                exact q2.ty _ _ t3)
          have hnil : new.toList = [] := by
            have : new.size = 0 := by omega
            exact List.length_eq_zero_iff.1 (by simpa using this)
          refine ⟨.slice (some ⟨l.b, y, none⟩) 0 0, w, _, ?_, ?_, key.1, key.2⟩
          · simp [appendOf, hnew w rfl, hnil, storeCells]
          · exact .slz _ _ _ _ _ y l (upd_same _ _ _) (by intro m hm; cases hm)
        · exact growArm b' (keepB e q b b') _ _ 0 hb' (keepB_at e q b b').1 (keepB_at e q b b').2 (fun e' n' ex => ⟨(keepB_ty (app_nb hb' (cut_nb _ _ _) hc3) e' n' ex).1, (keepB_ty (app_nb hb' (cut_nb _ _ _) hc3) e' n' ex).2.1⟩) h1 hroom (by omega) g7 g8
theorem append_sound (R : Rel ρ I w h F) (FR : FRel I w ρ g a) (hF : F idx) (hidx : h[idx]? = some .dead) {args : Array Operand} {ts : Array TypeId} {v : V} {h' : Heap}
    (ho : o.op = .call { callee := .builtin .append, args := args, argTypes := ts }) (hs : stepH P idx g h o.op = some (true, v, h')) : Did P a o ρ I w h F idx v h' := by
  rw [ho] at hs
  simp only [stepH] at hs
  split at hs <;> try simp only [reduceCtorEq] at hs
  rename_i t t' tr x y hts hargs
  split at hs <;> try simp only [reduceCtorEq] at hs
  rename_i e hu
  have hr := opnds_sound FR hargs
  have h0 : ts[0]? = some t := by rw [← Array.getElem?_toList, hts]; rfl
  have h1 : ts[1]? = some t' := by rw [← Array.getElem?_toList, hts]; rfl
  cases hr' : args.toList.map a.eval with
  | nil => rw [hr'] at hr; cases hr
  | cons x' r1 =>
    rw [hr'] at hr
    cases hr with
    | cons _ _ _ _ _ hx hr =>
      cases hr with
      | cons _ _ y' _ r2 hy hr =>
        cases hr
        have eargs : args.map a.eval = #[x', y'] := by
          apply Array.ext'; simp [hr']
        have run0 : ∀ (base : Option Addr) (sLen sCap : Nat) (s : Nat) (zeros : Bool) (n : Nat) (w₂ : World) (r : Result Value), x' = .slice base sLen sCap → sizeT P e = some s → True → (Builtin.append_ ts o.type #[x', y']).run P w = r →
            (execOp a.eval o).run P w = r.andThen (fun v w => .ok (.value v) w) := by
          intro base sLen sCap s zeros n w₂ r _ _ _ hrun
          simp only [execOp, ho, resolve, Sem.run_bind, Sem.run_pure, Result.andThen_ok, invoke, eargs, builtin, hrun]
        split at hs <;> try simp only [reduceCtorEq] at hs
        · rename_i s k hsz hut'
          split at hs <;> try simp only [reduceCtorEq] at hs
          rename_i n hn
          split at hs <;> try simp only [reduceCtorEq] at hs
          rename_i c hc
          split at hs <;> simp at hs
          rename_i k' r hap
          obtain ⟨⟨⟨⟨⟨g1, g2⟩, g3⟩, g4⟩, rfl⟩, hrv⟩ := hs
          obtain ⟨j, hj⟩ := asIx_sound hy hn
          subst hj
          obtain ⟨i, hi, hib, his⟩ := info_bytes hsz
          obtain ⟨z', z1, z2, z3, z4⟩ := zeroN_sound (P := P) (w := w) (I := I) (ρ := ρ) hc g4
          have hzrun : ∀ w₁ : World, (zeroValue e).run P w₁ = .ok z' w₁ := by
            intro w₁
            obtain ⟨z2, y1, _⟩ := zeroN_sound (P := P) (w := w₁) (I := I) (ρ := ρ) hc g4
            have q : ∀ w : World, (zeroValue e).run P w = match i.zero with | some v => .ok v w | none => .halt (.unsupported (.resourceLimit "a value of more than 2^22 cells")) w := by
              intro w
              simp only [zeroValue, Sem.run_bind, run_typeInfo w hi, Result.andThen_ok]
              cases i.zero <;> rfl
            rw [q] at z1 y1 ⊢
            cases hz : i.zero with
            | none => simp [hz] at z1
            | some zz => simp [hz] at z1 ⊢; exact z1
          unfold most46 at g2
          unfold most48 at g3
          have wn : IntKind.i64.wrap n = n := IntWalk.i64_in _ (by omega)
          have hsmall : ¬ (n * (i.bytes : Int) > 2 ^ 48) := by
            have h6 : ((n.toNat * bytesT P e : Nat) : Int) ≤ ((2 ^ 48 : Nat) : Int) := by exact_mod_cast g3
            rw [Int.natCast_mul, Int.toNat_of_nonneg (by omega), ← hib] at h6
            have : ((2 ^ 48 : Nat) : Int) = 2 ^ 48 := by norm_cast
            omega
          let appended : Sem (Array Value) := if n.toNat * s = 0 then pure #[] else do pure (Builtin.zeroCells (← zeroValue e).cells n.toNat)
          have hnew : ∀ w₁ : World, w₁.heap = w.heap → appended.run P w₁ = .ok (zerosOf z'.cells (n.toNat * s)) w₁ := by
            intro w₁ _
            simp only [appended]
            split
            · rename_i h0; rw [h0]; simp [zerosOf]
            · rename_i h0
              have hs' : z'.cells.size = s := z4 (by rcases Nat.eq_zero_or_pos n.toNat with q | q; rw [q] at h0; simp at h0; exact q)
              simp only [Sem.run_bind, hzrun, Result.andThen_ok, Sem.run_pure, Builtin.zeroCells, zerosOf, hs']
          obtain ⟨base, sLen, sCap, rfl, v', w', ρ', e1, e2, e3, e4⟩ := appH_sound (P := P) (y' := .int j n) (zeros := true) (appended := appended) R hF hidx hx hsz g4 z2 (zeroN_ty hc) hnew (by simp [zerosOf]) z3 (by rw [hap, hrv])
          refine ⟨.value v', w', ρ', I, v', ?_, .inl rfl, e2, e3, e4⟩
          rw [run0 base sLen sCap s true n.toNat w (.ok v' w') rfl hsz trivial]
          · rfl
          · rw [← e1]
            have hneg : ¬ n < 0 := by omega
            simp only [Builtin.append_, appendOf, appended, h0, h1, List.getElem?_toArray, List.getElem?_cons_zero, List.getElem?_cons_succ, Sem.run_bind, run_underlying hu, run_underlying hut', Result.andThen_ok, run_sizeT hsz, Sem.run_pure, asInt, asIntOf, wn, Sem.run_ite, if_true, Bool.not_true, Bool.false_eq_true, if_false, run_typeInfo w hi, hneg, hsmall]
            rfl
        · rename_i s d hnint hsz hut'
          split at hs <;> try simp only [reduceCtorEq] at hs
          rename_i k' n c hsrc
          split at hs <;> simp at hs
          rename_i k2 r hap
          obtain ⟨⟨rfl, rfl⟩, hrv⟩ := hs
          obtain ⟨i, hi, hib, his⟩ := info_bytes hsz
          obtain ⟨s1, s2, s3, s4⟩ := srcB_sound (P := P) R hy hsrc
          obtain ⟨C, c1, c2, c3⟩ := s4 n (Nat.le_refl _)
          have hcut : c.cut 0 (n * s) = c := by
            rw [← s2]
            have hnb := srcB_nb hsrc
            cases c <;> simp [Blk.cut, Blk.len] <;> cases hnb
          rw [hcut] at c3
          obtain ⟨base, sLen, sCap, rfl, v', w', ρ', e1, e2, e3, e4⟩ := appH_sound (P := P) (y' := y') (zeros := false) (appended := Builtin.firstCells s n y') R hF hidx hx hsz s2 s3 (srcB_nb hsrc) c1 c2 c3 (by rw [hap, hrv])
          refine ⟨.value v', w', ρ', I, v', ?_, .inl rfl, e2, e3, e4⟩
          rw [run0 base sLen sCap s true n w (.ok v' w') rfl hsz trivial]
          · rfl
          · rw [← e1]
            clear hap hrv
            cases d
            all_goals first | exact (hnint _ rfl).elim | skip
            all_goals
             simp only [Builtin.append_, appendOf, h0, h1, List.getElem?_toArray, List.getElem?_cons_zero, List.getElem?_cons_succ, Sem.run_bind, run_underlying hu, run_underlying hut', Result.andThen_ok, run_sizeT hsz, Sem.run_pure, Bool.false_eq_true, if_false, s1, Sem.run_ite, if_true, Bool.not_false, run_typeInfo w hi]
             rfl
theorem copy_sound (R : Rel ρ I w h F) (FR : FRel I w ρ g a) {args : Array Operand} {ts : Array TypeId} {v : V} {h' : Heap}
    (ho : o.op = .call { callee := .builtin .copy, args := args, argTypes := ts }) (hs : stepH P idx g h o.op = some (true, v, h')) : Did P a o ρ I w h F idx v h' := by
  rw [ho] at hs
  simp only [stepH] at hs
  split at hs <;> try simp only [reduceCtorEq] at hs
  rename_i t tr i q s len cap y hts hargs
  split at hs <;> try simp only [reduceCtorEq] at hs
  rename_i e hu
  split at hs <;> try simp only [reduceCtorEq] at hs
  rename_i hsz
  split at hs <;> try simp only [reduceCtorEq] at hs
  rename_i k n c b hsrc hb
  split at hs <;> try simp only [reduceCtorEq] at hs
  rename_i hd
  split at hs <;> simp at hs
  rename_i b' hb'
  obtain ⟨⟨⟨rfl, g1⟩, hones⟩, rfl, rfl⟩ := hs
  have hd : isDead b = false := by simpa using hd
  have hne : b ≠ .dead := by rintro rfl; simp [isDead] at hd
  have hr := opnds_sound FR hargs
  have h0 : ts[0]? = some t := by rw [← Array.getElem?_toList, hts]; rfl
  cases hr' : args.toList.map a.eval with
  | nil => rw [hr'] at hr; cases hr
  | cons x' r1 =>
    rw [hr'] at hr
    cases hr with
    | cons _ _ _ _ _ hx hr =>
      cases hr with
      | cons _ _ y' _ r2 hy hr =>
        cases hr
        have eargs : args.map a.eval = #[x', y'] := by
          apply Array.ext'; simp [hr']
        obtain ⟨s1, s2, s3, s4⟩ := srcB_sound (P := P) R hy hsrc
        obtain ⟨C, c1, c2, c3⟩ := s4 (min n len) (Nat.min_le_left _ _)
        have hms : min n len * s ≤ n * s := Nat.mul_le_mul_right _ (Nat.min_le_left _ _)
        obtain ⟨d1, d2, d3⟩ := Blk.cut_at (b := c) (o := 0) (n := min n len * s) (by omega) s3
        have hones' : (c.cut 0 (min n len * s)).ones = true := by
          have hnb := srcB_nb hsrc
          cases c <;> simp only [Blk.ones] at hones <;> simp only [Blk.cut, Blk.ones]
          · cases hones
          · simp only [List.drop_zero]
            rw [List.all_eq_true] at hones ⊢
            exact fun v hv => hones v (List.mem_of_mem_take hv)
          · cases hnb
        obtain ⟨v1, v2, v3⟩ := Blk.over_at hb' hne (by rw [d1]; exact g1)
        have hfold : (execOp a.eval o).run P w = ((Builtin.copy_ ts o.type #[x', y']).run P w).andThen (fun v w => .ok (.value v) w) := by
          simp only [execOp, ho, resolve, Sem.run_bind, Sem.run_pure, Result.andThen_ok, invoke, eargs, builtin]
        cases hx with
        | sl _ _ _ _ _ _ cc l hl k1 k2 k3 =>
          obtain ⟨w', e1, e2, e3⟩ := write_sound (P := P) R (q := q) (vs := (c.cut 0 (min n len * s)).atN 0 (c.cut 0 (min n len * s)).len) (vs' := C.toList) (b' := b') hb hd hl (blkIn_atN c3 (by simp; omega)) (ones_cells c3 (by simp; omega) hones')
            (by simp; omega) (over_ty hb') v1 (fun j _ => by
              rw [v3 j, atN_length]
              split
              · rename_i hr; rw [atN_getD _ _ _ _ (by omega), Nat.zero_add]
              · rfl)
          refine ⟨.value (goInt (min n len : Nat)), w', ρ, I, _, ?_, .inl rfl, .int _ _ _ rfl, e2.weaken (fun _ h => h.1), e3⟩
          rw [hfold]
          have hmin : Nat.min n len = min n len := rfl
          simp only [Builtin.copy_, h0, List.getElem?_toArray, List.getElem?_cons_zero, List.getElem?_cons_succ, Sem.run_bind, run_underlying hu, Result.andThen_ok, s1, run_sizeT hsz, hmin, c1 w rfl, e1, Sem.run_pure]
        | slz _ _ _ _ _ y l hl k3 =>
          have hm0 : min n 0 = 0 := by omega
          rw [hm0] at c1 c2 v3 d1
          have hnil : C.toList = [] := by
            have : C.size = 0 := by omega
            exact List.length_eq_zero_iff.1 (by simpa using this)
          obtain ⟨w', e1, e2, e3⟩ := write_sound (P := P) R (q := 0) (vs := []) (vs' := []) (b' := b') hb hd hl (.nil _) (by simp) (by simp) (over_ty hb') v1 (fun j _ => by
              rw [v3 j, if_neg (by rw [d1]; omega), if_neg (by simp)])
          have hw : w' = w := by simp [storeCells] at e1; exact e1.symm
          subst hw
          refine ⟨.value (goInt 0), w', ρ, I, _, ?_, .inl rfl, by rw [hm0]; exact .int _ _ _ rfl, e2.weaken (fun _ h => h.1), e3⟩
          rw [hfold]
          have hmin : Nat.min n 0 = 0 := by show min n 0 = 0; omega
          simp only [Builtin.copy_, h0, List.getElem?_toArray, List.getElem?_cons_zero, List.getElem?_cons_succ, Sem.run_bind, run_underlying hu, Result.andThen_ok, s1, run_sizeT hsz, hmin, c1 w' rfl, hnil, storeCells, Sem.run_pure]
          rfl
end
end Go.Lh
end
section
namespace Go.Lh
def stepN (P : Program) (idx : Nat) (g : Fm) (h : Heap) (op : Op) : Res :=
  match stepT P g op with
  | some (k, v) => some (k, v, h)
  | none => stepH P idx g h op
section
variable {P : Program} {w : World} {I : Nat → Prop} {ρ : Ren} {h : Heap} {F : Nat → Prop} {idx : Nat} {a : Act} {o : Oper} {g : Fm}
theorem stepN_sound (R : Rel ρ I w h F) (FR : FRel I w ρ g a) (hmk : Op.makes P o.op = true → F idx ∧ h[idx]? = some .dead) {v : V} {h' : Heap}
    (hs : stepN P idx g h o.op = some (true, v, h')) : Did P a o ρ I w h F idx v h' := by
  unfold stepN at hs
  split at hs
  · rename_i k u hT
    simp at hs
    obtain ⟨rfl, rfl, rfl⟩ := hs
    obtain ⟨v', e1, e2⟩ := stepT_sound (P := P) FR hT
    exact Did.quiet R e1 e2
  · have hs0 := hs
    cases ho : o.op <;> rw [ho] at hs <;> try (simp only [stepH, reduceCtorEq] at hs; done)
    case alloc e => have := hmk (by rw [ho]; rfl); exact alloc_sound R this.1 this.2 ho hs0
    case box e x => have := hmk (by rw [ho]; rfl); exact box_sound R FR this.1 this.2 ho hs0
    case load t x => exact load_sound R FR ho hs0
    case store t x y => exact store_sound R FR ho hs0
    case slice t x lo hi mx =>
      cases mx with
      | none => exact arrSlice_sound R FR ho hs0
      | some _ => simp [stepH] at hs
    case buildSlice t len parts => have := hmk (by rw [ho]; rfl); exact buildSlice_sound R FR this.1 this.2 ho hs0
    case makeSlice t l c => have := hmk (by rw [ho]; rfl); exact makeSlice_sound R FR this.1 this.2 ho hs0
    case convert src dst x =>
      cases hm : Op.makes P o.op with
      | true => have := hmk hm; exact toBytes_sound R FR this.1 this.2 ho hs0 hm
      | false => exact toText_sound R FR ho hs0 hm
    case call c =>
      obtain ⟨cal, args, ts⟩ := c
      cases cal with
      | value _ => simp [stepH] at hs
      | invoke _ _ => simp [stepH] at hs
      | builtin b =>
        cases b <;> try (simp only [stepH, reduceCtorEq] at hs; done)
        case append => have := hmk (by rw [ho]; rfl); exact append_sound R FR this.1 this.2 ho hs0
        case copy => exact copy_sound R FR ho hs0
        case unsafeSliceData => exact sliceData_sound R FR ho hs0
        case unsafeString => exact unsafeString_sound R FR ho hs0
end
mutual
def renV (τ : Nat → Option Nat) : V → Option V
  | .ptr i o => (match τ i with | some k => some (.ptr k o) | none => none)
  | .sl i o s len cap => (match τ i with | some k => some (.sl k o s len cap) | none => none)
  | .fn f a b => (match renVs τ a, renVs τ b with | some a', some b' => some (.fn f a' b') | _, _ => none)
  | .agg cs => (match renVs τ cs with | some l => some (.agg l) | none => none)
  | .tup cs => (match renVs τ cs with | some l => some (.tup l) | none => none)
  | .iface t v => (match renV τ v with | some u => some (.iface t u) | none => none)
  | .any => some .any
  | .u8 x => some (.u8 x)
  | .u16 x => some (.u16 x)
  | .u32 x => some (.u32 x)
  | .u64 x => some (.u64 x)
  | .int k n => some (.int k n)
  | .bool b => some (.bool b)
  | .str s => some (.str s)
  | .nilPtr => some .nilPtr
  | .nilSl => some .nilSl
  | .isl s len f => some (.isl s len f)
  | .iptr s len f i j => some (.iptr s len f i j)
  | .nilFn => some .nilFn
  | .nilIface => some .nilIface
  | .yld l => some (.yld l)
  | .fmap es => some (.fmap es)
def renVs (τ : Nat → Option Nat) : List V → Option (List V)
  | [] => some []
  | v :: r => (match renV τ v, renVs τ r with | some u, some l => some (u :: l) | _, _ => none)
end
mutual
theorem renV_sound {I : Nat → Prop} {w : World} {τ : Nat → Option Nat} {ρ ρ₂ : Ren} (hτ : ∀ i k l, τ i = some k → ρ i = some l → ρ₂ k = some l) :
    ∀ {v : V} {v' : Value} {u : V}, VRel I w ρ v v' → renV τ v = some u → VRel I w ρ₂ u v'
  | .any, _, u, _, h => by rw [renV] at h; cases h; exact .any _ _
  | .u8 _, _, u, hv, h => by rw [renV] at h; cases h; cases hv; exact .u8 _ _
  | .u16 _, _, u, hv, h => by rw [renV] at h; cases h; cases hv; exact .u16 _ _
  | .u32 _, _, u, hv, h => by rw [renV] at h; cases h; cases hv; exact .u32 _ _
  | .u64 _, _, u, hv, h => by rw [renV] at h; cases h; cases hv; exact .u64 _ _
  | .int _ _, _, u, hv, h => by rw [renV] at h; cases h; cases hv with | int _ _ _ hk => exact .int _ _ _ hk
  | .bool _, _, u, hv, h => by rw [renV] at h; cases h; cases hv; exact .bool _ _
  | .str _, _, u, hv, h => by rw [renV] at h; cases h; cases hv; exact .str _ _
  | .ptr i o, _, u, hv, h => by
    rw [renV] at h
    split at h <;> cases h
    rename_i k hk
    cases hv with | ptr _ _ _ l hl => exact .ptr _ _ _ _ (hτ _ _ _ hk hl)
  | .nilPtr, _, u, hv, h => by rw [renV] at h; cases h; cases hv; exact .nilPtr _
  | .sl i o s len cap, _, u, hv, h => by
    rw [renV] at h
    split at h <;> cases h
    rename_i k hk
    cases hv with
    | sl _ _ _ _ _ _ c l hl h1 h2 h3 => exact .sl _ _ _ _ _ _ _ _ (hτ _ _ _ hk hl) h1 h2 h3
    | slz _ _ _ _ _ y l hl h3 => exact .slz _ _ _ _ _ _ _ (hτ _ _ _ hk hl) h3
  | .nilSl, _, u, hv, h => by rw [renV] at h; cases h; cases hv; exact .nilSl _
  | .isl _ _ _, _, u, hv, h => by rw [renV] at h; cases h; cases hv with | isl _ _ _ _ b o c g hI hc hw hv => exact .isl _ _ _ _ b o c g hI hc hw hv | islz _ _ _ _ _ h => exact .islz _ _ _ _ _ h
  | .iptr _ _ _ _ _, _, u, hv, h => by rw [renV] at h; cases h; cases hv with | iptr _ _ _ _ b o _ _ g hI hw hv => exact .iptr _ _ _ _ b o _ _ g hI hw hv
  | .fn f a b, _, u, hv, h => by
    rw [renV] at h
    split at h <;> cases h
    rename_i a' b' ha hb
    cases hv with | fn _ _ _ _ _ _ h1 h2 => exact .fn _ _ _ _ _ _ (renVs_sound hτ h1 ha) (renVs_sound hτ h2 hb)
  | .nilFn, _, u, hv, h => by rw [renV] at h; cases h; cases hv; exact .nilFn _
  | .agg cs, _, u, hv, h => by
    rw [renV] at h
    split at h <;> cases h
    rename_i l hl
    cases hv with | agg _ _ _ h1 => exact .agg _ _ _ (renVs_sound hτ h1 hl)
  | .tup cs, _, u, hv, h => by
    rw [renV] at h
    split at h <;> cases h
    rename_i l hl
    cases hv with | tup _ _ _ h1 => exact .tup _ _ _ (renVs_sound hτ h1 hl)
  | .iface t v, _, u, hv, h => by
    rw [renV] at h
    split at h <;> cases h
    rename_i l hl
    cases hv with | iface _ _ _ _ h1 => exact .iface _ _ _ _ (renV_sound hτ h1 hl)
  | .nilIface, _, u, hv, h => by rw [renV] at h; cases h; cases hv; exact .nilIface _
  | .yld _, _, u, hv, h => by rw [renV] at h; cases h; cases hv; exact .yld _ _
  | .fmap _, _, u, hv, h => by rw [renV] at h; cases h; cases hv with | fmap _ _ r xs clk hI hw hx => exact .fmap _ _ r xs clk hI hw hx
theorem renVs_sound {I : Nat → Prop} {w : World} {τ : Nat → Option Nat} {ρ ρ₂ : Ren} (hτ : ∀ i k l, τ i = some k → ρ i = some l → ρ₂ k = some l) :
    ∀ {v : List V} {v' : List Value} {u : List V}, VsRel I w ρ v v' → renVs τ v = some u → VsRel I w ρ₂ u v'
  | [], _, u, hv, h => by rw [renVs] at h; cases h; cases hv; exact .nil _
  | v :: r, _, u, hv, h => by
    rw [renVs] at h
    split at h <;> cases h
    rename_i a b ha hb
    cases hv with | cons _ _ _ _ _ h1 h2 => exact .cons _ _ _ _ _ (renV_sound hτ h1 ha) (renVs_sound hτ h2 hb)
end
theorem renVs_get {τ : Nat → Option Nat} : ∀ {cs : List V} {l : List V}, renVs τ cs = some l → l.length = cs.length ∧ ∀ k, k < cs.length → renV τ (cs.getD k .any) = some (l.getD k .any)
  | [], l, h => by rw [renVs] at h; cases h; simp
  | v :: r, l, h => by
    rw [renVs] at h
    split at h <;> cases h
    rename_i a b ha hb
    obtain ⟨h1, h2⟩ := renVs_get hb
    refine ⟨by simp [h1], fun k hk => ?_⟩
    cases k with
    | zero => simpa using ha
    | succ k => simpa using h2 k (by simpa using hk)
def renB (τ : Nat → Option Nat) : Blk → Option Blk
  | .vals cs => (match renVs τ cs with | some l => some (.vals l) | none => none)
  | .dead => some .dead
  | .b8 xs => some (.b8 xs)
  | .b64 xs => some (.b64 xs)
  | .ints xs => some (.ints xs)
  | .buf e xs => some (.buf e xs)
  | .bld e a b => (match renV τ a, renV τ b with | some a', some b' => some (.bld e a' b') | _, _ => none)
theorem renB_at {τ : Nat → Option Nat} {b b' : Blk} (h : renB τ b = some b') : b'.len = b.len ∧ (b' = .dead ↔ b = .dead) ∧ ∀ k, k < b.len → renV τ (b.at k) = some (b'.at k) := by
  cases b <;> simp only [renB] at h
  case vals cs =>
    split at h <;> cases h
    rename_i l hl
    obtain ⟨h1, h2⟩ := renVs_get hl
    exact ⟨h1, by simp, h2⟩
  case bld e0 x y =>
    split at h <;> cases h
    rename_i x' y' hx hy
    refine ⟨rfl, by simp, fun k hk => ?_⟩
    rcases k with _ | _ | k
    · exact hx
    · exact hy
    · have : k + 1 + 1 < 2 := hk
      omega
  all_goals (cases h; exact ⟨rfl, by simp, fun k _ => by simp [Blk.at, renV]⟩)
theorem renB_tag {τ : Nat → Option Nat} {b b' : Blk} (h : renB τ b = some b') : b'.tag = b.tag := by
  cases b <;> simp only [renB] at h
  case vals cs => split at h <;> cases h; rfl
  case bld e x y => split at h <;> cases h; rfl
  all_goals (cases h; rfl)
theorem renB_sound {I : Nat → Prop} {w : World} {τ : Nat → Option Nat} {ρ ρ₂ : Ren} (hτ : ∀ i k l, τ i = some k → ρ i = some l → ρ₂ k = some l) {b b' : Blk} {l : Loc} (h : renB τ b = some b') (hb : BRel I w ρ l b) : BRel I w ρ₂ l b' := by
  obtain ⟨h1, _, h2⟩ := renB_at h
  obtain ⟨C, e, fz, m1, m2, m3, m4⟩ := hb.mem
  refine ⟨⟨C, e, fz, m1, m2, m3, fun o ho => ?_⟩, by rw [h1]; exact hb.fits, fun e' n' ex => hb.ty e' n' (by rw [← renB_tag h, ex])⟩
  rw [h1] at ho
  obtain ⟨c, hc, hr⟩ := m4 o ho
  exact ⟨c, hc, renV_sound hτ hr (h2 o ho)⟩
def FinRel (I : Nat → Prop) (w : World) (ρ : Ren) (f : Fin) (e : Ending) : Prop :=
  match f with
  | .ret v => ∃ v', e = .returned v' ∧ VRel I w ρ v v'
  | .pan v => ∃ v', e = .panicked [{ v := v', recovered := false }] ∧ VRel I w ρ v v'
def LFn (P : Program) (f : FuncId) (args : List V) (h : Heap) (fin : Fin) (h' : Heap) : Prop :=
  ∀ (ρ : Ren) (I : Nat → Prop) (w : World) (args' : List Value), Rel ρ I w h (fun i => h.length ≤ i) → VsRel I w ρ args args' →
    Calls P f ⟨args'⟩ w fun e w' => ∃ ρ' I', Rel ρ' I' w' h' (fun i => h'.length ≤ i) ∧ Went ρ I w h ρ' I' w' h' ∧ FinRel I' w' ρ' fin e
abbrev Oracle := FuncId → List V → Heap → Option (Bool × Fin × Heap)
def OSound (P : Program) (O : Oracle) : Prop := ∀ f args h fin h', O f args h = some (true, fin, h') → LFn P f args h fin h'
mutual
def refsV : V → List Nat
  | .ptr i _ => [i]
  | .sl i _ _ _ _ => [i]
  | .fn _ a b => refsVs a ++ refsVs b
  | .agg cs => refsVs cs
  | .tup cs => refsVs cs
  | .iface _ v => refsV v
  | _ => []
def refsVs : List V → List Nat
  | [] => []
  | v :: r => refsV v ++ refsVs r
end
def refsB : Blk → List Nat
  | .vals cs => refsVs cs
  | .bld _ a b => refsV a ++ refsV b
  | _ => []
def memN (i : Nat) : List Nat → Bool
  | [] => false
  | j :: r => if Nat.beq j i then true else memN i r
def reach (h : Heap) : Nat → List Nat → List Nat → List Nat
  | 0, _, acc => acc
  | _ + 1, [], acc => acc
  | fuel + 1, i :: todo, acc => if memN i acc then reach h fuel todo acc else match h[i]? with
    | some b => reach h fuel (refsB b ++ todo) (acc ++ [i])
    | none => reach h fuel todo acc
theorem memN_iff (i : Nat) : ∀ l : List Nat, memN i l = true ↔ i ∈ l
  | [] => by simp [memN]
  | j :: r => by
    simp only [memN, beq_iff, List.mem_cons]
    by_cases h : j = i
    · subst h; simp
    · rw [if_neg h, memN_iff i r]
      constructor
      · exact .inr
      · rintro (e | e); exact absurd e.symm h; exact e
theorem reach_nodup (h : Heap) : ∀ (fuel : Nat) (todo acc : List Nat), acc.Nodup → (reach h fuel todo acc).Nodup
  | 0, _, _, ha => ha
  | _ + 1, [], _, ha => ha
  | fuel + 1, i :: todo, acc, ha => by
    simp only [reach]
    split
    · exact reach_nodup h fuel _ _ ha
    · rename_i hm
      split
      · refine reach_nodup h fuel _ _ ?_
        rw [List.nodup_append]
        refine ⟨ha, by simp, fun a hA b hB => ?_⟩
        simp at hB; subst hB
        rintro rfl
        exact hm ((memN_iff _ _).2 hA)
      · exact reach_nodup h fuel _ _ ha
def posOf (l : List Nat) (i : Nat) : Option Nat :=
  match l with
  | [] => none
  | j :: r => if Nat.beq j i then some 0 else match posOf r i with | some k => some (k + 1) | none => none
theorem posOf_get : ∀ {l : List Nat} {i k : Nat}, posOf l i = some k → l[k]? = some i
  | [], i, k, h => by simp [posOf] at h
  | j :: r, i, k, h => by
    simp only [posOf, beq_iff] at h
    split at h
    · rename_i e; cases h; simp [e]
    · split at h <;> cases h
      rename_i m hm
      simpa using posOf_get hm
def subHeap (h : Heap) (τ : Nat → Option Nat) : List Nat → Option Heap
  | [] => some []
  | i :: r => match h[i]?, subHeap h τ r with
    | some b, some l => if isDead b then none else (match renB τ b with | some b' => some (b' :: l) | none => none)
    | _, _ => none
def backT (rd : List Nat) (n : Nat) (k : Nat) : Option Nat := if k < rd.length then rd[k]? else some (n + (k - rd.length))
def renBs (τ : Nat → Option Nat) : Heap → Option Heap
  | [] => some []
  | b :: r => match renB τ b, renBs τ r with
    | some b', some l => some (b' :: l)
    | _, _ => none
def setAll (h : Heap) : List Nat → List Blk → Heap
  | i :: r, b :: s => setAll (h.set i b) r s
  | _, _ => h
def renFin (τ : Nat → Option Nat) : Fin → Option Fin
  | .ret v => (match renV τ v with | some u => some (.ret u) | none => none)
  | .pan v => (match renV τ v with | some u => some (.pan u) | none => none)
def callO (O : Oracle) (f : FuncId) (args : List V) (h : Heap) : Option (Bool × Fin × Heap) :=
  let rd := reach h 100 (refsVs args) []
  match renVs (posOf rd) args, subHeap h (posOf rd) rd with
  | some args', some hs => (match O f args' hs with
    | some (k, fin, hs') => if rd.length ≤ hs'.length then
        (match renFin (backT rd h.length) fin, renBs (backT rd h.length) hs' with
        | some fin', some l => some (k, fin', setAll h rd (l.take rd.length) ++ l.drop rd.length)
        | _, _ => none) else none
    | none => none)
  | _, _ => none
end Go.Lh
end
section
namespace Go.Lh
theorem subHeap_get {h : Heap} {τ : Nat → Option Nat} : ∀ {rd : List Nat} {hs : Heap}, subHeap h τ rd = some hs → hs.length = rd.length ∧
    ∀ (k i : Nat), rd[k]? = some i → ∃ b b', h[i]? = some b ∧ isDead b = false ∧ renB τ b = some b' ∧ hs[k]? = some b'
  | [], hs, e => by simp [subHeap] at e; subst e; simp
  | i :: r, hs, e => by
    simp only [subHeap] at e
    split at e <;> try simp only [reduceCtorEq] at e
    rename_i b l hb hl
    split at e <;> try simp only [reduceCtorEq] at e
    rename_i hd
    split at e <;> simp at e
    rename_i b' hb'
    subst e
    obtain ⟨h1, h2⟩ := subHeap_get hl
    refine ⟨by simp [h1], fun k j hk => ?_⟩
    cases k with
    | zero => simp at hk; subst hk; exact ⟨b, b', hb, by simpa using hd, hb', rfl⟩
    | succ k => simpa using h2 k j (by simpa using hk)
theorem renBs_get {τ : Nat → Option Nat} : ∀ {h l : Heap}, renBs τ h = some l → l.length = h.length ∧ ∀ (k : Nat) b, h[k]? = some b → ∃ b', l[k]? = some b' ∧ renB τ b = some b'
  | [], l, e => by simp [renBs] at e; subst e; simp
  | b :: r, l, e => by
    simp only [renBs] at e
    split at e <;> simp at e
    rename_i b' l' hb hl
    subst e
    obtain ⟨h1, h2⟩ := renBs_get hl
    refine ⟨by simp [h1], fun k c hk => ?_⟩
    cases k with
    | zero => simp at hk; subst hk; exact ⟨b', rfl, hb⟩
    | succ k => simpa using h2 k c (by simpa using hk)
theorem setAll_length : ∀ (rd : List Nat) (bs : List Blk) (h : Heap), (setAll h rd bs).length = h.length
  | [], _, h => by simp [setAll]
  | _ :: _, [], h => by simp [setAll]
  | i :: r, b :: s, h => by simp [setAll, setAll_length r s]
theorem setAll_ne : ∀ (rd : List Nat) (bs : List Blk) (h : Heap) (i : Nat), i ∉ rd → (setAll h rd bs)[i]? = h[i]?
  | [], _, h, _, _ => by simp [setAll]
  | _ :: _, [], h, _, _ => by simp [setAll]
  | j :: r, b :: s, h, i, hi => by
    simp only [List.mem_cons, not_or] at hi
    simp only [setAll]
    rw [setAll_ne r s _ i hi.2, List.getElem?_set_ne (fun e => hi.1 e.symm)]
theorem setAll_at : ∀ (rd : List Nat) (bs : List Blk) (h : Heap) (k i : Nat) (b : Blk), rd.Nodup → rd[k]? = some i → bs[k]? = some b → i < h.length → (setAll h rd bs)[i]? = some b
  | [], _, _, k, i, b, _, hk, _, _ => by simp at hk
  | _ :: _, [], _, k, i, b, _, _, hb, _ => by simp at hb
  | j :: r, c :: s, h, 0, i, b, hn, hk, hb, hi => by
    simp at hk hb; subst hk; subst hb
    simp only [setAll]
    rw [setAll_ne r s _ _ (List.nodup_cons.1 hn).1, List.getElem?_set_self hi]
  | j :: r, c :: s, h, k + 1, i, b, hn, hk, hb, hi => by
    simp only [setAll]
    exact setAll_at r s _ k i b (List.nodup_cons.1 hn).2 (by simpa using hk) (by simpa using hb) (by simpa using hi)
theorem nodup_inj : ∀ {l : List Nat} {i j x : Nat}, l.Nodup → l[i]? = some x → l[j]? = some x → i = j
  | [], i, j, x, _, hi, _ => by simp at hi
  | a :: r, 0, 0, x, _, _, _ => rfl
  | a :: r, 0, j + 1, x, hn, hi, hj => by
    simp at hi hj; subst hi
    exact absurd (List.mem_of_getElem? hj) (List.nodup_cons.1 hn).1
  | a :: r, i + 1, 0, x, hn, hi, hj => by
    simp at hi hj; subst hj
    exact absurd (List.mem_of_getElem? hi) (List.nodup_cons.1 hn).1
  | a :: r, i + 1, j + 1, x, hn, hi, hj => by
    simp at hi hj
    rw [nodup_inj (List.nodup_cons.1 hn).2 hi hj]
section
variable {P : Program} {w : World} {I : Nat → Prop} {ρ : Ren} {h : Heap} {F : Nat → Prop}
theorem callO_sound {O : Oracle} (hO : OSound P O) (R : Rel ρ I w h F) {f : FuncId} {args : List V} {args' : List Value} {fin : Fin} {h' : Heap} (ha : VsRel I w ρ args args')
    (hs : callO O f args h = some (true, fin, h')) :
    Calls P f ⟨args'⟩ w fun e w' => ∃ ρ' I', Rel ρ' I' w' h' (fun i => F i ∧ ¬ (h.length ≤ i ∧ i < h'.length)) ∧ Went ρ I w h ρ' I' w' h' ∧ FinRel I' w' ρ' fin e := by
  unfold callO at hs
  generalize hrd : reach h 100 (refsVs args) [] = rd at hs
  have hnd : rd.Nodup := by rw [← hrd]; exact reach_nodup h _ _ _ (by simp)
  simp only at hs
  split at hs <;> try simp only [reduceCtorEq] at hs
  rename_i args2 hs2 hra hsub
  split at hs <;> try simp only [reduceCtorEq] at hs
  rename_i k fin2 hs3 hcall
  split at hs <;> try simp only [reduceCtorEq] at hs
  rename_i hle
  split at hs <;> simp at hs
  rename_i fin' l hfin hl
  obtain ⟨rfl, rfl, rfl⟩ := hs
  obtain ⟨sl, sg⟩ := subHeap_get hsub
  obtain ⟨bl, bg⟩ := renBs_get hl
  -- the callee's own numbering
  let ρ₂ : Ren := fun k => match rd[k]? with | some i => ρ i | none => none
  have hτ : ∀ i k q, posOf rd i = some k → ρ i = some q → ρ₂ k = some q := by
    intro i k q hk hq
    simp only [ρ₂, posOf_get hk, hq]
  have rdlt : ∀ (k : Nat) (i : Nat), rd[k]? = some i → i < h.length := by
    intro k i hk
    obtain ⟨b, _, hb, _⟩ := sg k i hk
    exact (List.getElem?_eq_some_iff.1 hb).1
  have rdloc : ∀ (k i : Nat), rd[k]? = some i → ∃ (b : Blk) (q : Loc), h[i]? = some b ∧ b ≠ .dead ∧ ρ i = some q ∧ BRel I w ρ q b ∧ ¬ I q.b := by
    intro k i hk
    obtain ⟨b, _, hb, hd, _⟩ := sg k i hk
    have hne : b ≠ .dead := by rintro rfl; simp [isDead] at hd
    obtain ⟨q, h1, h2, h3⟩ := R.blk i b hb hne
    exact ⟨b, q, hb, hne, h1, h2, h3⟩
  have R₂ : Rel ρ₂ I w hs2 (fun i => hs2.length ≤ i) := by
    have hout : ∀ i, hs2.length ≤ i → ρ₂ i = none := by
      intro i hi
      simp only [ρ₂]
      rw [List.getElem?_eq_none (by omega)]
    refine ⟨?_, hout, hout, ?_, R.lt⟩
    · intro k b hb hne
      have hk : k < rd.length := by rw [← sl]; exact (List.getElem?_eq_some_iff.1 hb).1
      have hki : rd[k]? = some rd[k] := List.getElem?_eq_getElem hk
      obtain ⟨c, c', hc, hcd, hcr, hck⟩ := sg k _ hki
      rw [hb] at hck; cases hck
      have hne : c ≠ .dead := by rintro rfl; simp [isDead] at hcd
      obtain ⟨q, h1, h2, h3⟩ := R.blk _ c hc hne
      exact ⟨q, by simp only [ρ₂, hki, h1], renB_sound hτ hcr h2, h3⟩
    · intro i j x y li lj hij hx hxd hy hyd hli hlj
      have hi : i < rd.length := by rw [← sl]; exact (List.getElem?_eq_some_iff.1 hx).1
      have hj : j < rd.length := by rw [← sl]; exact (List.getElem?_eq_some_iff.1 hy).1
      have hki := List.getElem?_eq_getElem hi
      have hkj := List.getElem?_eq_getElem hj
      obtain ⟨b1, q1, a1, a2, a3, _⟩ := rdloc i _ hki
      obtain ⟨b2, q2, c1, c2, c3, _⟩ := rdloc j _ hkj
      simp only [ρ₂, hki] at hli
      simp only [ρ₂, hkj] at hlj
      exact R.apart _ _ b1 b2 li lj (fun (e : rd[i] = rd[j]) => hij (nodup_inj hnd hki (by rw [e]; exact hkj))) a1 a2 c1 c2 hli hlj
  have ownSub : ∀ b, Own ρ₂ hs2 b → ∃ (k i : Nat) (x : Blk) (q : Loc), rd[k]? = some i ∧ h[i]? = some x ∧ x ≠ .dead ∧ ρ i = some q ∧ q.b = b := by
    rintro b ⟨k, x, q, hx, hxd, hq, rfl⟩
    have hk : k < rd.length := by rw [← sl]; exact (List.getElem?_eq_some_iff.1 hx).1
    have hki := List.getElem?_eq_getElem hk
    obtain ⟨c, q2, a1, a2, a3, _⟩ := rdloc k _ hki
    simp only [ρ₂, hki] at hq
    exact ⟨k, _, c, q, hki, a1, a2, hq, rfl⟩
  have ownUp : ∀ b, Own ρ₂ hs2 b → Own ρ h b := by
    intro b hb
    obtain ⟨k, i, x, q, _, a1, a2, a3, a4⟩ := ownSub b hb
    exact ⟨i, x, q, a1, a2, a3, a4⟩
  refine (hO f args2 hs2 fin2 hs3 hcall ρ₂ I w args' R₂ (renVs_sound hτ ha hra)).mono ?_
  rintro e w' ⟨ρ₃, I', R₃, W₃, hf⟩
  -- back
  let ρ' : Ren := fun i => if i < h.length then ρ i else ρ₃ (i - h.length + rd.length)
  have hsl3 : rd.length ≤ hs3.length := hle
  have ρ3rd : ∀ k i, rd[k]? = some i → ρ₃ k = ρ i := by
    intro k i hk
    obtain ⟨b, q, _, _, a3, _⟩ := rdloc k i hk
    rw [a3]
    exact W₃.ren k q (by simp only [ρ₂, hk, a3])
  have hback : ∀ k i q, backT rd h.length k = some i → ρ₃ k = some q → ρ' i = some q := by
    intro k i q hk hq
    simp only [backT] at hk
    split at hk
    · rename_i hlt
      have := rdlt k i hk
      simp only [ρ', this, if_true]
      rw [← ρ3rd k i hk, hq]
    · rename_i hge
      simp at hk; subst hk
      simp only [ρ']
      rw [if_neg (by omega)]
      rw [show h.length + (k - rd.length) - h.length + rd.length = k from by omega, hq]
  have hren : ∀ i q, ρ i = some q → ρ' i = some q := by
    intro i q hq
    have : i < h.length := by
      rcases Nat.lt_or_ge i h.length with h0 | h0
      · exact h0
      · rw [R.out i h0] at hq; cases hq
    simp only [ρ', this, if_true, hq]
  have imem : ∀ b, I b → w'.heap[b]? = w.heap[b]? := fun b hb => W₃.keep b (R.lt b hb) (fun ho => R.not_own hb (ownUp b ho))
  have L : Le ρ I w ρ' I' w' := ⟨hren, W₃.imm, imem⟩
  -- what lies at each number
  let H : Heap := setAll h rd (l.take rd.length) ++ l.drop rd.length
  have hHlen : H.length = h.length + (hs3.length - rd.length) := by simp [H, setAll_length, bl]
  have case_of : ∀ (i : Nat) (x : Blk), H[i]? = some x → (i < h.length ∧ i ∉ rd ∧ h[i]? = some x) ∨ (∃ (k : Nat) (c : Blk), hs3[k]? = some c ∧ renB (backT rd h.length) c = some x ∧ backT rd h.length k = some i ∧
      ((k < rd.length ∧ rd[k]? = some i) ∨ (rd.length ≤ k ∧ i = h.length + (k - rd.length)))) := by
    intro i x hx
    by_cases hi : i < h.length
    · have e1 : H[i]? = (setAll h rd (l.take rd.length))[i]? := by
        simp only [H]; rw [List.getElem?_append_left (by rw [setAll_length]; exact hi)]
      by_cases hm : i ∈ rd
      · right
        obtain ⟨k, hk⟩ := List.getElem?_of_mem hm
        have hkl : k < rd.length := (List.getElem?_eq_some_iff.1 hk).1
        have hk3 : hs3[k]? = some hs3[k] := List.getElem?_eq_getElem (by omega)
        obtain ⟨b', hb', hr⟩ := bg k _ hk3
        have e2 := setAll_at rd (l.take rd.length) h k i b' hnd hk (by rw [List.getElem?_take, if_pos hkl]; exact hb') hi
        rw [e1, e2] at hx; cases hx
        exact ⟨k, _, hk3, hr, by simp only [backT]; rw [if_pos hkl]; exact hk, .inl ⟨hkl, hk⟩⟩
      · left
        rw [e1, setAll_ne _ _ _ _ hm] at hx
        exact ⟨hi, hm, hx⟩
    · right
      have hiH : i < H.length := (List.getElem?_eq_some_iff.1 hx).1
      have e1 : H[i]? = l[rd.length + (i - h.length)]? := by
        simp only [H]; rw [List.getElem?_append_right (by rw [setAll_length]; omega), setAll_length, List.getElem?_drop]
      have hk3 : hs3[rd.length + (i - h.length)]? = some hs3[rd.length + (i - h.length)] := List.getElem?_eq_getElem (by omega)
      obtain ⟨b', hb', hr⟩ := bg _ _ hk3
      rw [e1, hb'] at hx; cases hx
      refine ⟨_, _, hk3, hr, ?_, .inr ⟨by omega, by omega⟩⟩
      simp only [backT]; rw [if_neg (by omega)]; simp only [Option.some.injEq]; omega
  have loc3 : ∀ (k : Nat) (c : Blk) (i : Nat) (x : Blk), hs3[k]? = some c → renB (backT rd h.length) c = some x → backT rd h.length k = some i → x ≠ .dead → ∃ q, ρ₃ k = some q ∧ ρ' i = some q ∧ BRel I' w' ρ' q x ∧ ¬ I' q.b ∧ c ≠ .dead := by
    intro k c i x hc hr hb hxd
    have hcd : c ≠ .dead := fun e => hxd ((renB_at hr).2.1.2 e)
    obtain ⟨q, h1, h2, h3⟩ := R₃.blk k c hc hcd
    exact ⟨q, h1, hback k i q hb h1, renB_sound hback hr h2, h3, hcd⟩
  have locO : ∀ (i : Nat) (x : Blk), i < h.length → i ∉ rd → h[i]? = some x → x ≠ .dead → ∃ q, ρ i = some q ∧ ρ' i = some q ∧ BRel I' w' ρ' q x ∧ ¬ I' q.b ∧ q.b < w.heap.size ∧ ¬ Own ρ₂ hs2 q.b := by
    intro i x hi hm hx hxd
    obtain ⟨q, h1, h2, h3⟩ := R.blk i x hx hxd
    obtain ⟨C, e, fz, m1, m2, m3, m4⟩ := h2.mem
    have hq : q.b < w.heap.size := by
      rcases Nat.lt_or_ge q.b w.heap.size with h0 | h0
      · exact h0
      · rw [Array.getElem?_eq_none h0] at m1; cases m1
    have hno : ¬ Own ρ₂ hs2 q.b := by
      intro ho
      obtain ⟨k, j, y, q2, a0, a1, a2, a3, a4⟩ := ownSub _ ho
      exact R.apart i j x y q q2 (fun e => hm (e ▸ List.mem_of_getElem? a0)) hx hxd a1 a2 h1 a3 a4.symm
    refine ⟨q, h1, hren i q h1, ⟨⟨C, e, fz, by rw [W₃.keep _ hq hno]; exact m1, m2, m3, fun o ho => ?_⟩, h2.fits, fun e' n' ex => ⟨(h2.ty e' n' ex).1, by rw [W₃.keep _ hq hno]; exact (h2.ty e' n' ex).2⟩⟩, ?_, hq, hno⟩
    · obtain ⟨c, hc, hr⟩ := m4 o ho
      exact ⟨c, hc, hr.le L⟩
    · intro hI
      rcases W₃.fresh _ hI with h0 | h0 | h0
      · exact h3 h0
      · exact hno h0
      · omega
  have own3 : ∀ (k : Nat) (c : Blk) (q : Loc), hs3[k]? = some c → c ≠ .dead → ρ₃ k = some q → Own ρ₂ hs2 q.b ∨ w.heap.size ≤ q.b := fun k c q hc hcd hq => W₃.own _ ⟨k, c, q, hc, hcd, hq, rfl⟩
  refine ⟨ρ', I', ⟨?_, ?_, ?_, ?_, R₃.lt⟩, ⟨hren, W₃.imm, W₃.os, W₃.tape, W₃.output, W₃.size, fun b hb hno => W₃.keep b hb (fun ho => hno (ownUp b ho)), ?_, ?_⟩, ?_⟩
  · intro i x hx hxd
    rcases case_of i x hx with ⟨hi, hm, hx'⟩ | ⟨k, c, hc, hr, hb, _⟩
    · obtain ⟨q, _, h2, h3, h4, _⟩ := locO i x hi hm hx' hxd
      exact ⟨q, h2, h3, h4⟩
    · obtain ⟨q, _, h2, h3, h4, _⟩ := loc3 k c i x hc hr hb hxd
      exact ⟨q, h2, h3, h4⟩
  · rintro i ⟨hF, hn⟩
    by_cases hi : i < h.length
    · simp only [ρ', hi, if_true]; exact R.free i hF
    · simp only [ρ']
      rw [if_neg hi]
      have : H.length ≤ i := by
        rcases Nat.lt_or_ge i H.length with h0 | h0
        · exact (hn ⟨by omega, h0⟩).elim
        · exact h0
      exact R₃.out _ (by omega)
  · intro i hi
    have hi : H.length ≤ i := hi
    simp only [ρ']
    rw [if_neg (by omega)]
    exact R₃.out _ (by omega)
  · intro i j x y li lj hij hx hxd hy hyd hli hlj
    rcases case_of i x hx with ⟨hi, hm, hx'⟩ | ⟨k, c, hc, hr, hb, hkk⟩
    · obtain ⟨q, h1, h2, _, _, h5, h6⟩ := locO i x hi hm hx' hxd
      rw [h2] at hli; cases hli
      rcases case_of j y hy with ⟨hj, hm2, hy'⟩ | ⟨k2, c2, hc2, hr2, hb2, _⟩
      · obtain ⟨q2, g1, g2, _⟩ := locO j y hj hm2 hy' hyd
        rw [g2] at hlj; cases hlj
        exact R.apart i j x y _ _ hij hx' hxd hy' hyd h1 g1
      · obtain ⟨q2, g1, g2, _, _, g5⟩ := loc3 k2 c2 j y hc2 hr2 hb2 hyd
        rw [g2] at hlj; cases hlj
        rcases own3 k2 c2 _ hc2 g5 g1 with h0 | h0
        · intro e; exact h6 (e ▸ h0)
        · intro e; omega
    · obtain ⟨q, h1, h2, _, _, h5⟩ := loc3 k c i x hc hr hb hxd
      rw [h2] at hli; cases hli
      rcases case_of j y hy with ⟨hj, hm2, hy'⟩ | ⟨k2, c2, hc2, hr2, hb2, hkk2⟩
      · obtain ⟨q2, g1, g2, _, _, g5, g6⟩ := locO j y hj hm2 hy' hyd
        rw [g2] at hlj; cases hlj
        rcases own3 k c _ hc h5 h1 with h0 | h0
        · intro e; exact g6 (e ▸ h0)
        · intro e; omega
      · obtain ⟨q2, g1, g2, _, _, g5⟩ := loc3 k2 c2 j y hc2 hr2 hb2 hyd
        rw [g2] at hlj; cases hlj
        refine R₃.apart k k2 c c2 _ _ (fun e => hij ?_) hc h5 hc2 g5 h1 g1
        subst e
        rw [hb] at hb2; cases hb2; rfl
  · rintro b ⟨i, x, q, hx, hxd, hq, rfl⟩
    rcases case_of i x hx with ⟨hi, hm, hx'⟩ | ⟨k, c, hc, hr, hb, _⟩
    · obtain ⟨q2, h1, h2, _⟩ := locO i x hi hm hx' hxd
      rw [h2] at hq; cases hq
      exact .inl ⟨i, x, q, hx', hxd, h1, rfl⟩
    · obtain ⟨q2, h1, h2, _, _, h5⟩ := loc3 k c i x hc hr hb hxd
      rw [h2] at hq; cases hq
      exact (own3 k c _ hc h5 h1).imp (ownUp _) id
  · intro b hb
    rcases W₃.fresh b hb with h0 | h0 | h0
    · exact .inl h0
    · exact .inr (.inl (ownUp b h0))
    · exact .inr (.inr h0)
  · cases fin2 with
    | ret v =>
      simp only [renFin] at hfin
      split at hfin <;> cases hfin
      rename_i u hu
      obtain ⟨v', e1, e2⟩ := hf
      exact ⟨v', e1, renV_sound hback e2 hu⟩
    | pan v =>
      simp only [renFin] at hfin
      split at hfin <;> cases hfin
      rename_i u hu
      obtain ⟨v', e1, e2⟩ := hf
      exact ⟨v', e1, renV_sound hback e2 hu⟩
end
end Go.Lh
end
section
namespace Go.Lh
mutual
theorem renV_back {τ σ : Nat → Option Nat} (hτ : ∀ i k, τ i = some k → σ k = some i) : ∀ {v u : V}, renV τ v = some u → renV σ u = some v
  | .any, u, h => by rw [renV] at h; cases h; rw [renV]
  | .u8 _, u, h => by rw [renV] at h; cases h; rw [renV]
  | .u16 _, u, h => by rw [renV] at h; cases h; rw [renV]
  | .u32 _, u, h => by rw [renV] at h; cases h; rw [renV]
  | .u64 _, u, h => by rw [renV] at h; cases h; rw [renV]
  | .int _ _, u, h => by rw [renV] at h; cases h; rw [renV]
  | .bool _, u, h => by rw [renV] at h; cases h; rw [renV]
  | .str _, u, h => by rw [renV] at h; cases h; rw [renV]
  | .ptr i o, u, h => by
    rw [renV] at h
    split at h <;> cases h
    rename_i k hk
    rw [renV, hτ _ _ hk]
  | .nilPtr, u, h => by rw [renV] at h; cases h; rw [renV]
  | .sl i o s len cap, u, h => by
    rw [renV] at h
    split at h <;> cases h
    rename_i k hk
    rw [renV, hτ _ _ hk]
  | .nilSl, u, h => by rw [renV] at h; cases h; rw [renV]
  | .isl _ _ _, u, h => by rw [renV] at h; cases h; rw [renV]
  | .iptr _ _ _ _ _, u, h => by rw [renV] at h; cases h; rw [renV]
  | .fn f a b, u, h => by
    rw [renV] at h
    split at h <;> cases h
    rename_i a' b' ha hb
    rw [renV, renVs_back hτ ha, renVs_back hτ hb]
  | .nilFn, u, h => by rw [renV] at h; cases h; rw [renV]
  | .agg cs, u, h => by
    rw [renV] at h
    split at h <;> cases h
    rename_i l hl
    rw [renV, renVs_back hτ hl]
  | .tup cs, u, h => by
    rw [renV] at h
    split at h <;> cases h
    rename_i l hl
    rw [renV, renVs_back hτ hl]
  | .iface t v, u, h => by
    rw [renV] at h
    split at h <;> cases h
    rename_i w hw
    rw [renV, renV_back hτ hw]
  | .nilIface, u, h => by rw [renV] at h; cases h; rw [renV]
  | .yld _, u, h => by rw [renV] at h; cases h; rw [renV]
  | .fmap _, u, h => by rw [renV] at h; cases h; rw [renV]
theorem renVs_back {τ σ : Nat → Option Nat} (hτ : ∀ i k, τ i = some k → σ k = some i) : ∀ {v u : List V}, renVs τ v = some u → renVs σ u = some v
  | [], u, h => by rw [renVs] at h; cases h; rw [renVs]
  | v :: r, u, h => by
    rw [renVs] at h
    split at h <;> cases h
    rename_i a l ha hl
    rw [renVs, renV_back hτ ha, renVs_back hτ hl]
end
theorem renB_back {τ σ : Nat → Option Nat} (hτ : ∀ i k, τ i = some k → σ k = some i) {b c : Blk} (h : renB τ b = some c) : renB σ c = some b := by
  cases b <;> simp only [renB] at h
  case bld e0 x y =>
    split at h <;> cases h
    rename_i x' y' hx hy
    simp only [renB, renV_back hτ hx, renV_back hτ hy]
  case vals cs =>
    split at h <;> cases h
    rename_i l hl
    simp only [renB, renVs_back hτ hl]
  all_goals (cases h; rfl)
theorem subHeap_back {h : Heap} {τ σ : Nat → Option Nat} (hτ : ∀ i k, τ i = some k → σ k = some i) : ∀ {rd : List Nat} {hs : Heap}, subHeap h τ rd = some hs →
    ∃ l, renBs σ hs = some l ∧ l.length = rd.length ∧ hs.length = rd.length ∧ ∀ (k i : Nat), rd[k]? = some i → l[k]? = h[i]?
  | [], hs, e => by simp only [subHeap, Option.some.injEq] at e; subst e; exact ⟨[], rfl, rfl, rfl, by simp⟩
  | i :: r, hs, e => by
    simp only [subHeap] at e
    split at e <;> try simp only [reduceCtorEq] at e
    rename_i b l hb hl
    split at e <;> try simp only [reduceCtorEq] at e
    split at e <;> simp only [Option.some.injEq, reduceCtorEq] at e
    rename_i c hc
    subst e
    obtain ⟨m, m1, m2, m3, m4⟩ := subHeap_back hτ hl
    refine ⟨b :: m, by simp only [renBs, renB_back hτ hc, m1], by simp [m2], by simp [m3], ?_⟩
    intro k j hk
    cases k with
    | zero => simp at hk; subst hk; simp [hb]
    | succ k => simpa using m4 k j (by simpa using hk)
theorem setAll_self : ∀ (rd : List Nat) (l : List Blk) (h : Heap), l.length = rd.length → (∀ (k i : Nat), rd[k]? = some i → l[k]? = h[i]?) → setAll h rd l = h
  | [], l, h, _, _ => by simp [setAll]
  | _ :: _, [], h, _, _ => by simp [setAll]
  | i :: r, b :: s, h, hl, H => by
    have h0 := H 0 i rfl
    have e : h.set i b = h := by
      simp only [List.getElem?_cons_zero] at h0
      have hi : i < h.length := by
        rcases Nat.lt_or_ge i h.length with g | g
        · exact g
        · rw [List.getElem?_eq_none g] at h0; cases h0
      refine List.ext_getElem? fun j => ?_
      by_cases ej : i = j
      · subst ej; rw [List.getElem?_set_self hi, h0]
      · rw [List.getElem?_set_ne ej]
    simp only [setAll]
    rw [e]
    exact setAll_self r s h (by simpa using hl) fun k j hk => by simpa using H (k + 1) j (by simpa using hk)
theorem callO_ro {O : Oracle} {f : FuncId} (hO : ∀ args h r, O f args h = some r → r.2.2 = h) {args : List V} {h : Heap} {k : Bool} {fin : Fin} {h' : Heap} (e : callO O f args h = some (k, fin, h')) : h' = h := by
  unfold callO at e
  simp only at e
  split at e <;> try simp only [reduceCtorEq] at e
  rename_i args2 hs2 hra hsub
  split at e <;> try simp only [reduceCtorEq] at e
  rename_i k' fin2 hs3 hcall
  have e3 : hs3 = hs2 := hO _ _ _ hcall
  subst e3
  split at e <;> try simp only [reduceCtorEq] at e
  rename_i hle
  split at e <;> simp only [Option.some.injEq, Prod.mk.injEq, reduceCtorEq] at e
  rename_i fin' lb hfin hlb
  obtain ⟨_, _, rfl⟩ := e
  generalize reach h 100 (refsVs args) [] = rd at *
  obtain ⟨l, l1, l2, l3, l4⟩ := subHeap_back (σ := backT rd h.length) (fun i k hk => by
    have := posOf_get hk
    have hlt : k < rd.length := by
      rcases Nat.lt_or_ge k rd.length with g | g
      · exact g
      · rw [List.getElem?_eq_none g] at this; cases this
    unfold backT
    rw [if_pos hlt, this]) hsub
  have e5 : lb = l := by
    have := l1.symm.trans hlb
    cases this
    rfl
  rw [e5, ← l2, List.take_length, List.drop_length, List.append_nil]
  exact setAll_self rd l h l2 l4
end Go.Lh
end
section
namespace Go.Lh
structure Orc where
  fn : Oracle
  ext : FuncId → List V → Option (Bool × V)
  /-- how comparisons come out, where one says so: by the number of the first slot that is compared -/
  asm : List (Nat × Bool) := []
  /-- functions that leave the heap as it was -/
  ro : FuncId → Bool := fun _ => false
  roOk : ∀ f, ro f = true → ∀ args h r, fn f args h = some r → r.2.2 = h := by intro _ h; cases h
def lookN : List (Nat × Bool) → Nat → Option Bool
  | [], _ => none
  | (i, b) :: r, t => if Nat.beq i t then some b else lookN r t
def asmOf (l : List (Nat × Bool)) : Op → Option Bool
  | .binOp _ _ (.tmp a) _ _ => lookN l a
  | .binOp _ _ _ (.tmp b) _ => lookN l b
  | .move (.tmp a) => lookN l a
  | _ => none
def asmRes (a : Option Bool) (r : Option (Bool × V × Heap)) : Option (Bool × Fin × Heap) :=
  match a with
  | none => (match r with | some (k, v, h') => some (k, .ret v, h') | none => none)
  | some b => (match r with
    | some (k, .bool x, h') => some (k && (if b then x else !x), .ret (.bool b), h')
    | some (k, v, h') => some (k, .ret v, h')
    | none => none)
theorem asmRes_true {a : Option Bool} {r : Option (Bool × V × Heap)} {fin : Fin} {h' : Heap} (h : asmRes a r = some (true, fin, h')) : ∃ v, r = some (true, v, h') ∧ fin = .ret v := by
  cases a with
  | none =>
    simp only [asmRes] at h
    split at h <;> simp only [Option.some.injEq, Prod.mk.injEq, reduceCtorEq] at h
    obtain ⟨rfl, rfl, rfl⟩ := h
    exact ⟨_, rfl, rfl⟩
  | some b =>
    simp only [asmRes] at h
    split at h <;> simp only [Option.some.injEq, Prod.mk.injEq, Bool.and_eq_true, reduceCtorEq] at h
    · rename_i k x h2
      obtain ⟨⟨rfl, hx⟩, rfl, rfl⟩ := h
      refine ⟨_, rfl, ?_⟩
      cases b <;> simp at hx <;> subst hx <;> rfl
    · obtain ⟨rfl, rfl, rfl⟩ := h
      exact ⟨_, rfl, rfl⟩
theorem asmRes_some {a : Option Bool} {r : Option (Bool × V × Heap)} {k : Bool} {fin : Fin} {h' : Heap} (h : asmRes a r = some (k, fin, h')) :
    ∃ k' v, r = some (k', v, h') ∧ (∃ u, fin = .ret u) ∧ ∀ h2, asmRes a (some (k', v, h2)) = some (k, fin, h2) := by
  cases a with
  | none =>
    simp only [asmRes] at h
    split at h <;> simp only [Option.some.injEq, Prod.mk.injEq, reduceCtorEq] at h
    obtain ⟨rfl, rfl, rfl⟩ := h
    exact ⟨_, _, rfl, ⟨_, rfl⟩, fun _ => rfl⟩
  | some b =>
    simp only [asmRes] at h
    split at h <;> simp only [Option.some.injEq, Prod.mk.injEq, reduceCtorEq] at h
    · obtain ⟨rfl, rfl, rfl⟩ := h
      exact ⟨_, _, rfl, ⟨_, rfl⟩, fun _ => rfl⟩
    · rename_i k1 v1 h1 hne
      obtain ⟨rfl, rfl, rfl⟩ := h
      refine ⟨_, _, rfl, ⟨_, rfl⟩, fun h2 => ?_⟩
      cases v1 with
      | bool x => exact (hne x rfl).elim
      | _ => rfl
def Enters (P : Program) (f : FuncId) : Prop := ∃ fn, P.funcs[f]? = some fn ∧ fn.body.isNone = false ∧ (fn.name == "runtime.NumGoroutine") = false
structure OrcSound (P : Program) (O : Orc) : Prop where
  fn : ∀ f args h fin h', O.fn f args h = some (true, fin, h') → LFn P f args h fin h'
  enters : ∀ f args h r, O.fn f args h = some r → Enters P f
  ext : ∀ f args v, O.ext f args = some (true, v) → ∀ (I : Nat → Prop) (w : World) (ρ : Ren) (args' : List Value), VsRel I w ρ args args' →
    ∃ v', (callFunc f ⟨args'⟩).run P w = .ok (.value v') w ∧ VRel I w ρ v v'
def stepO (P : Program) (O : Orc) (idx : Nat) (g : Fm) (h : Heap) (op : Op) : Option (Bool × Fin × Heap) :=
  match op with
  | .call { callee := .value f, args, .. } => (match opnd g f, opnds g args.toList with
    | some (.fn fid first cap), some l => (match O.ext fid (first ++ l ++ cap) with
      | some (k, v) => some (k, .ret v, h)
      | none => callO O.fn fid (first ++ l ++ cap) h)
    | _, _ => none)
  | .panic x => (match opnd g x with
    | some (.iface t v) => some (true, .pan (.iface t v), h)
    | _ => none)
  | op => asmRes (asmOf O.asm op) (stepN P idx g h op)
theorem FRel.put {I : Nat → Prop} {w : World} {ρ : Ren} {g : Fm} {a : Act} (F : FRel I w ρ g a) {dst : Option Tmp} {v : V} {v' : Value} (hv : VRel I w ρ v v') (hd : ∀ d, dst = some d → d < a.tmps.size) : FRel I w ρ (g.put dst v) (a.put dst v') := by
  intro t u hu
  cases dst with
  | none => exact F t u hu
  | some d =>
    simp only [Fm.put] at hu
    have hlt := hd d rfl
    simp only [Act.put]
    split at hu
    · rename_i e; subst e; cases hu
      have : (a.tmps.setIfInBounds t v').getD t undef = v' := by simp [Array.getD, hlt]
      rw [this]; exact hv
    · rename_i e
      have : (a.tmps.setIfInBounds d v').getD t undef = a.tmps.getD t undef := by
        simp [Array.getElem?_setIfInBounds_ne (Ne.symm e)]
      rw [this]; exact F t u hu
theorem FRel.le {I I' : Nat → Prop} {w w' : World} {ρ ρ' : Ren} {g : Fm} {a : Act} (F : FRel I w ρ g a) (L : Le ρ I w ρ' I' w') : FRel I' w' ρ' g a := fun t v h => (F t v h).le L
theorem put_size (a : Act) (dst : Option Tmp) (v : Value) : (a.put dst v).tmps.size = a.tmps.size := by
  cases dst <;> simp [Act.put]
theorem put_defers (a : Act) (dst : Option Tmp) (v : Value) : (a.put dst v).defers = a.defers := by
  cases dst <;> rfl
def Left (F : Nat → Prop) (idx : Nat) (h h' : Heap) : Nat → Prop := fun i => F i ∧ i ≠ idx ∧ ¬ (h.length ≤ i ∧ i < h'.length)
section
variable {P : Program} {w : World} {I : Nat → Prop} {ρ : Ren} {h : Heap} {F : Nat → Prop} {idx : Nat} {a : Act} {o : Oper} {g : Fm} {O : Orc}
theorem callFunc_enter {f : FuncId} (hE : Enters P f) (args : Array Value) : (callFunc f args).run P w = .ok (.enter f args) w := by
  obtain ⟨fn, h1, h2, h3⟩ := hE
  simp only [callFunc, Sem.run_bind, run_program, Result.andThen_ok, h1, h3, Bool.false_eq_true, if_false, h2, Sem.run_pure]
theorem stepO_wp (hO : OrcSound P O) (R : Rel ρ I w h F) (FR : FRel I w ρ g a) (hmk : Op.makes P o.op = true → F idx ∧ h[idx]? = some .dead) {fin : Fin} {h' : Heap}
    (hs : stepO P O idx g h o.op = some (true, fin, h')) (next : Act → World → Prop) (Q : Exit → Act → World → Prop)
    (hret : ∀ v, fin = .ret v → ∀ w' ρ' I' v', VRel I' w' ρ' v v' → Rel ρ' I' w' h' (Left F idx h h') → Went ρ I w h ρ' I' w' h' → next (a.put o.dst v') w')
    (hpan : ∀ v, fin = .pan v → ∀ w' ρ' I' v', VRel I' w' ρ' v v' → Rel ρ' I' w' h' (Left F idx h h') → Went ρ I w h ρ' I' w' h' → Q (.panic [{ v := v', recovered := false }]) a w') :
    o.wp P a w next Q := by
  have quiet : ∀ {v : V} {h'' : Heap}, stepN P idx g h o.op = some (true, v, h'') → fin = .ret v → h'' = h' → o.wp P a w next Q := by
    intro v h'' hN hf hh
    subst hf; subst hh
    obtain ⟨nx, w', ρ', I', v', e1, e2, e3, e4, e5⟩ := (stepN_sound R FR hmk hN).run
    have := hret v rfl w' ρ' I' v' e3 (e4.weaken (fun i hi => ⟨hi.1, hi.2.1⟩)) e5
    unfold Oper.wp
    rw [e1]
    rcases e2 with rfl | ⟨rfl, rfl⟩
    · exact this
    · exact this
  unfold stepO at hs
  split at hs
  · rename_i f args ty ho
    split at hs <;> try simp only [reduceCtorEq] at hs
    rename_i fid first cap l hf hl
    have hfr := opnd_sound FR hf
    have hlr := opnds_sound FR hl
    obtain ⟨first', cap', hfe, hr1, hr2⟩ : ∃ first' cap', a.eval f = .func (.func fid) ⟨first'⟩ ⟨cap'⟩ ∧ VsRel I w ρ first first' ∧ VsRel I w ρ cap cap' := by
      cases hv : a.eval f <;> rw [hv] at hfr <;> cases hfr
      exact ⟨_, _, rfl, ‹_›, ‹_›⟩
    have hargs : VsRel I w ρ (first ++ l ++ cap) (first' ++ args.toList.map a.eval ++ cap') := VsRel.append hr2 (VsRel.append hlr hr1)
    have hrun : (execOp a.eval o).run P w = (callFunc fid ⟨first' ++ args.toList.map a.eval ++ cap'⟩).run P w := by
      simp only [execOp, ho, resolve, hfe, Deferred.ofValue, Sem.run_bind, Sem.run_pure, Result.andThen_ok, invoke]
      congr 2
      apply Array.ext'; simp
    split at hs
    · rename_i k v hx
      simp at hs
      obtain ⟨rfl, rfl, rfl⟩ := hs
      obtain ⟨v', e1, e2⟩ := hO.ext _ _ _ hx I w ρ _ hargs
      unfold Oper.wp
      rw [hrun, e1]
      exact hret v rfl w ρ I v' e2 (R.weaken (fun i hi => hi.1)) (.refl _ _ _ _)
    · have hen : Enters P fid := by
        unfold callO at hs
        simp only at hs
        split at hs <;> try simp only [reduceCtorEq] at hs
        split at hs <;> try simp only [reduceCtorEq] at hs
        rename_i hc
        exact hO.enters _ _ _ _ hc
      unfold Oper.wp
      rw [hrun, callFunc_enter hen]
      rw [Oper.upon_enter]
      refine (callO_sound (F := F) hO.fn R hargs hs).mono ?_
      rintro e w' ⟨ρ', I', r1, r2, r3⟩
      cases fin with
      | ret v =>
        obtain ⟨v', rfl, hv⟩ := r3
        exact hret v rfl w' ρ' I' v' hv (r1.weaken (fun i hi => ⟨hi.1, hi.2.2⟩)) r2
      | pan v =>
        obtain ⟨v', rfl, hv⟩ := r3
        exact hpan v rfl w' ρ' I' v' hv (r1.weaken (fun i hi => ⟨hi.1, hi.2.2⟩)) r2
  · rename_i x ho
    split at hs <;> simp at hs
    rename_i t v hx
    obtain ⟨rfl, rfl⟩ := hs
    have hr := opnd_sound FR hx
    cases hv : a.eval x <;> rw [hv] at hr <;> cases hr
    rename_i v1 hv1
    unfold Oper.wp
    have : (execOp a.eval o).run P w = .halt (.panic (.iface t v1)) w := by
      simp only [execOp, ho, hv, Instr.panic, Sem.run_bind]
      simp
    rw [this]
    exact hpan _ rfl w ρ I _ (.iface _ _ _ _ hv1) (R.weaken (fun i hi => hi.1)) (.refl _ _ _ _)
  · obtain ⟨v, hN, rfl⟩ := asmRes_true hs
    exact quiet hN rfl rfl
end
end Go.Lh
end
section
namespace Go.Lh
def refsOf : V → List Nat
  | .ptr i _ => [i]
  | .sl i _ _ _ _ => [i]
  | _ => []
def touchN (P : Program) (idx : Nat) (g : Fm) (op : Op) : Option (List Nat × List Nat) :=
  match stepT P g op with
  | some _ => some ([], [])
  | none => (match op with
    | .alloc _ => some ([], [idx])
    | .box _ _ => some ([], [idx])
    | .makeSlice _ _ _ => some ([], [idx])
    | .buildSlice _ _ _ => some ([], [idx])
    | .load _ a => (match opnd g a with | some v => some (refsOf v, []) | none => none)
    | .store _ a _ => (match opnd g a with | some v => some (refsOf v, refsOf v) | none => none)
    | .slice _ x _ _ _ => (match opnd g x with | some v => some (refsOf v, []) | none => none)
    | .convert _ _ x => (match opnd g x with | some (.str _) => some ([], [idx]) | some v => some (refsOf v, []) | none => none)
    | .call { callee := .builtin .append, args, .. } => (match opnds g args.toList with
      | some [x, y] => some (refsOf x ++ refsOf y, idx :: refsOf x)
      | _ => none)
    | .call { callee := .builtin .copy, args, .. } => (match opnds g args.toList with
      | some [x, y] => some (refsOf x ++ refsOf y, refsOf x)
      | _ => none)
    | .call { callee := .builtin .unsafeSliceData, .. } => some ([], [])
    | .call { callee := .builtin .unsafeString, args, .. } => (match opnds g args.toList with
      | some [x, _] => some (refsOf x, refsOf x)
      | _ => none)
    | _ => none)
def SameAt (l : List Nat) (h h2 : Heap) : Prop := ∀ i ∈ l, h2[i]? = h[i]?
def appU (h : Heap) : List (Nat × Blk) → Heap
  | [] => h
  | p :: r => appU (h.set p.1 p.2) r
theorem SameAt.left {l m : List Nat} {h h2 : Heap} (H : SameAt (l ++ m) h h2) : SameAt l h h2 := fun i hi => H i (by simp [hi])
theorem SameAt.right {l m : List Nat} {h h2 : Heap} (H : SameAt (l ++ m) h h2) : SameAt m h h2 := fun i hi => H i (by simp [hi])
section
variable {P : Program} {idx : Nat} {g : Fm} {h : Heap}
theorem srcB_same {s : Nat} {x : V} {h2 : Heap} (H : SameAt (refsOf x) h h2) : srcB h2 s x = srcB h s x := by
  cases x <;> try rfl
  rename_i i o s' len cap
  simp only [srcB]
  rw [H i (by simp [refsOf])]
theorem appH_loc {e : TypeId} {s n : Nat} {x : V} {c : Blk} {k : Bool} {v : V} {h' : Heap} (hs : appH P idx h e s x n c = some (k, v, h')) :
    ∃ U : List (Nat × Blk), (∀ p ∈ U, p.1 ∈ idx :: refsOf x) ∧ ∀ h2 : Heap, SameAt (refsOf x) h h2 → appH P idx h2 e s x n c = some (k, v, appU h2 U) := by
  cases x <;> simp only [appH, reduceCtorEq] at hs
  case nilSl =>
    split at hs
    · rename_i hn
      simp only [Option.some.injEq, Prod.mk.injEq] at hs
      obtain ⟨rfl, rfl, rfl⟩ := hs
      exact ⟨[], by simp, fun h2 _ => by simp [appH, hn, appU]⟩
    · rename_i hn
      simp only [Option.some.injEq, Prod.mk.injEq] at hs
      obtain ⟨rfl, rfl, rfl⟩ := hs
      exact ⟨[(idx, newB e c)], by simp, fun h2 _ => by simp [appH, hn, appU]⟩
  case sl i o s' len cap =>
    split at hs <;> try simp only [reduceCtorEq] at hs
    rename_i hss
    split at hs <;> try simp only [reduceCtorEq] at hs
    rename_i b hb
    split at hs <;> try simp only [reduceCtorEq] at hs
    rename_i hd
    have key : ∀ h2 : Heap, SameAt (refsOf (.sl i o s' len cap)) h h2 → h2[i]? = some b := fun h2 H => by rw [H i (by simp [refsOf]), hb]
    cases cap with
    | some m =>
      simp only at hs
      split at hs
      · rename_i hle
        split at hs <;> simp only [Option.some.injEq, Prod.mk.injEq, reduceCtorEq] at hs
        rename_i b' hb'
        obtain ⟨rfl, rfl, rfl⟩ := hs
        exact ⟨[(i, b')], by simp [refsOf], fun h2 H => by simp [appH, hss, key h2 H, hd, hle, hb', appU]⟩
      · rename_i hle
        split at hs <;> simp only [Option.some.injEq, Prod.mk.injEq, reduceCtorEq] at hs
        rename_i b' hb'
        obtain ⟨rfl, rfl, rfl⟩ := hs
        exact ⟨[(idx, b')], by simp, fun h2 H => by simp [appH, hss, key h2 H, hd, hle, hb', appU] <;> simp [← hss, hb']⟩
    | none =>
      simp only at hs
      split at hs <;> simp only [Option.some.injEq, Prod.mk.injEq, reduceCtorEq] at hs
      rename_i b' hb'
      obtain ⟨rfl, rfl, rfl⟩ := hs
      exact ⟨[(i, .dead), (idx, keepB e o b b')], by simp [refsOf], fun h2 H => by subst hss; simp only [appH, if_true, key h2 H, hd, hb', appU]; simp⟩
theorem stepN_loc {op : Op} {k : Bool} {v : V} {h' : Heap} {R W : List Nat} (hs : stepN P idx g h op = some (k, v, h')) (ht : touchN P idx g op = some (R, W)) :
    ∃ U : List (Nat × Blk), (∀ p ∈ U, p.1 ∈ W) ∧ ∀ h2 : Heap, SameAt R h h2 → stepN P idx g h2 op = some (k, v, appU h2 U) := by
  unfold stepN touchN at *
  cases hT : stepT P g op with
  | some q =>
    obtain ⟨k', v'⟩ := q
    simp only [hT, Option.some.injEq, Prod.mk.injEq] at hs ht ⊢
    obtain ⟨rfl, rfl, rfl⟩ := hs
    exact ⟨[], by simp, fun h2 _ => ⟨rfl, rfl, rfl⟩⟩
  | none =>
    simp only [hT] at hs ht ⊢
    cases op <;> try (simp only [stepH, reduceCtorEq] at hs; done)
    case alloc e =>
      simp only [Option.some.injEq, Prod.mk.injEq] at ht; obtain ⟨rfl, rfl⟩ := ht
      simp only [stepH] at hs ⊢
      split at hs <;> simp only [Option.some.injEq, Prod.mk.injEq, reduceCtorEq] at hs
      rename_i b hb
      obtain ⟨rfl, rfl, rfl⟩ := hs
      exact ⟨[(idx, b)], by simp, fun h2 _ => by simp [appU]⟩
    case box e x =>
      simp only [Option.some.injEq, Prod.mk.injEq] at ht; obtain ⟨rfl, rfl⟩ := ht
      simp only [stepH] at hs ⊢
      split at hs <;> simp only [Option.some.injEq, Prod.mk.injEq, reduceCtorEq] at hs
      rename_i v0 hna hx
      obtain ⟨rfl, rfl, rfl⟩ := hs
      exact ⟨[(idx, mkBlk v0.cells)], by simp, fun h2 _ => by simp [appU]⟩
    case load t x =>
      cases hx : opnd g x with
      | none => simp [hx] at ht
      | some y =>
        simp only [hx, Option.some.injEq, Prod.mk.injEq] at ht; obtain ⟨rfl, rfl⟩ := ht
        refine ⟨[], by simp, fun h2 H => ?_⟩
        have e : stepH P idx g h2 (.load t x) = match stepH P idx g h (.load t x) with | some (k, v, _) => some (k, v, h2) | none => none := by
          simp only [stepH, hx]
          cases y <;> cases isAggT P t with
            | none => cases sizeT P t <;> rfl
            | some ag => cases ag <;> cases sizeT P t <;> first | rfl | (simp only [H _ (List.mem_singleton.2 rfl)]; split <;> first | rfl | (split <;> rfl))
        rw [e, hs]; rfl
    case store t x y =>
      cases hx : opnd g x with
      | none => simp [hx] at ht
      | some z =>
        simp only [hx, Option.some.injEq, Prod.mk.injEq] at ht; obtain ⟨rfl, rfl⟩ := ht
        simp only [stepH, hx] at hs ⊢
        split at hs <;> try simp only [reduceCtorEq] at hs
        rename_i i q v0 n hna hx' hy hsz
        cases hx'
        split at hs <;> try simp only [reduceCtorEq] at hs
        rename_i hn
        split at hs <;> try simp only [reduceCtorEq] at hs
        rename_i b hb
        split at hs <;> try simp only [reduceCtorEq] at hs
        rename_i hdead
        split at hs <;> simp only [Option.some.injEq, Prod.mk.injEq, reduceCtorEq] at hs
        rename_i b' hb'
        obtain ⟨rfl, rfl, rfl⟩ := hs
        refine ⟨[(i, b')], by simp [refsOf], fun h2 H => ?_⟩
        have : h2[i]? = some b := by rw [H i (by simp [refsOf]), hb]
        simp [hy, hsz, hn, this, hdead, hb', appU]
    case slice t x lo hi mx =>
      cases mx with
      | some _ => simp [stepH] at hs
      | none =>
        cases hx : opnd g x with
        | none => simp [hx] at ht
        | some z =>
          simp only [hx, Option.some.injEq, Prod.mk.injEq] at ht; obtain ⟨rfl, rfl⟩ := ht
          simp only [stepH, hx] at hs ⊢
          split at hs <;> try simp only [reduceCtorEq] at hs
          rename_i n e i q hu hx'
          cases hx'
          split at hs <;> try simp only [reduceCtorEq] at hs
          rename_i s b l u hsz hb hlo hhi
          split at hs <;> simp only [Option.some.injEq, Prod.mk.injEq, reduceCtorEq] at hs
          rename_i hdead
          obtain ⟨rfl, rfl, rfl⟩ := hs
          refine ⟨[], by simp, fun h2 H => ?_⟩
          have : h2[i]? = some b := by rw [H i (by simp [refsOf]), hb]
          simp [hu, hsz, this, hlo, hhi, hdead, appU]
    case buildSlice t len parts =>
      simp only [Option.some.injEq, Prod.mk.injEq] at ht; obtain ⟨rfl, rfl⟩ := ht
      simp only [stepH] at hs ⊢
      split at hs <;> try simp only [reduceCtorEq] at hs
      rename_i e ps hu hps
      split at hs <;> try simp only [reduceCtorEq] at hs
      rename_i s z hsz hz
      split at hs <;> simp only [Option.some.injEq, Prod.mk.injEq, reduceCtorEq] at hs
      rename_i cs hcs
      obtain ⟨rfl, rfl, rfl⟩ := hs
      exact ⟨[(idx, mkBlk cs)], by simp, fun h2 _ => by simp [hu, hps, hsz, hz, hcs, appU]⟩
    case makeSlice t x y =>
      simp only [Option.some.injEq, Prod.mk.injEq] at ht; obtain ⟨rfl, rfl⟩ := ht
      simp only [stepH] at hs ⊢
      split at hs <;> try simp only [reduceCtorEq] at hs
      rename_i e lv cv hu hx hy
      split at hs <;> try simp only [reduceCtorEq] at hs
      rename_i l c s hl hc hsz
      split at hs <;> simp only [Option.some.injEq, Prod.mk.injEq, reduceCtorEq] at hs
      rename_i b hb
      obtain ⟨rfl, rfl, rfl⟩ := hs
      exact ⟨[(idx, b)], by simp, fun h2 _ => by simp [hu, hx, hy, hl, hc, hsz, hb, appU]⟩
    case convert src dst x =>
      cases hx : opnd g x with
      | none => simp [hx] at ht
      | some z =>
        simp only [stepH, hx] at hs ⊢
        split at hs <;> try simp only [reduceCtorEq] at hs
        · rename_i e s hsrc hdst hx'
          cases hx'
          simp only [hx, Option.some.injEq, Prod.mk.injEq] at ht; obtain ⟨rfl, rfl⟩ := ht
          split at hs <;> simp only [Option.some.injEq, Prod.mk.injEq, reduceCtorEq] at hs
          rename_i he
          obtain ⟨rfl, rfl, rfl⟩ := hs
          exact ⟨[(idx, .b8 s)], by simp, fun h2 _ => by simp [hsrc, hdst, he, appU]⟩
        · rename_i e i q s len cap hsrc hdst hx'
          cases hx'
          simp only [hx, Option.some.injEq, Prod.mk.injEq] at ht; obtain ⟨rfl, rfl⟩ := ht
          split at hs <;> try simp only [reduceCtorEq] at hs
          · rename_i xs he hb
            split at hs <;> simp only [Option.some.injEq, Prod.mk.injEq, reduceCtorEq] at hs
            rename_i hs1
            obtain ⟨rfl, rfl, rfl⟩ := hs
            refine ⟨[], by simp, fun h2 H => ?_⟩
            have : h2[i]? = some (.b8 xs) := by rw [H i (by simp [refsOf]), hb]
            simp [hsrc, hdst, he, this, hs1, appU]
          · rename_i e0 xs he hb
            split at hs <;> simp only [Option.some.injEq, Prod.mk.injEq, reduceCtorEq] at hs
            rename_i hs1
            obtain ⟨rfl, rfl, rfl⟩ := hs
            refine ⟨[], by simp, fun h2 H => ?_⟩
            have : h2[i]? = some (.buf e0 xs) := by rw [H i (by simp [refsOf]), hb]
            simp [hsrc, hdst, he, this, hs1, appU]
        · rename_i e hsrc hdst hx'
          cases hx'
          simp only [hx, Option.some.injEq, Prod.mk.injEq] at ht; obtain ⟨rfl, rfl⟩ := ht
          split at hs <;> simp only [Option.some.injEq, Prod.mk.injEq, reduceCtorEq] at hs
          rename_i he
          obtain ⟨rfl, rfl, rfl⟩ := hs
          exact ⟨[], by simp, fun h2 _ => by simp [hsrc, hdst, he, appU]⟩
        · rename_i t i q hsrc hdst hx'
          cases hx'
          simp only [hx, Option.some.injEq, Prod.mk.injEq] at ht; obtain ⟨rfl, rfl⟩ := ht
          split at hs <;> try simp only [reduceCtorEq] at hs
          rename_i e0 x0 y0 k0 hb hk0
          split at hs <;> simp only [Option.some.injEq, Prod.mk.injEq, reduceCtorEq] at hs
          rename_i hc
          obtain ⟨rfl, rfl, rfl⟩ := hs
          refine ⟨[], by simp, fun h2 H => ?_⟩
          have : h2[i]? = some (.bld e0 x0 y0) := by rw [H i (by simp [refsOf]), hb]
          simp only [hsrc, hdst, this, hk0, hc, if_true, appU]
        · rename_i t i q hsrc hdst hx'
          cases hx'
          simp only [hx, Option.some.injEq, Prod.mk.injEq] at ht; obtain ⟨rfl, rfl⟩ := ht
          split at hs <;> try simp only [reduceCtorEq] at hs
          rename_i e0 x0 y0 k0 hb hk0
          split at hs <;> simp only [Option.some.injEq, Prod.mk.injEq, reduceCtorEq] at hs
          rename_i hc
          obtain ⟨rfl, rfl, rfl⟩ := hs
          refine ⟨[], by simp, fun h2 H => ?_⟩
          have : h2[i]? = some (.bld e0 x0 y0) := by rw [H i (by simp [refsOf]), hb]
          simp only [hsrc, hdst, this, hk0, hc, if_true, appU]
    case call c =>
      obtain ⟨cal, args, ts⟩ := c
      cases cal with
      | value _ => simp [stepH] at hs
      | invoke _ _ => simp [stepH] at hs
      | builtin b =>
        cases b <;> try (simp only [stepH, reduceCtorEq] at hs; done)
        case append =>
          simp only at ht
          split at ht <;> simp only [Option.some.injEq, Prod.mk.injEq, reduceCtorEq] at ht
          rename_i x y hargs
          obtain ⟨rfl, rfl⟩ := ht
          simp only [stepH, hargs] at hs ⊢
          split at hs <;> try simp only [reduceCtorEq] at hs
          rename_i t t' tr x' y' hts hxy
          simp only [Option.some.injEq, List.cons.injEq, and_true] at hxy
          obtain ⟨rfl, rfl⟩ := hxy
          split at hs <;> try simp only [reduceCtorEq] at hs
          rename_i e hu
          split at hs <;> try simp only [reduceCtorEq] at hs
          · rename_i s kk hsz hut'
            split at hs <;> try simp only [reduceCtorEq] at hs
            rename_i n hn
            split at hs <;> try simp only [reduceCtorEq] at hs
            rename_i c hc
            split at hs <;> simp only [Option.some.injEq, Prod.mk.injEq, reduceCtorEq] at hs
            rename_i k' r hap
            obtain ⟨rfl, hr⟩ := hs
            subst hr
            obtain ⟨U, u1, u2⟩ := appH_loc hap
            exact ⟨U, u1, fun h2 H => by simp [hu, hsz, hut', hn, hc, u2 h2 H.left]⟩
          · rename_i s d hnint hsz hut'
            split at hs <;> try simp only [reduceCtorEq] at hs
            rename_i k' n c hsrc
            split at hs <;> simp only [Option.some.injEq, Prod.mk.injEq, reduceCtorEq] at hs
            rename_i k2 r hap
            obtain ⟨rfl, hr⟩ := hs
            subst hr
            obtain ⟨U, u1, u2⟩ := appH_loc hap
            refine ⟨U, u1, fun h2 H => ?_⟩
            rw [srcB_same H.right, hsrc]
            simp [u2 h2 H.left]
        case copy =>
          simp only at ht
          split at ht <;> simp only [Option.some.injEq, Prod.mk.injEq, reduceCtorEq] at ht
          rename_i x y hargs
          obtain ⟨rfl, rfl⟩ := ht
          simp only [stepH, hargs] at hs ⊢
          split at hs <;> try simp only [reduceCtorEq] at hs
          rename_i t tr i q s len cap y' hts hxy
          simp only [Option.some.injEq, List.cons.injEq, and_true] at hxy
          obtain ⟨rfl, rfl⟩ := hxy
          split at hs <;> try simp only [reduceCtorEq] at hs
          rename_i e hu
          split at hs <;> try simp only [reduceCtorEq] at hs
          rename_i hsz
          split at hs <;> try simp only [reduceCtorEq] at hs
          rename_i k n c b hsrc hb
          split at hs <;> try simp only [reduceCtorEq] at hs
          rename_i hd
          split at hs <;> simp only [Option.some.injEq, Prod.mk.injEq, reduceCtorEq] at hs
          rename_i b' hb'
          obtain ⟨rfl, rfl, rfl⟩ := hs
          refine ⟨[(i, b')], by simp [refsOf], fun h2 H => ?_⟩
          have h1 : h2[i]? = some b := by rw [H.left i (by simp [refsOf]), hb]
          rw [srcB_same H.right, hsrc, h1]
          simp [hsz, hd, hb', appU]
        case unsafeSliceData =>
          simp only [Option.some.injEq, Prod.mk.injEq] at ht
          obtain ⟨rfl, rfl⟩ := ht
          simp only [stepH] at hs ⊢
          split at hs <;> simp only [Option.some.injEq, Prod.mk.injEq, reduceCtorEq] at hs
          · rename_i i q s len cap hargs
            obtain ⟨rfl, rfl, rfl⟩ := hs
            exact ⟨[], by simp, fun h2 _ => by simp only [appU]⟩
          · rename_i hargs
            obtain ⟨rfl, rfl, rfl⟩ := hs
            exact ⟨[], by simp, fun h2 _ => by simp only [appU]⟩
        case unsafeString =>
          simp only at ht
          split at ht <;> simp only [Option.some.injEq, Prod.mk.injEq, reduceCtorEq] at ht
          rename_i x y hargs
          obtain ⟨rfl, rfl⟩ := ht
          simp only [stepH, hargs] at hs ⊢
          split at hs <;> try simp only [reduceCtorEq] at hs
          · rename_i pt it i q n hts hxy
            simp only [Option.some.injEq, List.cons.injEq, and_true] at hxy
            obtain ⟨rfl, rfl⟩ := hxy
            split at hs <;> try simp only [reduceCtorEq] at hs
            rename_i e e' xs hu hb
            split at hs <;> simp only [Option.some.injEq, Prod.mk.injEq, reduceCtorEq] at hs
            rename_i hc
            obtain ⟨rfl, rfl, rfl⟩ := hs
            refine ⟨[(i, .dead)], by simp [refsOf], fun h2 H => ?_⟩
            have h1 : h2[i]? = some (.buf e' xs) := by rw [H i (by simp [refsOf]), hb]
            simp only [hts, hu, h1, hc, if_true, appU]
          · rename_i pt it n hts hxy
            simp only [Option.some.injEq, List.cons.injEq, and_true] at hxy
            obtain ⟨rfl, rfl⟩ := hxy
            simp only [Option.some.injEq, Prod.mk.injEq] at hs
            obtain ⟨rfl, rfl, rfl⟩ := hs
            exact ⟨[], by simp, fun h2 _ => by simp only [hts, appU]⟩
end
end Go.Lh
end
section
namespace Go.Lh
def touchO (P : Program) (O : Orc) (idx : Nat) (g : Fm) (h : Heap) (op : Op) : Option (List Nat × List Nat × Bool) :=
  match op with
  | .call { callee := .value f, args, .. } => (match opnd g f, opnds g args.toList with
    | some (.fn fid first cap), some l => (match O.ext fid (first ++ l ++ cap) with
      | some _ => some ([], [], false)
      | none => some (reach h 100 (refsVs (first ++ l ++ cap)) [], if O.ro fid then [] else reach h 100 (refsVs (first ++ l ++ cap)) [], true))
    | _, _ => none)
  | .panic _ => none
  | op => (match touchN P idx g op with
    | some (R, W) => some (R, W, false)
    | none => none)
theorem reach_acc (h : Heap) : ∀ (fuel : Nat) (todo acc : List Nat), ∀ i ∈ acc, i ∈ reach h fuel todo acc
  | 0, _, _, i, hi => by simpa [reach] using hi
  | _ + 1, [], _, i, hi => by simpa [reach] using hi
  | fuel + 1, j :: todo, acc, i, hi => by
    simp only [reach]
    split
    · exact reach_acc h fuel _ _ i hi
    · split
      · exact reach_acc h fuel _ _ i (by simp [hi])
      · exact reach_acc h fuel _ _ i hi
theorem reach_same {h h2 : Heap} (hl : h2.length = h.length) : ∀ (fuel : Nat) (todo acc : List Nat), SameAt (reach h fuel todo acc) h h2 → reach h2 fuel todo acc = reach h fuel todo acc
  | 0, _, _, _ => rfl
  | _ + 1, [], _, _ => rfl
  | fuel + 1, i :: todo, acc, H => by
    simp only [reach] at H ⊢
    split
    · rename_i hm
      rw [if_pos hm] at H
      exact reach_same hl fuel _ _ H
    · rename_i hm
      rw [if_neg hm] at H
      cases hb : h[i]? with
      | some b =>
        rw [hb] at H
        simp only at H
        have : h2[i]? = some b := by rw [H i (reach_acc h fuel _ _ i (by simp)), hb]
        rw [this]
        exact reach_same hl fuel _ _ H
      | none =>
        rw [hb] at H
        have : h2[i]? = none := by
          rw [List.getElem?_eq_none_iff] at hb ⊢; omega
        rw [this]
        exact reach_same hl fuel _ _ H
theorem subHeap_same {h h2 : Heap} {τ : Nat → Option Nat} : ∀ {rd : List Nat}, SameAt rd h h2 → subHeap h2 τ rd = subHeap h τ rd
  | [], _ => rfl
  | i :: r, H => by
    simp only [subHeap]
    rw [H i (by simp), subHeap_same (rd := r) (fun j hj => H j (by simp [hj]))]
theorem setAll_appU : ∀ (rd : List Nat) (bs : List Blk) (h : Heap), setAll h rd bs = appU h (rd.zip bs)
  | [], _, h => by simp [setAll, appU]
  | _ :: _, [], h => by simp [setAll, appU]
  | i :: r, b :: s, h => by simp [setAll, appU, setAll_appU r s]
section
variable {P : Program} {O : Orc} {idx : Nat} {g : Fm} {h : Heap}
theorem stepO_loc {op : Op} {k : Bool} {fin : Fin} {h' : Heap} {R W : List Nat} {c : Bool} (hs : stepO P O idx g h op = some (k, fin, h')) (ht : touchO P O idx g h op = some (R, W, c)) :
    ∃ (U : List (Nat × Blk)) (N : Heap), (∀ p ∈ U, p.1 ∈ W) ∧ (c = false → N = []) ∧
      ∀ h2 : Heap, SameAt R h h2 → (c = true → h2.length = h.length) → stepO P O idx g h2 op = some (k, fin, appU h2 U ++ N) ∧ touchO P O idx g h2 op = some (R, W, c) := by
  have plain : (∀ h2, stepO P O idx g h2 op = asmRes (asmOf O.asm op) (stepN P idx g h2 op)) →
      (∀ h2, touchO P O idx g h2 op = match touchN P idx g op with | some (R, W) => some (R, W, false) | none => none) →
      ∃ (U : List (Nat × Blk)) (N : Heap), (∀ p ∈ U, p.1 ∈ W) ∧ (c = false → N = []) ∧
      ∀ h2 : Heap, SameAt R h h2 → (c = true → h2.length = h.length) → stepO P O idx g h2 op = some (k, fin, appU h2 U ++ N) ∧ touchO P O idx g h2 op = some (R, W, c) := by
    intro e1 e2
    rw [e1 h] at hs
    rw [e2 h] at ht
    cases hN : stepN P idx g h op with
    | none => obtain ⟨_, _, e, _⟩ := asmRes_some hs; rw [hN] at e; cases e
    | some r =>
      obtain ⟨k', v, h'', hfin, hall⟩ := asmRes_some hs
      rw [hN] at h''
      cases h''
      cases hT : touchN P idx g op with
      | none => simp [hT] at ht
      | some t =>
        obtain ⟨R', W'⟩ := t
        simp only [hT, Option.some.injEq, Prod.mk.injEq] at ht
        obtain ⟨rfl, rfl, rfl⟩ := ht
        obtain ⟨U, u1, u2⟩ := stepN_loc hN hT
        refine ⟨U, [], u1, fun _ => rfl, fun h2 H _ => ⟨?_, ?_⟩⟩
        · rw [e1 h2, u2 h2 H, hall]; simp
        · rw [e2 h2, hT]
  cases op with
  | call cl =>
    obtain ⟨cal, args, ts⟩ := cl
    cases cal with
    | value f =>
      simp only [stepO, touchO] at hs ht ⊢
      cases hf : opnd g f with
      | none => simp [hf] at hs
      | some fv =>
        cases hl : opnds g args.toList with
        | none => cases fv <;> simp [hf, hl] at hs
        | some l =>
          cases fv <;> simp only [hf, hl, reduceCtorEq] at hs ht ⊢
          rename_i fid first cap
          cases hx : O.ext fid (first ++ l ++ cap) with
          | some r =>
            obtain ⟨k', v⟩ := r
            simp only [hx, Option.some.injEq, Prod.mk.injEq] at hs ht ⊢
            obtain ⟨rfl, rfl, rfl⟩ := hs
            obtain ⟨rfl, rfl, rfl⟩ := ht
            exact ⟨[], [], by simp, fun _ => rfl, fun h2 _ _ => by simp [appU]⟩
          | none =>
            simp only [hx, Option.some.injEq, Prod.mk.injEq] at hs ht ⊢
            obtain ⟨rfl, rfl, rfl⟩ := ht
            cases hro : O.ro fid with
            | true =>
              rw [if_pos rfl]
              refine ⟨[], [], by simp, fun _ => rfl, fun h2 H hlen => ?_⟩
              have hl2 := hlen (by first | rfl | trivial)
              have hr2 : reach h2 100 (refsVs (first ++ l ++ cap)) [] = reach h 100 (refsVs (first ++ l ++ cap)) [] := reach_same hl2 100 _ _ H
              refine ⟨?_, hr2, if_pos rfl, rfl⟩
              have e0 := callO_ro (fun args h r => O.roOk fid hro args h r) hs
              subst e0
              generalize hrd : reach h' 100 (refsVs (first ++ l ++ cap)) [] = rd at *
              have e1 : (callO O.fn fid (first ++ l ++ cap) h2).map (fun r => (r.1, r.2.1)) = some (k, fin) := by
                unfold callO at hs
                simp only [hrd] at hs
                split at hs <;> try simp only [reduceCtorEq] at hs
                rename_i args2 hs2 hra hsub
                split at hs <;> try simp only [reduceCtorEq] at hs
                rename_i k' fin2 hs3 hcall
                split at hs <;> try simp only [reduceCtorEq] at hs
                rename_i hle
                split at hs <;> simp only [Option.some.injEq, Prod.mk.injEq, reduceCtorEq] at hs
                rename_i fin' lb hfin hlb
                obtain ⟨rfl, rfl, _⟩ := hs
                unfold callO
                simp only [hr2, hra, subHeap_same H, hsub, hcall, hle, if_true, hl2, hfin, hlb, Option.map_some]
              cases hx2 : callO O.fn fid (first ++ l ++ cap) h2 with
              | none => rw [hx2] at e1; cases e1
              | some r =>
                obtain ⟨k2, fin2, x⟩ := r
                rw [hx2] at e1
                simp only [Option.map_some, Option.some.injEq, Prod.mk.injEq] at e1
                obtain ⟨rfl, rfl⟩ := e1
                have e2 := callO_ro (fun args h r => O.roOk fid hro args h r) hx2
                rw [e2]
                simp [appU]
            | false =>
            rw [if_neg Bool.false_ne_true]
            generalize hrd : reach h 100 (refsVs (first ++ l ++ cap)) [] = rd at *
            have hs0 := hs
            unfold callO at hs
            simp only [hrd] at hs
            split at hs <;> try simp only [reduceCtorEq] at hs
            rename_i args2 hs2 hra hsub
            split at hs <;> try simp only [reduceCtorEq] at hs
            rename_i k' fin2 hs3 hcall
            split at hs <;> try simp only [reduceCtorEq] at hs
            rename_i hle
            split at hs <;> simp only [Option.some.injEq, Prod.mk.injEq, reduceCtorEq] at hs
            rename_i fin' lb hfin hlb
            obtain ⟨rfl, rfl, rfl⟩ := hs
            refine ⟨rd.zip (lb.take rd.length), lb.drop rd.length, fun p hp => (List.of_mem_zip hp).1, by simp, fun h2 H hlen => ?_⟩
            have hl2 := hlen rfl
            have hr2 : reach h2 100 (refsVs (first ++ l ++ cap)) [] = rd := by rw [reach_same hl2 100 _ _ (by rw [hrd]; exact H), hrd]
            refine ⟨?_, hr2, hr2, rfl⟩
            unfold callO
            simp only [hr2, hra, subHeap_same H, hsub, hcall, hle, if_true, hl2, hfin, hlb, setAll_appU]
    | invoke _ _ => exact plain (fun h2 => rfl) (fun h2 => rfl)
    | builtin b => exact plain (fun h2 => rfl) (fun h2 => rfl)
  | panic x => simp [touchO] at ht
  | _ => exact plain (fun h2 => rfl) (fun h2 => rfl)
theorem opnd_congr {g2 : Fm} {x : Operand} (h : ∀ t, x = .tmp t → g2 t = g t) : opnd g2 x = opnd g x := by
  cases x with
  | tmp t => exact h t rfl
  | _ => rfl
theorem opnds_congr {g2 : Fm} : ∀ {l : List Operand}, (∀ t, Operand.tmp t ∈ l → g2 t = g t) → opnds g2 l = opnds g l
  | [], _ => rfl
  | x :: r, h => by
    simp only [opnds]
    rw [opnd_congr (x := x) (fun t e => h t (by simp [e])), opnds_congr (l := r) (fun t ht => h t (by simp [ht]))]
theorem partsV_congr {g2 : Fm} : ∀ {l : List (Nat × Operand)}, (∀ t i, (i, Operand.tmp t) ∈ l → g2 t = g t) → partsV g2 l = partsV g l
  | [], _ => rfl
  | (i, x) :: r, h => by
    simp only [partsV]
    rw [opnd_congr (x := x) (fun t e => h t i (by simp [e])), partsV_congr (l := r) (fun t j ht => h t j (by simp [ht]))]
theorem optIx_congr {g2 : Fm} {x : Option Operand} {d : Int} (h : ∀ t, x = some (.tmp t) → g2 t = g t) : optIx g2 x d = optIx g x d := by
  cases x with
  | none => rfl
  | some y =>
    simp only [optIx]
    rw [opnd_congr (x := y) (fun t e => h t (by rw [e]))]
def tmpsOf (op : Op) (t : Nat) : Prop := Operand.tmp t ∈ op.operands.toList
theorem stepT_congr {g2 : Fm} {op : Op} (h : ∀ t, tmpsOf op t → g2 t = g t) : stepT P g2 op = stepT P g op := by
  have o : ∀ x, x ∈ op.operands.toList → opnd g2 x = opnd g x := fun x hx => opnd_congr (fun t e => h t (by unfold tmpsOf; rw [← e]; exact hx))
  cases op <;> simp only [stepT]
  case move x => rw [o x (by simp [Op.operands])]
  case assign x => rw [o x (by simp [Op.operands])]
  case pick c x y => rw [o c (by simp [Op.operands]), o x (by simp [Op.operands]), o y (by simp [Op.operands])]
  case lookup t x k c => cases c <;> simp only [] <;> rw [o x (by simp [Op.operands]), o k (by simp [Op.operands])]
  case nilCheck x => rw [o x (by simp [Op.operands])]
  case binOp op t x y t' => rw [o x (by simp [Op.operands]), o y (by simp [Op.operands])]
  case unOp op t x => rw [o x (by simp [Op.operands])]
  case convert s d x => rw [o x (by simp [Op.operands])]
  case sliceToArrayPointer d x => rw [o x (by simp [Op.operands])]
  case makeInterface t x => rw [o x (by simp [Op.operands])]
  case makeFunc fn first cap =>
    cases fn <;> simp only []
    rw [opnds_congr (l := first.toList) (fun t ht => h t (by simp only [tmpsOf, Op.operands, Array.toList_append, List.mem_append]; exact .inl ht)), opnds_congr (l := cap.toList) (fun t ht => h t (by simp only [tmpsOf, Op.operands, Array.toList_append, List.mem_append]; exact .inr ht))]
  case slice t x lo hi mx =>
    cases mx <;> simp only []
    rw [o x (by simp [Op.operands])]
    have e1 : ∀ y, lo = some y → optIx g2 (some y) 0 = optIx g (some y) 0 := fun y hy => optIx_congr (fun t e => h t (by simp only [Option.some.injEq] at e; subst e; simp [tmpsOf, Op.operands, hy]))
    have e2 : ∀ y, hi = some y → optIx g2 (some y) 0 = optIx g (some y) 0 := fun y hy => optIx_congr (fun t e => h t (by simp only [Option.some.injEq] at e; subst e; simp [tmpsOf, Op.operands, hy]))
    cases lo <;> cases hi <;> simp only []
    · rw [e2 _ rfl]
    · rw [e1 _ rfl]
    · rw [e1 _ rfl, e2 _ rfl]
  case fieldAddr t x n => rw [o x (by simp [Op.operands])]
  case field t x n => rw [o x (by simp [Op.operands])]
  case indexAddr t x ix => rw [o x (by simp [Op.operands]), o ix (by simp [Op.operands])]
  case index t x ix => rw [o x (by simp [Op.operands]), o ix (by simp [Op.operands])]
  case extract x n => rw [o x (by simp [Op.operands])]
  case build t parts =>
    rw [partsV_congr (l := parts.toList) (fun t i ht => h t (by simp only [tmpsOf, Op.operands, List.mem_map]; exact ⟨_, ht, rfl⟩))]
  case typeAssert x t s ok => cases ok <;> simp only []; rw [o x (by simp [Op.operands])]
  case call c =>
    rw [opnds_congr (l := c.args.toList) (fun t ht => h t (by simp only [tmpsOf, Op.operands, Call.operands, Array.toList_append, List.mem_append]; exact .inr ht))]
theorem stepH_congr {g2 : Fm} {op : Op} (h0 : ∀ t, tmpsOf op t → g2 t = g t) : stepH P idx g2 h op = stepH P idx g h op := by
  have o : ∀ x, x ∈ op.operands.toList → opnd g2 x = opnd g x := fun x hx => opnd_congr (fun t e => h0 t (by unfold tmpsOf; rw [← e]; exact hx))
  cases op <;> try rfl
  case box t x => simp only [stepH]; rw [o x (by simp [Op.operands])]
  case load t x => simp only [stepH]; rw [o x (by simp [Op.operands])]
  case store t x y => simp only [stepH]; rw [o x (by simp [Op.operands]), o y (by simp [Op.operands])]
  case slice t x lo hi mx =>
    cases mx <;> simp only [stepH]
    rw [o x (by simp [Op.operands])]
    have e1 : optIx g2 lo = optIx g lo := funext fun d => optIx_congr (fun t e => h0 t (by subst e; simp [tmpsOf, Op.operands]))
    have e2 : optIx g2 hi = optIx g hi := funext fun d => optIx_congr (fun t e => h0 t (by subst e; simp [tmpsOf, Op.operands]))
    simp only [e1, e2]
  case buildSlice t len parts =>
    simp only [stepH]
    rw [partsV_congr (l := parts.toList) (fun t i ht => h0 t (by simp only [tmpsOf, Op.operands, List.mem_map]; exact ⟨_, ht, rfl⟩))]
  case makeSlice t x y => simp only [stepH]; rw [o x (by simp [Op.operands]), o y (by simp [Op.operands])]
  case convert s d x => simp only [stepH]; rw [o x (by simp [Op.operands])]
  case call c =>
    obtain ⟨cal, args, ts⟩ := c
    have oa : opnds g2 args.toList = opnds g args.toList := opnds_congr (fun t ht => h0 t (by simp only [tmpsOf, Op.operands, Call.operands, Array.toList_append, List.mem_append]; exact .inr ht))
    cases cal with
    | builtin b => cases b <;> first | rfl | (simp only [stepH]; rw [oa])
    | value _ => rfl
    | invoke _ _ => rfl
theorem touchN_congr {g2 : Fm} {op : Op} (h0 : ∀ t, tmpsOf op t → g2 t = g t) : touchN P idx g2 op = touchN P idx g op := by
  have o : ∀ x, x ∈ op.operands.toList → opnd g2 x = opnd g x := fun x hx => opnd_congr (fun t e => h0 t (by unfold tmpsOf; rw [← e]; exact hx))
  unfold touchN
  rw [stepT_congr h0]
  cases stepT P g op with
  | some _ => rfl
  | none =>
    simp only
    cases op <;> try rfl
    case load t x => simp only; rw [o x (by simp [Op.operands])]
    case store t x y => simp only; rw [o x (by simp [Op.operands])]
    case slice t x lo hi mx => simp only; rw [o x (by simp [Op.operands])]
    case convert s d x => simp only; rw [o x (by simp [Op.operands])]
    case call c =>
      obtain ⟨cal, args, ts⟩ := c
      have oa : opnds g2 args.toList = opnds g args.toList := opnds_congr (fun t ht => h0 t (by simp only [tmpsOf, Op.operands, Call.operands, Array.toList_append, List.mem_append]; exact .inr ht))
      cases cal with
      | builtin b => cases b <;> first | rfl | (simp only; rw [oa])
      | value _ => rfl
      | invoke _ _ => rfl
theorem stepO_congr {g2 : Fm} {op : Op} (h0 : ∀ t, tmpsOf op t → g2 t = g t) : stepO P O idx g2 h op = stepO P O idx g h op ∧ touchO P O idx g2 h op = touchO P O idx g h op := by
  have o : ∀ x, x ∈ op.operands.toList → opnd g2 x = opnd g x := fun x hx => opnd_congr (fun t e => h0 t (by unfold tmpsOf; rw [← e]; exact hx))
  have n1 : stepN P idx g2 h op = stepN P idx g h op := by unfold stepN; rw [stepT_congr h0, stepH_congr h0]
  have n2 := touchN_congr (P := P) (idx := idx) h0
  cases op with
  | panic x => exact ⟨by simp only [stepO]; rw [o x (by simp [Op.operands])], rfl⟩
  | call c =>
    obtain ⟨cal, args, ts⟩ := c
    have oa : opnds g2 args.toList = opnds g args.toList := opnds_congr (fun t ht => h0 t (by simp only [tmpsOf, Op.operands, Call.operands, Array.toList_append, List.mem_append]; exact .inr ht))
    cases cal with
    | value f =>
      have of := o f (by simp [Op.operands, Call.operands])
      exact ⟨by simp only [stepO]; rw [of, oa], by simp only [touchO]; rw [of, oa]⟩
    | invoke _ _ => exact ⟨by simp only [stepO, n1], by simp only [touchO, n2]⟩
    | builtin _ => exact ⟨by simp only [stepO, n1], by simp only [touchO, n2]⟩
  | _ => exact ⟨by simp only [stepO, n1], by simp only [touchO, n2]⟩
end
end Go.Lh
end
section
namespace Go.Lh
def wantV (ops : List Oper) (g : Fm) (o : Oper) : Option Bool :=
  match o.guard with
  | none => some true
  | some (j, want) => (match ops[j]? with
    | some oj => (match oj.dst with
      | some d => (match g d with
        | some (.bool b) => some (b == want)
        | some (.tup _) => some false
        | _ => none)
      | none => none)
    | none => none)
def putO (dst : Option Tmp) (v : V) (fr : Fr) : Fr := match dst with | some t => fr.put t v | none => fr
theorem get_putO (dst : Option Tmp) (v : V) (fr : Fr) : (putO dst v fr).get = Fm.put fr.get dst v := by
  cases dst with
  | none => rfl
  | some t => exact Fr.get_put t v fr
def nextIdx (P : Program) (o : Oper) (idx : Nat) : Nat := if Op.makes P o.op then idx + 1 else idx
def nMakes (P : Program) : List Oper → Nat
  | [] => 0
  | o :: r => if Op.makes P o.op then nMakes P r + 1 else nMakes P r
def runOps (P : Program) (O : Orc) (ops : List Oper) : List Oper → Nat → Fr → Heap → Option (Bool × Option V × Fr × Heap)
  | [], _, fr, h => some (true, none, fr, h)
  | o :: r, idx, fr, h => match wantV ops fr.get o with
    | some w => if w then (match stepO P O idx fr.get h o.op with
        | some (k, .ret v, h') => (match runOps P O ops r (nextIdx P o idx) (putO o.dst v fr) h' with
          | some (k', q) => some (k && k', q)
          | none => none)
        | some (k, .pan v, h') => some (k, some v, fr, h')
        | none => none)
      else runOps P O ops r (nextIdx P o idx) (putO o.dst (.tup []) fr) h
    | none => none
structure Tch where
  R : List Nat
  W : List Nat
  c : Bool
  len : Nat
def touches (P : Program) (O : Orc) (ops : List Oper) : List Oper → Nat → Fr → Heap → Option (List Tch)
  | [], _, _, _ => some []
  | o :: r, idx, fr, h => match wantV ops fr.get o with
    | some w => if w then (match touchO P O idx fr.get h o.op, stepO P O idx fr.get h o.op with
        | some (R, W, c), some (_, .ret v, h') => (match touches P O ops r (nextIdx P o idx) (putO o.dst v fr) h' with
          | some l => some (⟨R, W, c, h.length⟩ :: l)
          | none => none)
        | _, _ => none)
      else (match touches P O ops r (nextIdx P o idx) (putO o.dst (.tup []) fr) h with
        | some l => some (⟨[], [], false, h.length⟩ :: l)
        | none => none)
    | none => none
def disj (l m : List Nat) : Bool := l.all fun i => !memN i m
def Tch.indep (s t : Tch) : Bool :=
  disj s.W (t.R ++ t.W) && disj t.W (s.R ++ s.W) && !(s.c && t.c) &&
  (!s.c || (t.R ++ t.W).all fun i => Nat.blt i s.len) && (!t.c || (s.R ++ s.W).all fun i => Nat.blt i t.len)
def waitsAny (o : Oper) (bl : List Nat) : Bool := o.after.toList.any fun e => memN e.on bl && Region.binds .any e
def backEdges : Nat → List Oper → Bool
  | _, [] => true
  | k, o :: r => (o.after.toList.all fun e => !Region.binds .any e || Nat.blt e.on k) && backEdges (k + 1) r
def oneOk (ops : Array Oper) (o : Oper) (t : Tch) : Nat → List Nat → List Oper → List Tch → Bool
  | _, _, [], [] => true
  | m, bl, p :: r, s :: l => if waitsAny p bl then oneOk ops o t (m + 1) (m :: bl) r l else (o.apart ops p && t.indep s) && oneOk ops o t (m + 1) bl r l
  | _, _, _, _ => false
def allOk (ops : Array Oper) : Nat → List Oper → List Tch → Bool
  | _, [], [] => true
  | i, o :: r, t :: l => oneOk ops o t (i + 1) [i] r l && allOk ops (i + 1) r l
  | _, _, _ => false
def drawOk (P : Program) (O : Orc) (ops : Array Oper) (idx : Nat) (fr : Fr) (h : Heap) : Bool :=
  Region.noSelect ops && backEdges 0 ops.toList && (match touches P O ops.toList ops.toList idx fr h with
    | some l => allOk ops 0 ops.toList l
    | none => false)
def runRegion (P : Program) (O : Orc) (ops : Array Oper) (draw : Bool) (fr : Fr) (h : Heap) : Option (Bool × Option V × Fr × Heap) :=
  let h0 := h ++ List.replicate (nMakes P ops.toList) .dead
  if draw then (if drawOk P O ops h.length fr h0 then (match runOps P O ops.toList ops.toList h.length fr h0 with
      | some (k, none, r) => some (k, none, r)
      | _ => none) else none)
  else runOps P O ops.toList ops.toList h.length fr h0
theorem appH_len {P : Program} {idx : Nat} {h : Heap} {e : TypeId} {s : Nat} {x : V} {n : Nat} {c : Blk} {k : Bool} {v : V} {h' : Heap} (hs : appH P idx h e s x n c = some (k, v, h')) : h'.length = h.length := by
  unfold appH at hs
  repeat' split at hs
  all_goals first
    | (simp only [reduceCtorEq] at hs; done)
    | (simp only [Option.some.injEq, Prod.mk.injEq] at hs; obtain ⟨_, _, rfl⟩ := hs; simp)
theorem stepN_len {P : Program} {idx : Nat} {g : Fm} {h : Heap} {op : Op} {k : Bool} {v : V} {h' : Heap} (hs : stepN P idx g h op = some (k, v, h')) : h'.length = h.length := by
  unfold stepN at hs
  split at hs
  · simp only [Option.some.injEq, Prod.mk.injEq] at hs; obtain ⟨_, _, rfl⟩ := hs; rfl
  · unfold stepH at hs
    repeat' split at hs
    all_goals first
      | (simp only [reduceCtorEq] at hs; done)
      | (simp only [Option.some.injEq, Prod.mk.injEq] at hs; obtain ⟨_, _, rfl⟩ := hs; simp; done)
      | (rename_i hap; simp only [Option.some.injEq, Prod.mk.injEq] at hs; obtain ⟨_, hr⟩ := hs; subst hr; exact appH_len hap)
theorem stepO_len {P : Program} {O : Orc} {idx : Nat} {g : Fm} {h : Heap} {op : Op} {k : Bool} {fin : Fin} {h' : Heap} (hs : stepO P O idx g h op = some (k, fin, h')) : h.length ≤ h'.length := by
  unfold stepO at hs
  split at hs
  · split at hs <;> try simp only [reduceCtorEq] at hs
    split at hs
    · simp only [Option.some.injEq, Prod.mk.injEq] at hs; obtain ⟨_, _, rfl⟩ := hs; exact Nat.le_refl _
    · unfold callO at hs
      simp only at hs
      repeat' split at hs
      all_goals first
        | (simp only [reduceCtorEq] at hs; done)
        | (simp only [Option.some.injEq, Prod.mk.injEq] at hs; obtain ⟨_, _, rfl⟩ := hs; simp [setAll_length]; done)
  · split at hs <;> simp only [Option.some.injEq, Prod.mk.injEq, reduceCtorEq] at hs
    obtain ⟨_, _, rfl⟩ := hs; exact Nat.le_refl _
  · obtain ⟨_, _, hN, _⟩ := asmRes_some hs
    exact Nat.le_of_eq (stepN_len hN).symm
theorem stepN_idx {P : Program} {i j : Nat} {g : Fm} {h : Heap} {op : Op} (hm : Op.makes P op = false) : stepN P i g h op = stepN P j g h op := by
  unfold stepN
  cases stepT P g op with
  | some _ => rfl
  | none =>
    simp only
    cases op with
    | alloc _ => simp [Op.makes] at hm
    | box _ _ => simp [Op.makes] at hm
    | buildSlice _ _ _ => simp [Op.makes] at hm
    | makeSlice _ _ _ => simp [Op.makes] at hm
    | convert src dst x =>
      simp only [stepH]
      simp only [Op.makes] at hm
      split at hm
      · cases hm
      · rename_i hn
        split
        · rename_i h1 h2 _; exact (hn _ h1 h2).elim
        all_goals rfl
    | call c =>
      obtain ⟨cal, args, ts⟩ := c
      cases cal with
      | builtin b => cases b <;> first | rfl | simp [Op.makes] at hm
      | value _ => rfl
      | invoke _ _ => rfl
    | slice _ _ _ _ mx => cases mx <;> rfl
    | _ => rfl
theorem stepO_idx {P : Program} {O : Orc} {i j : Nat} {g : Fm} {h : Heap} {op : Op} (hm : Op.makes P op = false) : stepO P O i g h op = stepO P O j g h op := by
  have e := stepN_idx (i := i) (j := j) (g := g) (h := h) hm
  cases op with
  | call c =>
    obtain ⟨cal, args, ts⟩ := c
    cases cal with
    | value _ => rfl
    | builtin _ => simp only [stepO, e]
    | invoke _ _ => simp only [stepO, e]
  | panic _ => rfl
  | _ => simp only [stepO, e]
theorem dead_of_free {ρ : Ren} {I : Nat → Prop} {w : World} {h : Heap} {F : Nat → Prop} (R : Rel ρ I w h F) {i : Nat} (hF : F i) (hi : i < h.length) : h[i]? = some .dead := by
  cases hb : h[i] with
  | dead => rw [List.getElem?_eq_getElem hi, hb]
  | _ =>
    obtain ⟨l, hl, _⟩ := R.blk i _ (List.getElem?_eq_getElem hi) (by rw [hb]; simp)
    rw [R.free i hF] at hl; cases hl
structure Sim (N : Nat) (dfs : List Deferred) (ρ : Ren) (I : Nat → Prop) (w : World) (a : Act) (g : Fm) (h : Heap) (F : Nat → Prop) : Prop where
  size : a.tmps.size = N
  defers : a.defers = dfs
  fr : FRel I w ρ g a
  rel : Rel ρ I w h F
def dstIn (N : Nat) (o : Oper) : Bool := match o.dst with | some d => Nat.blt d N | none => true
theorem dstIn_iff {N : Nat} {o : Oper} (h : dstIn N o = true) : ∀ d, o.dst = some d → d < N := by
  intro d hd
  simp only [dstIn, hd, Nat.blt_eq] at h
  exact h
section
variable {P : Program} {O : Orc} {N : Nat} {dfs : List Deferred}
theorem want_sound {ops : Array Oper} {g : Fm} {I : Nat → Prop} {w : World} {ρ : Ren} {a : Act} {o : Oper} {b : Bool} (F : FRel I w ρ g a) (hin : ∀ d, d ∈ ops.toList.filterMap (·.dst) → d < a.tmps.size) (h : wantV ops.toList g o = some b) :
    Region.wanted o (yielded ops a.tmps) = b := by
  unfold wantV at h
  unfold Region.wanted
  cases hg : o.guard with
  | none => simp only [hg, Option.some.injEq] at h; exact h
  | some q =>
    obtain ⟨j, want⟩ := q
    simp only [hg] at h ⊢
    split at h <;> try simp only [reduceCtorEq] at h
    rename_i oj hj
    split at h <;> try simp only [reduceCtorEq] at h
    rename_i d hd
    rw [Array.getElem?_toList] at hj
    have hdlt : d < a.tmps.size := hin d (List.mem_filterMap.2 ⟨oj, Array.mem_toList_iff.2 (Array.mem_of_getElem? hj), hd⟩)
    have ey : yielded ops a.tmps j = match a.tmps.getD d undef with | .bool b => some b | _ => none := by
      simp only [yielded, hj, hd, Option.bind_some]
      rw [Array.getElem?_eq_getElem hdlt]
      have e0 : a.tmps.getD d undef = a.tmps[d] := by simp [Array.getD, hdlt]
      rw [e0]
      cases a.tmps[d] <;> rfl
    split at h <;> simp only [Option.some.injEq, reduceCtorEq] at h
    · rename_i c hc
      have r := F d _ hc
      rw [ey]
      cases hv : a.tmps.getD d undef <;> rw [hv] at r <;> cases r
      simpa using h
    · rename_i c hc
      have r := F d _ hc
      rw [ey]
      cases hv : a.tmps.getD d undef <;> rw [hv] at r <;> cases r
      subst h; rfl
def Pend (P : Program) (l : List Oper) (idx : Nat) : Nat → Prop := fun i => idx ≤ i ∧ i < idx + nMakes P l
theorem runOps_sound (hO : OrcSound P O) {ops : Array Oper} (Q : Exit → Act → World → Prop)
    (hin : ∀ d, d ∈ ops.toList.filterMap (·.dst) → d < N) :
    ∀ (l pre : List Oper) (idx : Nat) (fr : Fr) (h : Heap) (ρ : Ren) (I : Nat → Prop) (w : World) (a : Act) (x : Option V) (fr' : Fr) (h' : Heap), ops.toList = pre ++ l →
      Sim N dfs ρ I w a fr.get h (Pend P l idx) → idx + nMakes P l ≤ h.length → runOps P O ops.toList l idx fr h = some (true, x, fr', h') →
      (∀ ρ' I' w' a', x = none → Sim N dfs ρ' I' w' a' fr'.get h' (fun _ => False) → Went ρ I w h ρ' I' w' h' → Q .normal a' w') →
      (∀ v ρ' I' w' a' v', x = some v → VRel I' w' ρ' v v' → Sim N dfs ρ' I' w' a' fr'.get h' (fun _ => False) → Went ρ I w h ρ' I' w' h' → Q (.panic [{ v := v', recovered := false }]) a' w') →
      wpOps P ops Q (List.range' pre.length l.length) a w
  | [], pre, idx, fr, h, ρ, I, w, a, x, fr', h', _, S, _, hr, hq, _ => by
    simp only [runOps, Option.some.injEq, Prod.mk.injEq, true_and] at hr
    obtain ⟨rfl, rfl, rfl⟩ := hr
    simp only [List.length_nil, List.range'_zero, wpOps]
    exact hq ρ I w a rfl ⟨S.size, S.defers, S.fr, S.rel.weaken (fun _ h => h.elim)⟩ (.refl _ _ _ _)
  | o :: l, pre, idx, fr, h, ρ, I, w, a, x, fr', h', hops, S, hlen, hr, hq, hp => by
    have hget : ops[pre.length]? = some o := by rw [← Array.getElem?_toList, hops]; simp
    have hdst : ∀ d, o.dst = some d → d < N := fun d hd => hin d (List.mem_filterMap.2 ⟨o, by rw [hops]; simp, hd⟩)
    simp only [List.length_cons, List.range'_succ, wpOps, hget]
    simp only [runOps] at hr
    have hnm : nMakes P (o :: l) = if Op.makes P o.op then nMakes P l + 1 else nMakes P l := rfl
    have hidx' : nextIdx P o idx + nMakes P l = idx + nMakes P (o :: l) := by
      rw [hnm]; unfold nextIdx; split <;> omega
    have hidxle : idx ≤ nextIdx P o idx := by unfold nextIdx; split <;> omega
    split at hr <;> try simp only [reduceCtorEq] at hr
    rename_i b hw
    have hwant := want_sound (ops := ops) S.fr (by rw [S.size]; exact hin) hw
    rw [hwant]
    cases b with
    | false =>
      simp only [Bool.false_eq_true, if_false] at hr ⊢
      have ih := runOps_sound hO Q hin l (pre ++ [o]) (nextIdx P o idx) (putO o.dst (.tup []) fr) h ρ I w (a.put o.dst undef) x fr' h' (by simp [hops])
        ⟨by rw [put_size]; exact S.size, by rw [put_defers]; exact S.defers, by rw [get_putO]; exact S.fr.put (.tup _ _ _ (.nil _)) (fun d hd => by rw [S.size]; exact hdst d hd), S.rel.weaken (fun i hi => ⟨by have := hi.1; omega, by have := hi.2; omega⟩)⟩
        (by omega) hr hq hp
      simpa using ih
    | true =>
      simp only [if_true] at hr ⊢
      left
      -- the number at which the operation is looked at
      obtain ⟨id2, hid2, hmk, hleft⟩ : ∃ id2, stepO P O idx fr.get h o.op = stepO P O id2 fr.get h o.op ∧ (Op.makes P o.op = true → Pend P (o :: l) idx id2 ∧ h[id2]? = some .dead) ∧
          (∀ i, Pend P l (nextIdx P o idx) i → Pend P (o :: l) idx i ∧ i ≠ id2) := by
        cases hm : Op.makes P o.op with
        | true =>
          have hpos : 0 < nMakes P (o :: l) := by rw [hnm, if_pos hm]; omega
          have hP : Pend P (o :: l) idx idx := ⟨Nat.le_refl _, by omega⟩
          refine ⟨idx, rfl, fun _ => ⟨hP, dead_of_free S.rel hP (by omega)⟩, fun i hi => ?_⟩
          have hn : nextIdx P o idx = idx + 1 := by simp [nextIdx, hm]
          obtain ⟨h1, h2⟩ := hi
          rw [hn] at h1
          exact ⟨⟨by omega, by omega⟩, by omega⟩
        | false =>
          have hn : nextIdx P o idx = idx := by simp [nextIdx, hm]
          refine ⟨idx + nMakes P l, stepO_idx hm, by simp, fun i hi => ?_⟩
          obtain ⟨h1, h2⟩ := hi
          rw [hn] at h1 h2
          exact ⟨⟨h1, by omega⟩, by omega⟩
      rw [hid2] at hr
      split at hr <;> try simp only [reduceCtorEq] at hr
      · rename_i k v h1 hst
        split at hr <;> simp only [Option.some.injEq, Prod.mk.injEq, Bool.and_eq_true, reduceCtorEq] at hr
        rename_i k' q hrest
        obtain ⟨⟨rfl, rfl⟩, rfl⟩ := hr
        have hle := stepO_len hst
        refine stepO_wp hO S.rel S.fr hmk hst _ Q ?_ (fun _ e => by cases e)
        intro v' e w' ρ' I' u hu hR hW
        cases e
        have L := hW.le S.rel
        have ih := runOps_sound hO Q hin l (pre ++ [o]) (nextIdx P o idx) (putO o.dst v fr) h1 ρ' I' w' (a.put o.dst u) x fr' h' (by simp [hops])
          ⟨by rw [put_size]; exact S.size, by rw [put_defers]; exact S.defers, by rw [get_putO]; exact (S.fr.le L).put hu (fun d hd => by rw [S.size]; exact hdst d hd), hR.weaken (fun i hi => by
            obtain ⟨g1, g2⟩ := hleft i hi
            refine ⟨g1, g2, ?_⟩
            have := g1.2
            omega)⟩
          (by omega) hrest (fun ρ₂ I₂ w₂ a₂ e1 s1 w1 => hq ρ₂ I₂ w₂ a₂ e1 s1 (hW.trans w1)) (fun v₂ ρ₂ I₂ w₂ a₂ v₃ e1 r1 s1 w1 => hp v₂ ρ₂ I₂ w₂ a₂ v₃ e1 r1 s1 (hW.trans w1))
        simpa using ih
      · rename_i k v h1 hst
        simp only [Option.some.injEq, Prod.mk.injEq] at hr
        obtain ⟨rfl, rfl, rfl, rfl⟩ := hr
        refine stepO_wp hO S.rel S.fr hmk hst _ Q (fun _ e => by cases e) ?_
        intro v' e w' ρ' I' u hu hR hW
        cases e
        exact hp v ρ' I' w' a u rfl hu ⟨S.size, S.defers, S.fr.le (hW.le S.rel), hR.weaken (fun _ h => h.elim)⟩ hW
end
end Go.Lh
end
section
namespace Go.Lh
theorem appU_length : ∀ (U : List (Nat × Blk)) (h : Heap), (appU h U).length = h.length
  | [], _ => rfl
  | p :: r, h => by simp [appU, appU_length r]
theorem appU_get_ne : ∀ (U : List (Nat × Blk)) (h : Heap) (i : Nat), (∀ p ∈ U, p.1 ≠ i) → (appU h U)[i]? = h[i]?
  | [], _, _, _ => rfl
  | p :: r, h, i, H => by
    simp only [appU]
    rw [appU_get_ne r _ i (fun q hq => H q (by simp [hq])), List.getElem?_set_ne (H p (by simp))]
theorem appU_append : ∀ (U : List (Nat × Blk)) (h N : Heap), (N = [] ∨ ∀ p ∈ U, p.1 < h.length) → appU (h ++ N) U = appU h U ++ N
  | [], _, _, _ => rfl
  | p :: r, h, N, H => by
    simp only [appU]
    rcases H with rfl | H
    · simp
    · rw [List.set_append_left _ _ (H p (by simp))]
      exact appU_append r _ N (.inr fun q hq => by simpa using H q (by simp [hq]))
theorem appU_set (U : List (Nat × Blk)) : ∀ (h : Heap) (i : Nat) (b : Blk), (∀ p ∈ U, p.1 ≠ i) → appU (h.set i b) U = (appU h U).set i b := by
  induction U with
  | nil => intro h i b _; rfl
  | cons p r ih =>
    intro h i b H
    simp only [appU]
    rw [List.set_comm _ _ (fun e => H p (by simp) e.symm)]
    exact ih _ i b (fun q hq => H q (by simp [hq]))
theorem appU_comm : ∀ (U V : List (Nat × Blk)) (h : Heap), (∀ p ∈ U, ∀ q ∈ V, p.1 ≠ q.1) → appU (appU h U) V = appU (appU h V) U
  | [], _, _, _ => rfl
  | p :: r, V, h, H => by
    simp only [appU]
    rw [appU_comm r V _ (fun a ha b hb => H a (by simp [ha]) b hb), appU_set V h p.1 p.2 (fun q hq => (H p (by simp) q hq).symm)]
theorem disj_iff {l m : List Nat} (h : disj l m = true) : ∀ i ∈ l, i ∉ m := by
  intro i hi hm
  have := List.all_eq_true.1 h i hi
  rw [(memN_iff i m).2 hm] at this
  cases this
structure Indep (s t : Tch) : Prop where
  w1 : ∀ i ∈ s.W, i ∉ t.R ∧ i ∉ t.W
  w2 : ∀ i ∈ t.W, i ∉ s.R ∧ i ∉ s.W
  c : ¬ (s.c = true ∧ t.c = true)
  l1 : s.c = true → ∀ i, i ∈ t.R ∨ i ∈ t.W → i < s.len
  l2 : t.c = true → ∀ i, i ∈ s.R ∨ i ∈ s.W → i < t.len
theorem indep_iff {s t : Tch} (h : s.indep t = true) : Indep s t := by
  simp only [Tch.indep, Bool.and_eq_true, Bool.or_eq_true, Bool.not_eq_true'] at h
  obtain ⟨⟨⟨⟨h1, h2⟩, h3⟩, h4⟩, h5⟩ := h
  refine ⟨fun i hi => ?_, fun i hi => ?_, ?_, fun hc i hi => ?_, fun hc i hi => ?_⟩
  · have := disj_iff h1 i hi; simpa using this
  · have := disj_iff h2 i hi; simpa using this
  · rintro ⟨a, b⟩; rw [a, b] at h3; cases h3
  · rcases h4 with h4 | h4
    · rw [hc] at h4; cases h4
    · have := List.all_eq_true.1 h4 i (by simpa using hi)
      simpa using this
  · rcases h5 with h5 | h5
    · rw [hc] at h5; cases h5
    · have := List.all_eq_true.1 h5 i (by simpa using hi)
      simpa using this
abbrev LSt := Fm × Heap
section
variable {P : Program} {O : Orc} {ops : Array Oper}
def mkIdx (P : Program) (ops : Array Oper) (base k : Nat) : Nat := base + nMakes P (ops.toList.take k)
def stC (P : Program) (O : Orc) (ops : Array Oper) (D : List Tch) (base k : Nat) (s : LSt) : Option LSt :=
  match ops[k]?, D[k]? with
  | some o, some t => (match wantV ops.toList s.1 o with
    | some true => (match touchO P O (mkIdx P ops base k) s.1 s.2 o.op, stepO P O (mkIdx P ops base k) s.1 s.2 o.op with
      | some (R, W, c), some (true, .ret v, h') => if R = t.R ∧ W = t.W ∧ c = t.c ∧ (c = true → s.2.length = t.len) then some (s.1.put o.dst v, h') else none
      | _, _ => none)
    | some false => if t.R = [] ∧ t.W = [] ∧ t.c = false then some (s.1.put o.dst (.tup []), s.2) else none
    | none => none)
  | _, _ => none
theorem wantV_congr {g g2 : Fm} {o : Oper} (h : ∀ t, t ∈ o.looksAt ops → g2 t = g t) : wantV ops.toList g2 o = wantV ops.toList g o := by
  unfold wantV
  cases hg : o.guard with
  | none => rfl
  | some q =>
    obtain ⟨j, want⟩ := q
    simp only
    cases hj : ops.toList[j]? with
    | none => rfl
    | some oj =>
      simp only
      cases hd : oj.dst with
      | none => rfl
      | some d =>
        simp only
        rw [Array.getElem?_toList] at hj
        rw [h d (by simp [Oper.looksAt, hg, hj, hd])]
theorem tmpsOf_looks {o : Oper} {t : Nat} (h : tmpsOf o.op t) : t ∈ o.looksAt ops := by
  unfold Oper.looksAt
  exact List.mem_append.2 (.inl (List.mem_filterMap.2 ⟨.tmp t, h, rfl⟩))
theorem stC_loc {D : List Tch} {base k : Nat} {g : Fm} {h : Heap} {s' : LSt} {o : Oper} {t : Tch} (ho : ops[k]? = some o) (ht : D[k]? = some t) (hs : stC P O ops D base k (g, h) = some s') :
    ∃ (v : V) (U : List (Nat × Blk)) (N : Heap), s' = (g.put o.dst v, appU h U ++ N) ∧ (∀ p ∈ U, p.1 ∈ t.W) ∧ (t.c = false → N = []) ∧ (t.c = true → h.length = t.len) ∧
      ∀ (g2 : Fm) (h2 : Heap), (∀ x, x ∈ o.looksAt ops → g2 x = g x) → SameAt t.R h h2 → (t.c = true → h2.length = h.length) → stC P O ops D base k (g2, h2) = some (g2.put o.dst v, appU h2 U ++ N) := by
  unfold stC at hs
  simp only [ho, ht] at hs
  split at hs
  · rename_i hw
    split at hs <;> try simp only [reduceCtorEq] at hs
    rename_i R W c v h' htch hst
    split at hs <;> simp only [Option.some.injEq, reduceCtorEq] at hs
    rename_i hcond
    obtain ⟨rfl, rfl, rfl, hlen⟩ := hcond
    subst hs
    obtain ⟨U, N, u1, u2, u3⟩ := stepO_loc hst htch
    refine ⟨v, U, N, ?_, u1, u2, hlen, fun g2 h2 hg hS hl => ?_⟩
    · have := (u3 h (fun _ _ => rfl) (fun _ => rfl)).1
      rw [hst] at this
      simp only [Option.some.injEq, Prod.mk.injEq, true_and] at this
      rw [this]
    · obtain ⟨a1, a2⟩ := u3 h2 hS hl
      obtain ⟨b1, b2⟩ := stepO_congr (P := P) (O := O) (idx := mkIdx P ops base k) (h := h2) (g := g) (g2 := g2) (op := o.op) (fun x hx => hg x (tmpsOf_looks hx))
      unfold stC
      simp only [ho, ht]
      rw [wantV_congr hg, hw]
      simp only
      rw [b1, b2, a1, a2]
      simp only
      rw [if_pos ⟨trivial, trivial, trivial, fun hc => (hl hc).trans (hlen hc)⟩]
  · rename_i hw
    split at hs <;> simp only [Option.some.injEq, reduceCtorEq] at hs
    rename_i hcond
    subst hs
    refine ⟨.tup [], [], [], by simp [appU], fun p hp => (by cases hp), fun _ => rfl, fun hc => (by rw [hcond.2.2] at hc; cases hc), fun g2 h2 hg hS hl => ?_⟩
    unfold stC
    simp only [ho, ht]
    rw [wantV_congr hg, hw]
    simp only
    rw [if_pos hcond]
    simp [appU]
  · cases hs
theorem put_comm {g : Fm} {d e : Option Tmp} {v u : V} (h : ∀ x, d = some x → e ≠ some x) : (g.put d v).put e u = (g.put e u).put d v := by
  cases d with
  | none => rfl
  | some d =>
    cases e with
    | none => rfl
    | some e =>
      have hne : d ≠ e := fun he => h d rfl (by rw [he])
      funext x
      simp only [Fm.put]
      by_cases h1 : x = e
      · subst h1; rw [if_pos rfl, if_neg (Ne.symm hne), if_pos rfl]
      · rw [if_neg h1]
        by_cases h2 : x = d
        · rw [if_pos h2, if_pos h2]
        · rw [if_neg h2, if_neg h2, if_neg h1]
theorem put_get {g : Fm} {d : Option Tmp} {v : V} {x : Nat} (h : ∀ y, d = some y → y ≠ x) : g.put d v x = g x := by
  cases d with
  | none => rfl
  | some d => simp only [Fm.put]; rw [if_neg (fun e => h d rfl e.symm)]
theorem diamond {D : List Tch} {base i j : Nat} {oi oj : Oper} {ti tj : Tch} (hi : ops[i]? = some oi) (hj : ops[j]? = some oj) (hti : D[i]? = some ti) (htj : D[j]? = some tj)
    (hap : oi.apart ops oj = true) (hin : Indep ti tj) (s s1 s1j : LSt) (h1 : stC P O ops D base i s = some s1) (h2 : stC P O ops D base j s1 = some s1j) :
    ∃ sj, stC P O ops D base j s = some sj ∧ stC P O ops D base i sj = some s1j := by
  obtain ⟨g, h⟩ := s
  obtain ⟨a1, a2, a3⟩ := Oper.apart_spec hap
  obtain ⟨vi, Ui, Ni, rfl, i1, i2, i3, i4⟩ := stC_loc hi hti h1
  obtain ⟨vj, Uj, Nj, rfl, j1, j2, j3, j4⟩ := stC_loc hj htj h2
  have hw12 : ∀ p ∈ Ui, ∀ q ∈ Uj, p.1 ≠ q.1 := fun p hp q hq e => (hin.w1 _ (i1 p hp)).2 (e ▸ j1 q hq)
  have hNi : ti.c = true → tj.c = false := fun hc => by cases h0 : tj.c with | false => rfl | true => exact (hin.c ⟨hc, h0⟩).elim
  have hNj : tj.c = true → ti.c = false := fun hc => by cases h0 : ti.c with | false => rfl | true => exact (hin.c ⟨h0, hc⟩).elim
  have sameJ : SameAt tj.R (appU h Ui ++ Ni) h := by
    intro x hx
    have hxU : ∀ p ∈ Ui, p.1 ≠ x := fun p hp e => (hin.w1 _ (i1 p hp)).1 (e ▸ hx)
    cases hc : ti.c with
    | false => rw [i2 hc, List.append_nil, appU_get_ne _ _ _ hxU]
    | true =>
      have hlt := hin.l1 hc x (.inl hx)
      rw [← i3 hc] at hlt
      rw [List.getElem?_append_left (by rw [appU_length]; exact hlt), appU_get_ne _ _ _ hxU]
  have ej := j4 g h (fun x hx => (put_get (fun y hy e => a1 y hy (e ▸ hx))).symm) sameJ (fun hc => by rw [i2 (hNj hc)]; simp [appU_length])
  refine ⟨_, ej, ?_⟩
  have sameI : SameAt ti.R h (appU h Uj ++ Nj) := by
    intro x hx
    have hxU : ∀ p ∈ Uj, p.1 ≠ x := fun p hp e => (hin.w2 _ (j1 p hp)).1 (e ▸ hx)
    cases hc : tj.c with
    | false => rw [j2 hc, List.append_nil, appU_get_ne _ _ _ hxU]
    | true =>
      have hlt := hin.l2 hc x (.inl hx)
      have hl := j3 hc
      rw [i2 (hNj hc), List.append_nil, appU_length] at hl
      rw [← hl] at hlt
      rw [List.getElem?_append_left (by rw [appU_length]; exact hlt), appU_get_ne _ _ _ hxU]
  have ei := i4 (g.put oj.dst vj) (appU h Uj ++ Nj) (fun x hx => put_get (fun y hy e => a3 y hy (e ▸ hx))) sameI (fun hc => by rw [j2 (hNi hc)]; simp [appU_length])
  rw [ei, put_comm (fun x hx e => a2 x hx e)]
  have heap : appU (appU h Uj ++ Nj) Ui ++ Ni = appU (appU h Ui ++ Ni) Uj ++ Nj := by
    cases hci : ti.c with
    | true =>
      rw [j2 (hNi hci), List.append_nil, List.append_nil]
      rw [appU_append Uj (appU h Ui) Ni (.inr fun p hp => by rw [appU_length, i3 hci]; exact hin.l1 hci _ (.inr (j1 p hp))), appU_comm Ui Uj h hw12]
    | false =>
      rw [i2 hci, List.append_nil, List.append_nil]
      cases hcj : tj.c with
      | false => rw [j2 hcj, List.append_nil, List.append_nil, appU_comm Ui Uj h hw12]
      | true =>
        have hl := j3 hcj
        rw [i2 hci, List.append_nil, appU_length] at hl
        rw [appU_append Ui (appU h Uj) Nj (.inr fun p hp => by rw [appU_length, hl]; exact hin.l2 hcj _ (.inr (i1 p hp))), appU_comm Ui Uj h hw12]
  rw [heap]
def LAny (ops : Array Oper) (st : Nat → LSt → Option LSt) (Q : LSt → Prop) : Nat → Array Bool → LSt → Prop
  | 0, listed, s => Region.ready .any ops listed = [] ∧ Q s
  | fuel + 1, listed, s => (Region.ready .any ops listed = [] → Q s) ∧
    ∀ i ∈ Region.ready .any ops listed, ∃ s', st i s = some s' ∧ LAny ops st Q fuel (listed.setIfInBounds i true) s'
theorem LAny_first {st : Nat → LSt → Option LSt} {Q : LSt → Prop} {i : Nat} {B : Nat → Prop} (hi : B i)
    (hB : ∀ j oj, B j → j ≠ i → ops[j]? = some oj → ∃ e ∈ oj.after, Region.binds .any e = true ∧ B e.on) :
    ∀ (fuel : Nat) (listed : Array Bool) (s s1 : LSt), (∀ j, B j → j < ops.size → listed.getD j true = false) → (∀ j, B j → j < ops.size) → listed.size = ops.size →
      (∀ j oj, ops[j]? = some oj → ¬ B j → listed.getD j true = false →
        ∀ s s1 s1j, st i s = some s1 → st j s1 = some s1j → ∃ sj, st j s = some sj ∧ st i sj = some s1j) →
      i ∈ Region.ready .any ops listed → st i s = some s1 → LAny ops st Q fuel (listed.setIfInBounds i true) s1 → LAny ops st Q (fuel + 1) listed s := by
  intro fuel
  induction fuel with
  | zero =>
    intro listed s s1 _ _ _ _ hr hst H
    refine ⟨fun h => (by rw [h] at hr; cases hr), fun j hj => ?_⟩
    by_cases hji : j = i
    · subst hji; exact ⟨s1, hst, H⟩
    · have := ready_mono hj hji
      rw [H.1] at this; cases this
  | succ fuel ih =>
    intro listed s s1 hun hlt hsz hfree hr hst H
    refine ⟨fun h => (by rw [h] at hr; cases hr), fun j hj => ?_⟩
    by_cases hji : j = i
    · subst hji; exact ⟨s1, hst, H⟩
    · obtain ⟨s1j, hs1j, Hj⟩ := H.2 j (ready_mono hj hji)
      obtain ⟨hjun, oj, hoj, hall⟩ := mem_ready.1 hj
      have hnB : ¬ B j := by
        intro hb
        obtain ⟨e, he, hbd, hbe⟩ := hB j oj hb hji hoj
        have h1 := hall e he hbd
        have h2 := hlt _ hbe
        have h0 := hun _ hbe h2
        have h3 : e.on < listed.size := by omega
        simp [h3] at h0 h1
        rw [h0] at h1; cases h1
      obtain ⟨sj, hsj, hisj⟩ := hfree j oj hoj hnB hjun s s1 s1j hst hs1j
      refine ⟨sj, hsj, ih (listed.setIfInBounds j true) sj s1j ?_ hlt (by simpa using hsz) ?_ (ready_mono hr (Ne.symm hji)) hisj ?_⟩
      · intro k hk hks
        have : j ≠ k := fun e => hnB (e ▸ hk)
        rw [getD_set_ne true this]; exact hun k hk hks
      · intro k ok hk hnk hun'
        refine hfree k ok hk hnk ?_
        by_cases hjk : j = k
        · subst hjk; exact hjun
        · rw [getD_set_ne true hjk] at hun'; exact hun'
      · rw [Array.setIfInBounds_comm _ _ hji]; exact Hj
theorem waitsAny_iff {o : Oper} {bl : List Nat} (h : waitsAny o bl = true) : ∃ e ∈ o.after, Region.binds .any e = true ∧ e.on ∈ bl := by
  simp only [waitsAny, List.any_eq_true, Bool.and_eq_true] at h
  obtain ⟨e, he, h1, h2⟩ := h
  exact ⟨e, Array.mem_toList_iff.1 he, h2, (memN_iff _ _).1 h1⟩
theorem oneOk_get {o : Oper} {t : Tch} : ∀ (r : List Oper) (l : List Tch) (m : Nat) (bl : List Nat), oneOk ops o t m bl r l = true →
    ∃ B : Nat → Prop, (∀ j ∈ bl, B j) ∧ (∀ j, B j → j ∈ bl ∨ (∃ (k : Nat) (p : Oper), j = m + k ∧ r[k]? = some p ∧ ∃ e ∈ p.after, Region.binds .any e = true ∧ B e.on)) ∧
      ∀ (k : Nat) (p : Oper), r[k]? = some p → ∃ s, l[k]? = some s ∧ (B (m + k) ∨ (o.apart ops p = true ∧ t.indep s = true))
  | [], [], m, bl, _ => ⟨fun j => j ∈ bl, fun _ h => h, fun _ h => .inl h, by simp⟩
  | [], _ :: _, _, _, h => by simp [oneOk] at h
  | _ :: _, [], _, _, h => by simp [oneOk] at h
  | p :: r, s :: l, m, bl, h => by
    simp only [oneOk] at h
    split at h
    · rename_i hw
      obtain ⟨B, b1, b2, b3⟩ := oneOk_get r l (m + 1) (m :: bl) h
      obtain ⟨e, he, hbd, hin⟩ := waitsAny_iff hw
      refine ⟨B, fun j hj => b1 j (by simp [hj]), fun j hj => ?_, fun k q hq => ?_⟩
      · rcases b2 j hj with hm | ⟨k, q, rfl, hq, hx⟩
        · rcases List.mem_cons.1 hm with rfl | hm
          · exact .inr ⟨0, p, rfl, rfl, e, he, hbd, b1 _ (by simp [hin])⟩
          · exact .inl hm
        · exact .inr ⟨k + 1, q, by omega, by simpa using hq, hx⟩
      · cases k with
        | zero => exact ⟨s, rfl, .inl (b1 _ (by simp))⟩
        | succ k =>
          obtain ⟨s', h1, h2⟩ := b3 k q (by simpa using hq)
          exact ⟨s', by simpa using h1, by rw [show m + (k + 1) = m + 1 + k by omega]; exact h2⟩
    · rw [Bool.and_eq_true, Bool.and_eq_true] at h
      obtain ⟨B, b1, b2, b3⟩ := oneOk_get r l (m + 1) bl h.2
      refine ⟨B, b1, fun j hj => ?_, fun k q hq => ?_⟩
      · rcases b2 j hj with hm | ⟨k, q, rfl, hq, hx⟩
        · exact .inl hm
        · exact .inr ⟨k + 1, q, by omega, by simpa using hq, hx⟩
      · cases k with
        | zero => simp at hq; subst hq; exact ⟨s, rfl, .inr h.1⟩
        | succ k =>
          obtain ⟨s', h1, h2⟩ := b3 k q (by simpa using hq)
          exact ⟨s', by simpa using h1, by rw [show m + (k + 1) = m + 1 + k by omega]; exact h2⟩
theorem nMakes_append (P : Program) : ∀ a b : List Oper, nMakes P (a ++ b) = nMakes P a + nMakes P b
  | [], b => by simp [nMakes]
  | o :: r, b => by simp only [List.cons_append, nMakes, nMakes_append P r b]; split <;> omega
theorem LAny_lex {base : Nat} {D : List Tch} {Q : LSt → Prop} {fr' : Fr} {h' : Heap} (hQ : Q (fr'.get, h')) :
    ∀ (l pre : List Oper) (Dp Dl : List Tch) (fr : Fr) (h : Heap) (listed : Array Bool), ops.toList = pre ++ l → D = Dp ++ Dl → Dp.length = pre.length →
      touches P O ops.toList l (base + nMakes P pre) fr h = some Dl → runOps P O ops.toList l (base + nMakes P pre) fr h = some (true, none, fr', h') →
      allOk ops pre.length l Dl = true → backEdges pre.length l = true → listed.size = ops.size → (∀ j, j < ops.size → listed.getD j true = decide (j < pre.length)) →
      LAny ops (stC P O ops D base) Q l.length listed (fr.get, h)
  | [], pre, Dp, Dl, fr, h, listed, hops, hD, hDl, ht, hr, ha, hb, hsz, hl => by
    simp only [runOps, Option.some.injEq, Prod.mk.injEq, true_and] at hr
    obtain ⟨rfl, rfl⟩ := hr
    refine ⟨?_, hQ⟩
    have hn : ops.size = pre.length := by have := congrArg List.length hops; simpa using this
    apply List.eq_nil_iff_forall_not_mem.2
    intro j hj
    obtain ⟨h1, o, ho, _⟩ := mem_ready.1 hj
    have hjl : j < ops.size := (Array.getElem?_eq_some_iff.1 ho).1
    rw [hl j hjl] at h1
    simp at h1; omega
  | o :: l, pre, Dp, Dl, fr, h, listed, hops, hD, hDl, ht, hr, ha, hb, hsz, hl => by
    have hget : ops[pre.length]? = some o := by rw [← Array.getElem?_toList, hops]; simp
    have hn : ops.size = pre.length + (l.length + 1) := by have := congrArg List.length hops; simpa using this
    have hmk : mkIdx P ops base pre.length = base + nMakes P pre := by simp [mkIdx, hops]
    have hnext : nextIdx P o (base + nMakes P pre) = base + nMakes P (pre ++ [o]) := by
      rw [nMakes_append]; simp only [nextIdx, nMakes]; split <;> omega
    -- the step itself
    obtain ⟨v, h1, Dt, D2, rfl, hstep, ht2, hr2⟩ : ∃ (v : V) (h1 : Heap) (Dt : Tch) (D2 : List Tch), Dl = Dt :: D2 ∧ (D[pre.length]? = some Dt → stC P O ops D base pre.length (fr.get, h) = some (Fm.put fr.get o.dst v, h1)) ∧
        touches P O ops.toList l (base + nMakes P (pre ++ [o])) (putO o.dst v fr) h1 = some D2 ∧ runOps P O ops.toList l (base + nMakes P (pre ++ [o])) (putO o.dst v fr) h1 = some (true, none, fr', h') := by
      simp only [touches, runOps, hnext] at ht hr
      cases hw : wantV ops.toList fr.get o with
      | none => simp [hw] at ht
      | some b =>
        simp only [hw] at ht hr
        cases b with
        | true =>
          simp only [if_true] at ht hr
          split at ht <;> try simp only [reduceCtorEq] at ht
          rename_i R W c k v h1 htc hst
          split at ht <;> simp only [Option.some.injEq, reduceCtorEq] at ht
          rename_i D2 hD2
          rw [hst] at hr
          simp only at hr
          split at hr <;> simp only [Option.some.injEq, Prod.mk.injEq, Bool.and_eq_true, reduceCtorEq] at hr
          rename_i k' q hrest
          obtain ⟨⟨rfl, rfl⟩, rfl⟩ := hr
          refine ⟨v, h1, _, D2, ht.symm, fun hDt => ?_, hD2, hrest⟩
          unfold stC
          simp only [hget, hDt, hw, hmk, htc, hst]
          rw [if_pos ⟨trivial, trivial, trivial, fun _ => trivial⟩]
        | false =>
          simp only [Bool.false_eq_true, if_false] at ht hr
          split at ht <;> simp only [Option.some.injEq, reduceCtorEq] at ht
          rename_i D2 hD2
          refine ⟨.tup [], h, _, D2, ht.symm, fun hDt => ?_, hD2, hr⟩
          unfold stC
          simp only [hget, hDt, hw]
          rw [if_pos ⟨trivial, trivial, trivial⟩]
    have hDget : D[pre.length]? = some Dt := by rw [hD, List.getElem?_append_right (by omega), hDl]; simp
    simp only [allOk, Bool.and_eq_true] at ha
    simp only [backEdges, Bool.and_eq_true, List.all_eq_true, Bool.or_eq_true, Bool.not_eq_true'] at hb
    obtain ⟨B, g1, g3, g2⟩ := oneOk_get _ _ _ _ ha.1
    have hready : pre.length ∈ Region.ready .any ops listed := by
      refine mem_ready.2 ⟨by rw [hl _ (by omega)]; simp, o, hget, fun e he hbd => ?_⟩
      rcases hb.1 e (Array.mem_toList_iff.2 he) with h0 | h0
      · rw [hbd] at h0; cases h0
      · have hlt : e.on < pre.length := by simpa using h0
        have := hl e.on (by omega)
        have hlt2 : e.on < listed.size := by omega
        simp only [Array.getD, hlt2, dif_pos] at this ⊢
        rw [this]; simpa using hlt
    have hS := hstep hDget
    have blt : ∀ j, B j → j < ops.size := by
      intro j hj
      rcases g3 j hj with hm | ⟨k, p, rfl, hp, _⟩
      · rw [List.mem_singleton] at hm; omega
      · have := (List.getElem?_eq_some_iff.1 hp).1; omega
    have bge : ∀ j, B j → pre.length ≤ j := by
      intro j hj
      rcases g3 j hj with hm | ⟨k, p, rfl, hp, _⟩
      · rw [List.mem_singleton] at hm; omega
      · omega
    refine LAny_first (B := B) (g1 _ (by simp)) ?_ l.length listed (fr.get, h) _ ?_ blt hsz ?_ hready hS ?_
    · intro j oj hj hne hoj
      rcases g3 j hj with hm | ⟨k, p, rfl, hp, hx⟩
      · rw [List.mem_singleton] at hm; exact (hne hm).elim
      · have : oj = p := by
          rw [← Array.getElem?_toList, hops, List.getElem?_append_right (by omega), show pre.length + 1 + k - pre.length = k + 1 by omega] at hoj
          simp only [List.getElem?_cons_succ] at hoj
          rw [hp] at hoj; cases hoj; rfl
        rw [this]; exact hx
    · intro j hj hjs
      rw [hl j hjs]; simp; exact bge j hj
    · intro j oj hoj hnB hun
      have hjl : j < ops.size := (Array.getElem?_eq_some_iff.1 hoj).1
      have hge : pre.length ≤ j := by
        rw [hl j hjl] at hun
        simpa using hun
      have hgt : pre.length < j := by
        rcases Nat.lt_or_ge pre.length j with h0 | h0
        · exact h0
        · have : j = pre.length := by omega
          exact (hnB (this ▸ g1 _ (by simp))).elim
      obtain ⟨m, rfl⟩ : ∃ m, j = pre.length + 1 + m := ⟨j - (pre.length + 1), by omega⟩
      have hlm : l[m]? = some oj := by
        rw [← Array.getElem?_toList, hops, List.getElem?_append_right (by omega)] at hoj
        rw [show pre.length + 1 + m - pre.length = m + 1 from by omega] at hoj
        simpa using hoj
      obtain ⟨s, hs, hor⟩ := g2 m oj hlm
      have hDj : D[pre.length + 1 + m]? = some s := by
        rw [hD, List.getElem?_append_right (by omega), hDl, show pre.length + 1 + m - pre.length = m + 1 from by omega]
        simpa using hs
      rcases hor with hw | ⟨hap, hin⟩
      · exact (hnB hw).elim
      · exact fun s s1 s1j q1 q2 => diamond hget hoj hDget hDj hap (indep_iff hin) s s1 s1j q1 q2
    · rw [← get_putO]
      refine LAny_lex hQ l (pre ++ [o]) (Dp ++ [Dt]) D2 (putO o.dst v fr) h1 _ (by simp [hops]) (by simp [hD]) (by simp [hDl]) ht2 hr2 ?_ ?_ (by simpa using hsz) ?_
      · simpa using ha.2
      · simpa using hb.2
      · intro j hj
        by_cases hjk : j = pre.length
        · subst hjk
          have : pre.length < listed.size := by omega
          simp [Array.getD, this]
        · rw [getD_set_ne true (Ne.symm hjk), hl j hj]
          simp; omega
end
end Go.Lh
end
section
namespace Go.Lh
theorem Rel.world {ρ : Ren} {I : Nat → Prop} {w w' : World} {h : Heap} {F : Nat → Prop} (R : Rel ρ I w h F) (e : w'.heap = w.heap) : Rel ρ I w' h F where
  blk i b hb hd := by
    obtain ⟨l, h1, ⟨⟨C, el, fz, m1, m2, m3, m4⟩, h3, h5⟩, h4⟩ := R.blk i b hb hd
    refine ⟨l, h1, ⟨⟨C, el, fz, by rw [e]; exact m1, m2, m3, fun o ho => ?_⟩, h3, fun e' n' ex => ⟨(h5 e' n' ex).1, by rw [e]; exact (h5 e' n' ex).2⟩⟩, h4⟩
    obtain ⟨c, c1, c2⟩ := m4 o ho
    exact ⟨c, c1, c2.mono (fun _ h => h) (fun _ _ => by rw [e]) _ (fun _ _ h => h)⟩
  free := R.free
  out := R.out
  apart := R.apart
  lt b hb := by rw [e]; exact R.lt b hb
theorem FRel.world {ρ : Ren} {I : Nat → Prop} {w w' : World} {g : Fm} {a : Act} (F : FRel I w ρ g a) (e : w'.heap = w.heap) : FRel I w' ρ g a :=
  fun t v h => (F t v h).mono (fun _ h => h) (fun _ _ => by rw [e]) _ (fun _ _ h => h)
theorem Went.world {ρ : Ren} {I : Nat → Prop} {w w' : World} {h : Heap} (e : w'.heap = w.heap) (e1 : w'.os = w.os) (e2 : w'.tape = w.tape) (e3 : w'.output = w.output) : Went ρ I w h ρ I w' h :=
  ⟨fun _ _ h => h, fun _ h => h, e1, e2, e3, by rw [e]; exact Nat.le_refl _, fun _ _ _ => by rw [e], fun _ h => .inl h, fun _ h => .inl h⟩
theorem pad_get {h : Heap} {n i : Nat} {b : Blk} (hb : (h ++ List.replicate n Blk.dead)[i]? = some b) (hd : b ≠ .dead) : h[i]? = some b := by
  rcases Nat.lt_or_ge i h.length with hlt | hge
  · rwa [List.getElem?_append_left hlt] at hb
  · rw [List.getElem?_append_right hge] at hb
    have := List.mem_of_getElem? hb
    rw [List.mem_replicate] at this
    exact (hd this.2).elim
theorem Rel.pad {ρ : Ren} {I : Nat → Prop} {w : World} {h : Heap} {F : Nat → Prop} (R : Rel ρ I w h F) (n : Nat) : Rel ρ I w (h ++ List.replicate n .dead) (fun i => h.length ≤ i) where
  blk i b hb hd := R.blk i b (pad_get hb hd) hd
  free i hi := R.out i hi
  out i hi := R.out i (by simp at hi; omega)
  apart i j x y l l' hij hx hxd hy hyd := R.apart i j x y l l' hij (pad_get hx hxd) hxd (pad_get hy hyd) hyd
  lt := R.lt
theorem Went.pad (ρ : Ren) (I : Nat → Prop) (w : World) (h : Heap) (n : Nat) : Went ρ I w h ρ I w (h ++ List.replicate n .dead) :=
  ⟨fun _ _ h => h, fun _ h => h, rfl, rfl, rfl, Nat.le_refl _, fun _ _ _ => rfl, fun _ ⟨i, x, l, h1, h2, h3⟩ => .inl ⟨i, x, l, pad_get h1 h2, h2, h3⟩, fun _ h => .inl h⟩
section
variable {P : Program} {O : Orc} {N : Nat} {dfs : List Deferred}
def FreeOf (P : Program) (ops : Array Oper) (base : Nat) (listed : Array Bool) : Nat → Prop := fun i =>
  ∃ k o, ops[k]? = some o ∧ Op.makes P o.op = true ∧ listed.getD k true = false ∧ i = mkIdx P ops base k
theorem nMakes_take (P : Program) {l : List Oper} {k : Nat} {o : Oper} (h : l[k]? = some o) (hm : Op.makes P o.op = true) : nMakes P (l.take (k + 1)) = nMakes P (l.take k) + 1 := by
  rw [List.take_add_one, h, Option.toList_some, nMakes_append]
  simp [nMakes, hm]
theorem nMakes_take_le (P : Program) (l : List Oper) {i j : Nat} (h : i ≤ j) : nMakes P (l.take i) ≤ nMakes P (l.take j) := by
  obtain ⟨d, rfl⟩ := Nat.le.dest h
  rw [List.take_add, nMakes_append]
  omega
theorem nMakes_take_all (P : Program) (l : List Oper) (i : Nat) : nMakes P (l.take i) ≤ nMakes P l := by
  conv => rhs; rw [← List.take_append_drop i l, nMakes_append]
  omega
theorem mkIdx_lt {ops : Array Oper} {base i j : Nat} {o : Oper} (h : ops[i]? = some o) (hm : Op.makes P o.op = true) (hij : i < j) : mkIdx P ops base i < mkIdx P ops base j := by
  unfold mkIdx
  have h1 := nMakes_take P (l := ops.toList) (k := i) (by rw [Array.getElem?_toList]; exact h) hm
  have h2 := nMakes_take_le P ops.toList (i := i + 1) (j := j) hij
  omega
theorem mkIdx_top {ops : Array Oper} {base i : Nat} {o : Oper} (h : ops[i]? = some o) (hm : Op.makes P o.op = true) : mkIdx P ops base i < base + nMakes P ops.toList := by
  unfold mkIdx
  have h1 := nMakes_take P (l := ops.toList) (k := i) (by rw [Array.getElem?_toList]; exact h) hm
  have h2 := nMakes_take_all P ops.toList (i + 1)
  omega
theorem getD_false_set {l : Array Bool} {i k : Nat} (hk : k < l.size) (h : (l.setIfInBounds i true).getD k true = false) : k ≠ i ∧ l.getD k true = false := by
  by_cases e : i = k
  · subst e; simp [Array.getD, hk] at h
  · rw [getD_set_ne true e] at h; exact ⟨Ne.symm e, h⟩
theorem wpAny_of_LAny (hO : OrcSound P O) {ops : Array Oper} {D : List Tch} {base : Nat} (Q : Exit → Act → World → Prop) (Ql : LSt → Prop)
    (hin : ∀ d, d ∈ ops.toList.filterMap (·.dst) → d < N) :
    ∀ (fuel : Nat) (listed : Array Bool) (g : Fm) (h : Heap) (ρ : Ren) (I : Nat → Prop) (w : World) (a : Act), listed.size = ops.size →
      Sim N dfs ρ I w a g h (FreeOf P ops base listed) → base + nMakes P ops.toList ≤ h.length → LAny ops (stC P O ops D base) Ql fuel listed (g, h) →
      (∀ ρ' I' w' a' g' h', Ql (g', h') → Sim N dfs ρ' I' w' a' g' h' (fun _ => False) → Went ρ I w h ρ' I' w' h' → Q .normal a' w') →
      wpAny P .any ops Q fuel listed a w
  | 0, listed, g, h, ρ, I, w, a, _, S, _, H, hq =>
    ⟨H.1, hq ρ I w a g h H.2 ⟨S.size, S.defers, S.fr, S.rel.weaken (fun _ h => h.elim)⟩ (.refl _ _ _ _)⟩
  | fuel + 1, listed, g, h, ρ, I, w, a, hsz, S, hlen, H, hq => by
    refine ⟨fun e => hq ρ I w a g h (H.1 e) ⟨S.size, S.defers, S.fr, S.rel.weaken (fun _ h => h.elim)⟩ (.refl _ _ _ _), fun i hi => ?_⟩
    obtain ⟨⟨g1, h1⟩, hst, H'⟩ := H.2 i hi
    obtain ⟨hun, o, ho, _⟩ := mem_ready.1 hi
    have hilt : i < ops.size := (Array.getElem?_eq_some_iff.1 ho).1
    have hdst : ∀ d, o.dst = some d → d < N := fun d hd => hin d (List.mem_filterMap.2 ⟨o, Array.mem_toList_iff.2 (Array.mem_of_getElem? ho), hd⟩)
    have hFree : ∀ k, FreeOf P ops base (listed.setIfInBounds i true) k → FreeOf P ops base listed k ∧ (Op.makes P o.op = true → k ≠ mkIdx P ops base i) := by
      rintro k ⟨j, oj, hj, hmj, hlj, rfl⟩
      have hjs : j < listed.size := by rw [hsz]; exact (Array.getElem?_eq_some_iff.1 hj).1
      obtain ⟨hne, hlj'⟩ := getD_false_set hjs hlj
      refine ⟨⟨j, oj, hj, hmj, hlj', rfl⟩, fun hmi e => ?_⟩
      rcases Nat.lt_or_gt_of_ne hne with h0 | h0
      · have := mkIdx_lt (P := P) (base := base) hj hmj h0; omega
      · have := mkIdx_lt (P := P) (base := base) ho hmi h0; omega
    have hFlt : ∀ k, FreeOf P ops base listed k → k < base + nMakes P ops.toList := by
      rintro k ⟨j, oj, hj, hmj, hlj, rfl⟩
      exact mkIdx_top hj hmj
    unfold wpOp
    simp only [ho]
    unfold stC at hst
    simp only [ho] at hst
    split at hst <;> try simp only [reduceCtorEq] at hst
    rename_i o' t ho' ht
    simp only [Option.some.injEq] at ho'
    subst ho'
    split at hst <;> try simp only [reduceCtorEq] at hst
    · rename_i hw
      rw [want_sound (ops := ops) S.fr (by rw [S.size]; exact hin) hw]
      simp only [if_true]
      left
      split at hst <;> try simp only [reduceCtorEq] at hst
      rename_i R W c v h2 htch hstep
      split at hst <;> simp only [Option.some.injEq, Prod.mk.injEq, reduceCtorEq] at hst
      obtain ⟨rfl, rfl⟩ := hst
      have hle := stepO_len hstep
      obtain ⟨id2, hid2, hmk, hleft⟩ : ∃ id2, stepO P O (mkIdx P ops base i) g h o.op = stepO P O id2 g h o.op ∧ (Op.makes P o.op = true → FreeOf P ops base listed id2 ∧ h[id2]? = some .dead) ∧
          (∀ k, FreeOf P ops base (listed.setIfInBounds i true) k → FreeOf P ops base listed k ∧ k ≠ id2) := by
        cases hm : Op.makes P o.op with
        | true =>
          have hF : FreeOf P ops base listed (mkIdx P ops base i) := ⟨i, o, ho, hm, hun, rfl⟩
          exact ⟨_, rfl, fun _ => ⟨hF, dead_of_free S.rel hF (by have := hFlt _ hF; omega)⟩, fun k hk => ⟨(hFree k hk).1, (hFree k hk).2 hm⟩⟩
        | false =>
          exact ⟨h.length, stepO_idx hm, by simp, fun k hk => ⟨(hFree k hk).1, by have := hFlt _ (hFree k hk).1; omega⟩⟩
      rw [hid2] at hstep
      refine stepO_wp hO S.rel S.fr hmk hstep _ Q ?_ (fun _ e => by cases e)
      intro v' e w' ρ' I' u hu hR hW
      cases e
      have L := hW.le S.rel
      refine wpAny_of_LAny hO Q Ql hin fuel _ _ _ ρ' I' w' (a.put o.dst u) (by simpa using hsz)
        ⟨by rw [put_size]; exact S.size, by rw [put_defers]; exact S.defers, (S.fr.le L).put hu (fun d hd => by rw [S.size]; exact hdst d hd), hR.weaken (fun k hk => ?_)⟩
        (by omega) H' (fun ρ₂ I₂ w₂ a₂ g₂ h₂ e1 s1 w1 => hq ρ₂ I₂ w₂ a₂ g₂ h₂ e1 s1 (hW.trans w1))
      obtain ⟨q1, q2⟩ := hleft k hk
      refine ⟨q1, q2, ?_⟩
      have := hFlt k q1
      omega
    · rename_i hw
      rw [want_sound (ops := ops) S.fr (by rw [S.size]; exact hin) hw]
      simp only [Bool.false_eq_true, if_false]
      split at hst <;> simp only [Option.some.injEq, Prod.mk.injEq, reduceCtorEq] at hst
      obtain ⟨rfl, rfl⟩ := hst
      exact wpAny_of_LAny hO Q Ql hin fuel _ _ h ρ I w (a.put o.dst undef) (by simpa using hsz)
        ⟨by rw [put_size]; exact S.size, by rw [put_defers]; exact S.defers, S.fr.put (.tup _ _ _ (.nil _)) (fun d hd => by rw [S.size]; exact hdst d hd), S.rel.weaken (fun k hk => (hFree k hk).1)⟩
        hlen H' hq
theorem runRegion_sound (hO : OrcSound P O) {ops : Array Oper} {id : Nat} {draw : Bool} (hm : draw = true → P.follows .mixedOrders = true) (hin : ∀ d, d ∈ ops.toList.filterMap (·.dst) → d < N)
    {Q : Exit → Act → World → Prop} {ρ : Ren} {I : Nat → Prop} {w : World} {a : Act} {fr fr' : Fr} {h h' : Heap} {F : Nat → Prop} {x : Option V}
    (S : Sim N dfs ρ I w a fr.get h F) (hr : runRegion P O ops draw fr h = some (true, x, fr', h'))
    (hq : ∀ ρ' I' w' a', x = none → Sim N dfs ρ' I' w' a' fr'.get h' (fun _ => False) → Went ρ I w h ρ' I' w' h' → Q .normal a' w')
    (hp : ∀ v ρ' I' w' a' v', x = some v → VRel I' w' ρ' v v' → Sim N dfs ρ' I' w' a' fr'.get h' (fun _ => False) → Went ρ I w h ρ' I' w' h' → Q (.panic [{ v := v', recovered := false }]) a' w') :
    (Code.region id ops draw).wp P Q a w := by
  unfold runRegion at hr
  simp only at hr
  have hl0 : h.length + nMakes P ops.toList ≤ (h ++ List.replicate (nMakes P ops.toList) Blk.dead).length := by simp
  split at hr
  · rename_i hd
    subst hd
    split at hr <;> try simp only [reduceCtorEq] at hr
    rename_i hok
    split at hr <;> try simp only [reduceCtorEq] at hr
    rename_i k r hrun
    simp only [Option.some.injEq, Prod.mk.injEq] at hr
    obtain ⟨rfl, rfl, rfl⟩ := hr
    refine wp_region_any (hm rfl) ?_
    unfold drawOk at hok
    simp only [Bool.and_eq_true] at hok
    obtain ⟨⟨_, hb⟩, hok⟩ := hok
    split at hok <;> try simp only [Bool.false_eq_true] at hok
    rename_i D ht
    have hL := LAny_lex (P := P) (O := O) (ops := ops) (base := h.length) (D := D) (Q := fun s => s = (fr'.get, h')) rfl ops.toList [] [] D fr _ (Array.replicate ops.size false) rfl rfl rfl ht hrun hok hb (by simp)
      (fun j hj => by simp [Array.getD, hj])
    refine wpAny_of_LAny (N := N) (dfs := dfs) (P := P) (base := h.length) (D := D) hO Q (fun s => s = (fr'.get, h')) hin ops.size _ fr.get _ ρ I _ a (by simp) ⟨S.size, S.defers, S.fr.world rfl, ((S.rel.pad _).weaken ?_).world rfl⟩ hl0 ?_ ?_
    · rintro i ⟨k, o, _, _, _, rfl⟩
      unfold mkIdx; omega
    · simpa using hL
    · rintro ρ' I' w' a' g' h'' e s1 w1
      simp only [Prod.mk.injEq] at e
      obtain ⟨rfl, rfl⟩ := e
      exact hq ρ' I' w' a' rfl s1 ((Went.pad ρ I w h (nMakes P ops.toList)).trans (Went.trans (Went.world (w' := { w with drawn := w.drawn + 1 }) rfl rfl rfl rfl) w1))
  · rename_i hd
    have : draw = false := by simpa using hd
    subst this
    refine wp_region ?_
    have := runOps_sound (N := N) (dfs := dfs) hO Q hin ops.toList [] h.length fr _ ρ I w a x fr' h' rfl ⟨S.size, S.defers, S.fr, (S.rel.pad _).weaken (fun i hi => hi.1)⟩ hl0 hr
      (fun ρ' I' w' a' e s1 w1 => hq ρ' I' w' a' e s1 ((Went.pad ρ I w h _).trans w1)) (fun v ρ' I' w' a' v' e r1 s1 w1 => hp v ρ' I' w' a' v' e r1 s1 ((Went.pad ρ I w h _).trans w1))
    simpa [List.range_eq_range'] using this
end
end Go.Lh
end
section
namespace Go.Lh
inductive X where
  | normal
  | exit (id : Nat)
  | ret
  | pan (v : V)
def loopN : Nat → (Fr → Heap → Option (Bool × X × Fr × Heap)) → Fr → Heap → Option (Bool × X × Fr × Heap)
  | 0, _, _, _ => none
  | n + 1, f, fr, h => match f fr h with
    | some (k, .normal, fr', h') => (match loopN n f fr' h' with
      | some (k', r) => some (k && k', r)
      | none => none)
    | r => r
abbrev Loops := Nat → Fr → Heap → Option (Bool × X × Fr × Heap)
def noLoops : Loops := fun _ _ _ => none
def headId : Code → Option Nat
  | .region id _ _ => some id
  | .seq a b => (match headId a with | some i => some i | none => headId b)
  | .cond _ a b => (match headId a with | some i => some i | none => headId b)
  | .block _ c => headId c
  | .loop c => headId c
  | _ => none
def headNo (c : Code) : Nat := match headId c with | some i => i | none => 0
def loopsOf : Code → List Code
  | .seq a b => loopsOf a ++ loopsOf b
  | .cond _ a b => loopsOf a ++ loopsOf b
  | .block _ c => loopsOf c
  | .loop c => c :: loopsOf c
  | _ => []
def decOf : List (Nat × Bool) → Operand → Option Bool
  | [], _ => none
  | (i, b) :: r, .tmp t => if Nat.beq i t then some b else decOf r (.tmp t)
  | _, _ => none
def execD (P : Program) (O : Orc) (L : Loops) (dec : List (Nat × Bool)) (fuel : Nat) : Code → Fr → Heap → Option (Bool × X × Fr × Heap)
  | .skip, fr, h => some (true, .normal, fr, h)
  | .region _ ops draw, fr, h => (match runRegion P O ops draw fr h with
    | some (k, none, fr', h') => some (k, .normal, fr', h')
    | some (k, some v, fr', h') => some (k, .pan v, fr', h')
    | none => none)
  | .seq a b, fr, h => (match execD P O L dec fuel a fr h with
    | some (k, .normal, fr', h') => (match execD P O L dec fuel b fr' h' with
      | some (k', r) => some (k && k', r)
      | none => none)
    | r => r)
  | .cond c x y, fr, h => (match opnd fr.get c with
    | some (.bool t) => (match decOf dec c with
      | some b => (match (if b then execD P O L dec fuel x fr h else execD P O L dec fuel y fr h) with
        | some (k, r) => some ((if b then t else !t) && k, r)
        | none => none)
      | none => if t then execD P O L dec fuel x fr h else execD P O L dec fuel y fr h)
    | _ => none)
  | .block id c, fr, h => (match execD P O L dec fuel c fr h with
    | some (k, .exit id', r) => if Nat.beq id' id then some (k, .normal, r) else some (k, .exit id', r)
    | r => r)
  | .loop c, fr, h => (match L (headNo c) fr h with
    | some r => some r
    | none => loopN fuel (execD P O L dec fuel c) fr h)
  | .exit id, fr, h => some (true, .exit id, fr, h)
  | .label _, fr, h => some (true, .normal, fr, h)
  | .ret, fr, h => some (true, .ret, fr, h)
  | _, _, _ => none
def dstsIn (N : Nat) : Code → Bool
  | .region _ ops _ => ops.toList.all (dstIn N)
  | .seq a b => dstsIn N a && dstsIn N b
  | .cond _ a b => dstsIn N a && dstsIn N b
  | .block _ c => dstsIn N c
  | .loop c => dstsIn N c
  | _ => true
structure WentN (n0 : Nat) (ρ : Ren) (I : Nat → Prop) (w : World) (h : Heap) (ρ' : Ren) (I' : Nat → Prop) (w' : World) (h' : Heap) : Prop where
  ren : ∀ i l, i < n0 → ρ i = some l → ρ' i = some l
  imm : ∀ b, I b → I' b
  os : w'.os = w.os
  tape : w'.tape = w.tape
  output : w'.output = w.output
  size : w.heap.size ≤ w'.heap.size
  keep : ∀ b, b < w.heap.size → ¬ Own ρ h b → w'.heap[b]? = w.heap[b]?
  own : ∀ b, Own ρ' h' b → Own ρ h b ∨ w.heap.size ≤ b
  fresh : ∀ b, I' b → I b ∨ Own ρ h b ∨ w.heap.size ≤ b
theorem Went.toN {n0 : Nat} {ρ ρ' : Ren} {I I' : Nat → Prop} {w w' : World} {h h' : Heap} (a : Went ρ I w h ρ' I' w' h') : WentN n0 ρ I w h ρ' I' w' h' :=
  ⟨fun i l _ => a.ren i l, a.imm, a.os, a.tape, a.output, a.size, a.keep, a.own, a.fresh⟩
theorem WentN.trans {n0 : Nat} {ρ₁ ρ₂ ρ₃ : Ren} {I₁ I₂ I₃ : Nat → Prop} {w₁ w₂ w₃ : World} {h₁ h₂ h₃ : Heap} (a : WentN n0 ρ₁ I₁ w₁ h₁ ρ₂ I₂ w₂ h₂) (b : WentN n0 ρ₂ I₂ w₂ h₂ ρ₃ I₃ w₃ h₃) : WentN n0 ρ₁ I₁ w₁ h₁ ρ₃ I₃ w₃ h₃ where
  ren i l hi h := b.ren i l hi (a.ren i l hi h)
  imm x h := b.imm x (a.imm x h)
  os := b.os.trans a.os
  tape := b.tape.trans a.tape
  output := b.output.trans a.output
  size := Nat.le_trans a.size b.size
  keep x hx hn := by
    rw [b.keep x (Nat.lt_of_lt_of_le hx a.size) (fun ho => (a.own x ho).elim hn (fun h => by omega))]
    exact a.keep x hx hn
  own x hx := by
    rcases b.own x hx with h | h
    · exact a.own x h
    · exact .inr (Nat.le_trans a.size h)
  fresh x hx := by
    rcases b.fresh x hx with h | h | h
    · exact a.fresh x h
    · rcases a.own x h with h | h
      · exact .inr (.inl h)
      · exact .inr (.inr h)
    · exact .inr (.inr (Nat.le_trans a.size h))
def ERel (I : Nat → Prop) (w : World) (ρ : Ren) : X → Exit → Prop
  | .normal, e => e = .normal
  | .exit id, e => e = .exit id
  | .ret, e => e = .ret
  | .pan v, e => ∃ v', VRel I w ρ v v' ∧ e = .panic [{ v := v', recovered := false }]
theorem ERel.le {I I' : Nat → Prop} {w w' : World} {ρ ρ' : Ren} (L : Le ρ I w ρ' I' w') {x : X} {e : Exit} (h : ERel I w ρ x e) : ERel I' w' ρ' x e := by
  cases x with
  | pan v => obtain ⟨v', h1, h2⟩ := h; exact ⟨v', h1.le L, h2⟩
  | _ => exact h
def Runs (P : Program) (N n0 : Nat) (c : Code) (fr : Fr) (h : Heap) (R : X → Fr → Heap → Prop) : Prop :=
  ∀ (Q : Exit → Act → World → Prop) (dfs : List Deferred) (ρ : Ren) (I : Nat → Prop) (w : World) (a : Act), Sim N dfs ρ I w a fr.get h (fun _ => False) →
    (∀ x fr' h' ρ' I' w' a' e, R x fr' h' → ERel I' w' ρ' x e → Sim N dfs ρ' I' w' a' fr'.get h' (fun _ => False) → WentN n0 ρ I w h ρ' I' w' h' → Q e a' w') → c.wp P Q a w
def thenX (K : Fr → Heap → Prop) (R : X → Fr → Heap → Prop) : X → Fr → Heap → Prop
  | .normal, fr, h => K fr h
  | x, fr, h => R x fr h
def inBlockX (id : Nat) (R : X → Fr → Heap → Prop) : X → Fr → Heap → Prop
  | .exit id', fr, h => if id' = id then R .normal fr h else R (.exit id') fr h
  | x, fr, h => R x fr h
section
variable {P : Program} {O : Orc} {N n0 : Nat} {fr : Fr} {h : Heap} {R R' : X → Fr → Heap → Prop}
theorem Runs.mono {c : Code} (H : Runs P N n0 c fr h R) (hR : ∀ x fr h, R x fr h → R' x fr h) : Runs P N n0 c fr h R' :=
  fun Q dfs ρ I w a S K => H Q dfs ρ I w a S fun x fr' h' ρ' I' w' a' e r => K x fr' h' ρ' I' w' a' e (hR _ _ _ r)
theorem WentN.refl {n0 : Nat} {ρ : Ren} {I : Nat → Prop} {w : World} {h : Heap} : WentN n0 ρ I w h ρ I w h := (Went.refl ρ I w h).toN
theorem Runs.skip (H : R .normal fr h) : Runs P N n0 .skip fr h R :=
  fun Q dfs ρ I w a S K => wp_skip (K _ _ _ _ _ _ _ _ H rfl S .refl)
theorem Runs.label {l : Nat} (H : R .normal fr h) : Runs P N n0 (.label l) fr h R :=
  fun Q dfs ρ I w a S K => wp_label (K _ _ _ _ _ _ _ _ H rfl S .refl)
theorem Runs.exit {id : Nat} (H : R (.exit id) fr h) : Runs P N n0 (.exit id) fr h R :=
  fun Q dfs ρ I w a S K => wp_exit (K _ _ _ _ _ _ _ _ H rfl S .refl)
theorem Runs.ret (H : R .ret fr h) : Runs P N n0 .ret fr h R :=
  fun Q dfs ρ I w a S K => wp_ret (K _ _ _ _ _ _ _ _ H rfl S .refl)
theorem Runs.seq {c d : Code} (H : Runs P N n0 c fr h (thenX (fun fr h => Runs P N n0 d fr h R) R)) : Runs P N n0 (.seq c d) fr h R := by
  intro Q dfs ρ I w a S K
  refine wp_seq (H _ dfs ρ I w a S ?_)
  intro x fr' h' ρ' I' w' a' e r er S' W
  cases x with
  | normal =>
    cases er
    exact r Q dfs ρ' I' w' a' S' fun x₂ fr₂ h₂ ρ₂ I₂ w₂ a₂ e₂ r₂ er₂ s₂ W₂ => K x₂ fr₂ h₂ ρ₂ I₂ w₂ a₂ e₂ r₂ er₂ s₂ (W.trans W₂)
  | exit id => cases er; exact K _ _ _ _ _ _ _ _ r rfl S' W
  | ret => cases er; exact K _ _ _ _ _ _ _ _ r rfl S' W
  | pan v => obtain ⟨v', hv, rfl⟩ := er; exact K _ _ _ _ _ _ _ _ r ⟨v', hv, rfl⟩ S' W
theorem Runs.cond {o : Operand} {x y : Code} {t : Bool} (ho : opnd fr.get o = some (.bool t)) (H : Runs P N n0 (if t then x else y) fr h R) : Runs P N n0 (.cond o x y) fr h R := by
  intro Q dfs ρ I w a S K
  have r := opnd_sound S.fr ho
  cases hv : a.eval o <;> rw [hv] at r <;> cases r
  exact wp_cond hv (H Q dfs ρ I w a S K)
theorem Runs.block {id : Nat} {c : Code} (H : Runs P N n0 c fr h (inBlockX id R)) : Runs P N n0 (.block id c) fr h R := by
  intro Q dfs ρ I w a S K
  refine wp_block (H _ dfs ρ I w a S ?_)
  intro x fr' h' ρ' I' w' a' e r er S' W
  cases x with
  | normal => cases er; exact K _ _ _ _ _ _ _ _ r rfl S' W
  | exit id' =>
    cases er
    simp only [inBlockX] at r
    simp only [Exit.inBlock]
    split
    · rename_i he; rw [if_pos he] at r; exact K _ _ _ _ _ _ _ _ r rfl S' W
    · rename_i he; rw [if_neg he] at r; exact K _ _ _ _ _ _ _ _ r rfl S' W
  | ret => cases er; exact K _ _ _ _ _ _ _ _ r rfl S' W
  | pan v => obtain ⟨v', hv, rfl⟩ := er; exact K _ _ _ _ _ _ _ _ r ⟨v', hv, rfl⟩ S' W
def Weaker (N n0 : Nat) (fr : Fr) (h : Heap) (fr' : Fr) (h' : Heap) : Prop :=
  ∀ (dfs : List Deferred) (ρ : Ren) (I : Nat → Prop) (w : World) (a : Act), Sim N dfs ρ I w a fr.get h (fun _ => False) → ∃ ρ', Sim N dfs ρ' I w a fr'.get h' (fun _ => False) ∧ WentN n0 ρ I w h ρ' I w h'
theorem Weaker.refl : Weaker N n0 fr h fr h := fun _ ρ _ _ _ S => ⟨ρ, S, .refl⟩
theorem Weaker.trans {f₁ f₂ f₃ : Fr} {h₁ h₂ h₃ : Heap} (a : Weaker N n0 f₁ h₁ f₂ h₂) (b : Weaker N n0 f₂ h₂ f₃ h₃) : Weaker N n0 f₁ h₁ f₃ h₃ := fun dfs ρ I w x S => by
  obtain ⟨ρ', s1, w1⟩ := a dfs ρ I w x S
  obtain ⟨ρ₂, s2, w2⟩ := b dfs ρ' I w x s1
  exact ⟨ρ₂, s2, w1.trans w2⟩
theorem Runs.weaken {c : Code} {fr' : Fr} {h' : Heap} (Wk : Weaker N n0 fr h fr' h') (H : Runs P N n0 c fr' h' R) : Runs P N n0 c fr h R := by
  intro Q dfs ρ I w a S K
  obtain ⟨ρ', s1, w1⟩ := Wk dfs ρ I w a S
  exact H Q dfs ρ' I w a s1 fun x fr₂ h₂ ρ₂ I₂ w₂ a₂ e₂ r₂ er₂ s₂ W₂ => K x fr₂ h₂ ρ₂ I₂ w₂ a₂ e₂ r₂ er₂ s₂ (w1.trans W₂)
theorem least_of {p : Nat → Prop} (n : Nat) (h : p n) : ∃ m, p m ∧ ∀ k, p k → m ≤ k := by
  induction n using Nat.strongRecOn with
  | _ n ih =>
    by_cases e : ∃ k, k < n ∧ p k
    · obtain ⟨k, h1, h2⟩ := e; exact ih k h1 h2
    · exact ⟨n, h, fun k hk => Nat.le_of_not_lt fun hlt => e ⟨k, hlt, hk⟩⟩
open Classical in
noncomputable def leastN (p : Nat → Prop) : Nat := if h : ∃ m, p m ∧ ∀ k, p k → m ≤ k then h.choose else 0
theorem leastN_spec {p : Nat → Prop} {n : Nat} (h : p n) : p (leastN p) ∧ ∀ k, p k → leastN p ≤ k := by
  have e := least_of n h
  unfold leastN
  rw [dif_pos e]
  exact e.choose_spec
theorem wp_loop_idx {c : Code} {Q : Exit → Act → World → Prop} {a : Act} {w : World} {n : Nat} (I : Nat → Act → World → Prop) (h₀ : I n a w)
    (round : ∀ n a w, I n a w → c.wp P (Exit.then (fun a' w' => ∃ m, m < n ∧ I m a' w') Q) a w) : (Code.loop c).wp P Q a w := by
  refine wp_loop (fun a w => ∃ n, I n a w) (fun a w => leastN fun n => I n a w) ⟨n, h₀⟩ ?_
  rintro a w ⟨n, hn⟩
  obtain ⟨h1, h2⟩ := leastN_spec (p := fun n => I n a w) hn
  refine wp_mono (round _ a w h1) ?_
  intro e a' w' h
  cases e with
  | normal =>
    obtain ⟨m, hm, hI⟩ := h
    exact ⟨⟨m, hI⟩, Nat.lt_of_le_of_lt ((leastN_spec (p := fun n => I n a' w') hI).2 m hI) hm⟩
  | _ => exact h
theorem Runs.loop {c : Code} (J : Nat → Fr → Heap → Prop) {n : Nat} (h0 : J n fr h)
    (round : ∀ n fr h, J n fr h → Runs P N n0 c fr h (thenX (fun fr' h' => ∃ m fr₂ h₂, m < n ∧ J m fr₂ h₂ ∧ Weaker N n0 fr' h' fr₂ h₂) R)) : Runs P N n0 (.loop c) fr h R := by
  intro Q dfs ρ₀ I₀ w₀ a₀ S₀ K
  refine wp_loop_idx (fun n a w => ∃ fr₁ h₁ ρ₁ I₁, J n fr₁ h₁ ∧ Sim N dfs ρ₁ I₁ w a fr₁.get h₁ (fun _ => False) ∧ WentN n0 ρ₀ I₀ w₀ h ρ₁ I₁ w h₁) ⟨fr, h, ρ₀, I₀, h0, S₀, .refl⟩ ?_
  rintro n a w ⟨fr₁, h₁, ρ₁, I₁, hJ, S₁, W₁⟩
  refine round n fr₁ h₁ hJ _ dfs ρ₁ I₁ w a S₁ ?_
  intro x fr' h' ρ' I' w' a' e r er S' W
  cases x with
  | normal =>
    cases er
    obtain ⟨m, fr₂, h₂, hm, hJ₂, Wk⟩ := r
    obtain ⟨ρ₂, S₂, W₂⟩ := Wk dfs ρ' I' w' a' S'
    exact ⟨m, hm, fr₂, h₂, ρ₂, I', hJ₂, S₂, (W₁.trans W).trans W₂⟩
  | exit id => cases er; exact K _ _ _ _ _ _ _ _ r rfl S' (W₁.trans W)
  | ret => cases er; exact K _ _ _ _ _ _ _ _ r rfl S' (W₁.trans W)
  | pan v => obtain ⟨v', hv, rfl⟩ := er; exact K _ _ _ _ _ _ _ _ r ⟨v', hv, rfl⟩ S' (W₁.trans W)
def EndW (N n0 : Nat) (x : X) (fr : Fr) (h : Heap) : X → Fr → Heap → Prop := fun y f k => y = x ∧ match x with
  | .pan _ => f = fr ∧ k = h
  | _ => Weaker N n0 f k fr h
theorem EndW.rfl {x : X} : EndW N n0 x fr h x fr h := by
  refine ⟨.refl _, ?_⟩
  cases x with
  | pan _ => exact ⟨.refl _, .refl _⟩
  | _ => exact .refl
def LoopOk (P : Program) (N n0 : Nat) (L : Loops) (c : Code) : Prop :=
  ∀ fr h x fr' h', L (headNo c) fr h = some (true, x, fr', h') → Runs P N n0 (.loop c) fr h (EndW N n0 x fr' h')
theorem execD_sound (hO : OrcSound P O) (hm : P.follows .mixedOrders = true) {L : Loops} {dec : List (Nat × Bool)} {fuel : Nat} : ∀ (c : Code) (_ : ∀ d, d ∈ loopsOf c → LoopOk P N n0 L d) (fr : Fr) (h : Heap) (x : X) (fr' : Fr) (h' : Heap), dstsIn N c = true →
    execD P O L dec fuel c fr h = some (true, x, fr', h') → Runs P N n0 c fr h (EndW N n0 x fr' h') := by
  intro c
  induction c with
  | skip => intro hL fr h x fr' h' _ hx; simp only [execD, Option.some.injEq, Prod.mk.injEq, true_and] at hx; obtain ⟨rfl, rfl, rfl⟩ := hx; exact .skip .rfl
  | label l => intro hL fr h x fr' h' _ hx; simp only [execD, Option.some.injEq, Prod.mk.injEq, true_and] at hx; obtain ⟨rfl, rfl, rfl⟩ := hx; exact .label .rfl
  | exit id => intro hL fr h x fr' h' _ hx; simp only [execD, Option.some.injEq, Prod.mk.injEq, true_and] at hx; obtain ⟨rfl, rfl, rfl⟩ := hx; exact .exit .rfl
  | ret => intro hL fr h x fr' h' _ hx; simp only [execD, Option.some.injEq, Prod.mk.injEq, true_and] at hx; obtain ⟨rfl, rfl, rfl⟩ := hx; exact .ret .rfl
  | goto _ => intro hL fr h x fr' h' _ hx; simp [execD] at hx
  | refuse _ => intro hL fr h x fr' h' _ hx; simp [execD] at hx
  | scope _ _ => intro hL fr h x fr' h' _ hx; simp [execD] at hx
  | rangeFunc => intro hL fr h x fr' h' _ hx; simp [execD] at hx
  | region id ops draw =>
    intro hL fr h x fr' h' hd hx Q dfs ρ I w a S K
    have hin : ∀ d, d ∈ ops.toList.filterMap (·.dst) → d < N := by
      intro d hd'
      obtain ⟨o, ho, hod⟩ := List.mem_filterMap.1 hd'
      exact dstIn_iff (List.all_eq_true.1 hd o ho) d hod
    simp only [execD] at hx
    split at hx <;> simp only [Option.some.injEq, Prod.mk.injEq, reduceCtorEq] at hx
    · rename_i k f1 h1 hr
      obtain ⟨rfl, rfl, rfl, rfl⟩ := hx
      exact runRegion_sound hO (fun _ => hm) hin S hr (fun ρ' I' w' a' _ s w1 => K .normal _ _ ρ' I' w' a' .normal .rfl rfl s w1.toN) (fun v ρ' I' w' a' v' e => by cases e)
    · rename_i k v f1 h1 hr
      obtain ⟨rfl, rfl, rfl, rfl⟩ := hx
      exact runRegion_sound hO (fun _ => hm) hin S hr (fun ρ' I' w' a' e => by cases e) (fun v ρ' I' w' a' v' e hv s w1 => by cases e; exact K (.pan _) _ _ ρ' I' w' a' _ .rfl ⟨v', hv, rfl⟩ s w1.toN)
  | seq a b iha ihb =>
    intro hL fr h x fr' h' hd hx
    simp only [dstsIn, Bool.and_eq_true] at hd
    simp only [execD] at hx
    refine .seq ?_
    split at hx
    · rename_i k f1 h1 ha
      split at hx <;> simp only [Option.some.injEq, Prod.mk.injEq, Bool.and_eq_true, reduceCtorEq] at hx
      rename_i k' r hb
      obtain ⟨⟨rfl, rfl⟩, rfl⟩ := hx
      refine (iha (fun d hd => hL d (by simp [loopsOf, hd])) _ _ _ _ _ hd.1 ha).mono ?_
      rintro x f k ⟨rfl, hw⟩
      exact (ihb (fun d hd => hL d (by simp [loopsOf, hd])) _ _ _ _ _ hd.2 hb).weaken hw
    · rename_i hne
      refine (iha (fun d hd => hL d (by simp [loopsOf, hd])) _ _ _ _ _ hd.1 hx).mono ?_
      rintro y f k ⟨rfl, hw⟩
      cases y with
      | normal => exact (hne _ _ _ hx).elim
      | exit _ => exact ⟨rfl, hw⟩
      | ret => exact ⟨rfl, hw⟩
      | pan _ => exact ⟨rfl, hw⟩
  | cond o a b iha ihb =>
    intro hL fr h x fr' h' hd hx
    simp only [dstsIn, Bool.and_eq_true] at hd
    simp only [execD] at hx
    split at hx <;> try simp only [reduceCtorEq] at hx
    rename_i t ho
    refine .cond ho ?_
    split at hx
    · rename_i b hb
      split at hx <;> simp only [Option.some.injEq, Prod.mk.injEq, Bool.and_eq_true, reduceCtorEq] at hx
      rename_i k r hr
      obtain ⟨⟨ht, rfl⟩, rfl⟩ := hx
      cases b with
      | true =>
        simp only [if_true] at ht hr; subst ht
        exact iha (fun d hd => hL d (by simp [loopsOf, hd])) _ _ _ _ _ hd.1 hr
      | false =>
        simp only [Bool.false_eq_true, if_false, Bool.not_eq_true'] at ht hr; subst ht
        exact ihb (fun d hd => hL d (by simp [loopsOf, hd])) _ _ _ _ _ hd.2 hr
    cases t with
    | true => exact iha (fun d hd => hL d (by simp [loopsOf, hd])) _ _ _ _ _ hd.1 hx
    | false => exact ihb (fun d hd => hL d (by simp [loopsOf, hd])) _ _ _ _ _ hd.2 hx
  | block id c ih =>
    intro hL fr h x fr' h' hd hx
    simp only [execD] at hx
    refine .block ?_
    split at hx
    · rename_i k id' r hc
      split at hx <;> simp only [Option.some.injEq, Prod.mk.injEq] at hx <;> obtain ⟨rfl, rfl, rfl⟩ := hx <;> refine (ih (fun d hd => hL d (by simp [loopsOf, hd])) _ _ _ _ _ hd hc).mono ?_ <;> rintro y f k ⟨rfl, hw⟩
      · rename_i he
        simp only [inBlockX]; rw [if_pos (Nat.eq_of_beq_eq_true he)]; exact ⟨.refl _, hw⟩
      · rename_i he
        simp only [inBlockX]; rw [if_neg (fun e => he (by rw [e]; exact Nat.beq_refl _))]; exact ⟨.refl _, hw⟩
    · rename_i hne
      refine (ih (fun d hd => hL d (by simp [loopsOf, hd])) _ _ _ _ _ hd hx).mono ?_
      rintro y f k ⟨rfl, hw⟩
      cases y with
      | exit _ => exact (hne _ _ _ hx).elim
      | normal => exact ⟨.refl _, hw⟩
      | ret => exact ⟨.refl _, hw⟩
      | pan _ => exact ⟨.refl _, hw⟩
  | loop c ih =>
    intro hL fr h x fr' h' hd hx
    simp only [execD] at hx
    split at hx
    · rename_i r hr
      simp only [Option.some.injEq] at hx
      subst hx
      exact hL c (by simp [loopsOf]) _ _ _ _ _ hr
    refine .loop (fun n f k => loopN n (execD P O L dec fuel c) f k = some (true, x, fr', h')) hx ?_
    intro n f k hn
    cases n with
    | zero => simp [loopN] at hn
    | succ n =>
      simp only [loopN] at hn
      split at hn
      · rename_i q f1 h1 hb
        split at hn <;> simp only [Option.some.injEq, Prod.mk.injEq, Bool.and_eq_true, reduceCtorEq] at hn
        rename_i k' r hrest
        obtain ⟨⟨rfl, rfl⟩, rfl⟩ := hn
        refine (ih (fun d hd => hL d (by simp [loopsOf, hd])) _ _ _ _ _ hd hb).mono ?_
        rintro y f k ⟨rfl, hw⟩
        exact ⟨n, _, _, Nat.lt_succ_self n, hrest, hw⟩
      · rename_i hne
        refine (ih (fun d hd => hL d (by simp [loopsOf, hd])) _ _ _ _ _ hd hn).mono ?_
        rintro y f k ⟨rfl, hw⟩
        cases y with
        | normal => exact (hne _ _ _ hn).elim
        | exit _ => exact ⟨.refl _, hw⟩
        | ret => exact ⟨.refl _, hw⟩
        | pan _ => exact ⟨.refl _, hw⟩
end
end Go.Lh
end
section
namespace Go.Lh
def upto : Nat → List Nat
  | 0 => []
  | n + 1 => upto n ++ [n]
def prefixOk (rd : List Nat) : Nat → Bool
  | 0 => true
  | n + 1 => (match rd[n]? with | some i => Nat.beq i n | none => false) && prefixOk rd n
theorem prefixOk_iff {rd : List Nat} : ∀ {n : Nat}, prefixOk rd n = true → ∀ k, k < n → rd[k]? = some k
  | 0, _, k, hk => by omega
  | n + 1, h, k, hk => by
    simp only [prefixOk, Bool.and_eq_true] at h
    by_cases e : k = n
    · subst e
      have := h.1
      split at this
      · rename_i i hi; rw [hi, Nat.eq_of_beq_eq_true this]
      · cases this
    · exact prefixOk_iff h.2 k (by omega)
def nodupN : List Nat → Bool
  | [] => true
  | i :: r => !memN i r && nodupN r
theorem nodupN_iff : ∀ {l : List Nat}, nodupN l = true → l.Nodup
  | [], _ => .nil
  | i :: r, h => by
    simp only [nodupN, Bool.and_eq_true, Bool.not_eq_true'] at h
    refine List.nodup_cons.2 ⟨fun hm => ?_, nodupN_iff h.2⟩
    rw [(memN_iff i r).2 hm] at h
    cases h.1
def subRen (rd : List Nat) (ρ : Ren) : Ren := fun k => match rd[k]? with | some i => ρ i | none => none
def subHeapD (h : Heap) (τ : Nat → Option Nat) : List Nat → Option Heap
  | [] => some []
  | i :: r => match h[i]?, subHeapD h τ r with
    | some b, some l => (match renB τ b with | some b' => some (b' :: l) | none => none)
    | _, _ => none
theorem subHeapD_get {h : Heap} {τ : Nat → Option Nat} : ∀ {rd : List Nat} {hs : Heap}, subHeapD h τ rd = some hs → hs.length = rd.length ∧
    ∀ (k i : Nat), rd[k]? = some i → ∃ b b', h[i]? = some b ∧ renB τ b = some b' ∧ hs[k]? = some b'
  | [], hs, e => by simp [subHeapD] at e; subst e; simp
  | i :: r, hs, e => by
    simp only [subHeapD] at e
    split at e <;> try simp only [reduceCtorEq] at e
    rename_i b l hb hl
    split at e <;> simp at e
    rename_i b' hb'
    subst e
    obtain ⟨h1, h2⟩ := subHeapD_get hl
    refine ⟨by simp [h1], fun k j hk => ?_⟩
    cases k with
    | zero => simp at hk; subst hk; exact ⟨b, b', hb, hb', rfl⟩
    | succ k => simpa using h2 k j (by simpa using hk)
section
variable {P : Program} {O : Orc} {N n0 : Nat} {fr : Fr} {h : Heap} {R R' : X → Fr → Heap → Prop} {I : Nat → Prop} {w : World} {ρ : Ren} {F : Nat → Prop}
theorem sub_rel {rd : List Nat} {hs2 : Heap} (hnd : rd.Nodup) (R : Rel ρ I w h F) (hsub : subHeapD h (posOf rd) rd = some hs2) :
    (∀ i k q, posOf rd i = some k → ρ i = some q → subRen rd ρ k = some q) ∧ Rel (subRen rd ρ) I w hs2 (fun i => hs2.length ≤ i) ∧ ∀ b, Own (subRen rd ρ) hs2 b → Own ρ h b := by
  obtain ⟨sl, sg⟩ := subHeapD_get hsub
  have hτ : ∀ i k q, posOf rd i = some k → ρ i = some q → subRen rd ρ k = some q := by
    intro i k q hk hq
    simp only [subRen, posOf_get hk, hq]
  have rdloc : ∀ (k i : Nat) (x : Blk), rd[k]? = some i → hs2[k]? = some x → x ≠ .dead → ∃ (b : Blk) (q : Loc), h[i]? = some b ∧ b ≠ .dead ∧ ρ i = some q ∧ BRel I w ρ q b ∧ ¬ I q.b := by
    intro k i x hk hx hxd
    obtain ⟨b, b', hb, hr, hb'⟩ := sg k i hk
    rw [hx] at hb'; cases hb'
    have hne : b ≠ .dead := fun e => hxd ((renB_at hr).2.1.2 e)
    obtain ⟨q, h1, h2, h3⟩ := R.blk i b hb hne
    exact ⟨b, q, hb, hne, h1, h2, h3⟩
  refine ⟨hτ, ?_, ?_⟩
  · have hout : ∀ i, hs2.length ≤ i → subRen rd ρ i = none := by
      intro i hi
      simp only [subRen]
      rw [List.getElem?_eq_none (by omega)]
    refine ⟨?_, hout, hout, ?_, R.lt⟩
    · intro k b hb hne
      have hk : k < rd.length := by rw [← sl]; exact (List.getElem?_eq_some_iff.1 hb).1
      have hki : rd[k]? = some rd[k] := List.getElem?_eq_getElem hk
      obtain ⟨c, c', hc, hcr, hck⟩ := sg k _ hki
      rw [hb] at hck; cases hck
      have hne : c ≠ .dead := fun e => hne ((renB_at hcr).2.1.2 e)
      obtain ⟨q, h1, h2, h3⟩ := R.blk _ c hc hne
      exact ⟨q, by simp only [subRen, hki, h1], renB_sound hτ hcr h2, h3⟩
    · intro i j x y li lj hij hx hxd hy hyd hli hlj
      have hi : i < rd.length := by rw [← sl]; exact (List.getElem?_eq_some_iff.1 hx).1
      have hj : j < rd.length := by rw [← sl]; exact (List.getElem?_eq_some_iff.1 hy).1
      have hki := List.getElem?_eq_getElem hi
      have hkj := List.getElem?_eq_getElem hj
      obtain ⟨b1, q1, a1, a2, a3, _⟩ := rdloc i _ _ hki hx hxd
      obtain ⟨b2, q2, c1, c2, c3, _⟩ := rdloc j _ _ hkj hy hyd
      simp only [subRen, hki] at hli
      simp only [subRen, hkj] at hlj
      exact R.apart _ _ b1 b2 li lj (fun (e : rd[i] = rd[j]) => hij (nodup_inj hnd hki (by rw [e]; exact hkj))) a1 a2 c1 c2 hli hlj
  · rintro b ⟨k, x, q, hx, hxd, hq, rfl⟩
    have hk : k < rd.length := by rw [← sl]; exact (List.getElem?_eq_some_iff.1 hx).1
    have hki := List.getElem?_eq_getElem hk
    obtain ⟨c, q2, a1, a2, a3, _⟩ := rdloc k _ _ hki hx hxd
    simp only [subRen, hki] at hq
    exact ⟨_, c, q, a1, a2, hq, rfl⟩
theorem sub_went {rd : List Nat} {hs2 : Heap} (hp : prefixOk rd n0 = true) (ho : ∀ b, Own (subRen rd ρ) hs2 b → Own ρ h b) : WentN n0 ρ I w h (subRen rd ρ) I w hs2 where
  ren i l hi hl := by simp only [subRen, prefixOk_iff hp i hi, hl]
  imm _ h := h
  os := rfl
  tape := rfl
  output := rfl
  size := Nat.le_refl _
  keep _ _ _ := rfl
  own b hb := .inl (ho b hb)
  fresh _ hb := .inl hb
def subFr (τ : Nat → Option Nat) (fr : Fr) : List Nat → Option Fr
  | [] => some []
  | t :: r => match fr.get t, subFr τ fr r with
    | some v, some l => (match renV τ v with | some u => some ((t, u) :: l) | none => none)
    | _, _ => none
theorem subFr_get {τ : Nat → Option Nat} {fr : Fr} : ∀ {ts : List Nat} {f2 : Fr}, subFr τ fr ts = some f2 → ∀ t u, f2.get t = some u → ∃ v, fr.get t = some v ∧ renV τ v = some u
  | [], f2, h, t, u, hu => by simp only [subFr, Option.some.injEq] at h; subst h; simp [Fr.get] at hu
  | x :: r, f2, h, t, u, hu => by
    simp only [subFr] at h
    split at h <;> try simp only [reduceCtorEq] at h
    rename_i v l hv hl
    split at h <;> simp only [Option.some.injEq, reduceCtorEq] at h
    rename_i y hy
    subst h
    simp only [Fr.get] at hu
    split at hu
    · rename_i e
      have := Nat.eq_of_beq_eq_true e
      subst this
      cases hu
      exact ⟨v, hv, hy⟩
    · exact subFr_get hl t u hu
def tell (n0 : Nat) (rd ts : List Nat) (fr : Fr) (h : Heap) : Option (Fr × Heap) :=
  if nodupN rd && prefixOk rd n0 then (match subFr (posOf rd) fr ts, subHeapD h (posOf rd) rd with
    | some f, some k => some (f, k)
    | _, _ => none) else none
theorem tell_weaker {rd ts : List Nat} {f2 : Fr} {h2 : Heap} (ht : tell n0 rd ts fr h = some (f2, h2)) : Weaker N n0 fr h f2 h2 := by
  unfold tell at ht
  split at ht <;> try simp only [reduceCtorEq] at ht
  rename_i hc
  rw [Bool.and_eq_true] at hc
  split at ht <;> simp only [Option.some.injEq, Prod.mk.injEq, reduceCtorEq] at ht
  rename_i f k hf hk
  obtain ⟨rfl, rfl⟩ := ht
  intro dfs ρ I w a S
  obtain ⟨h1, h2, h3⟩ := sub_rel (nodupN_iff hc.1) S.rel hk
  refine ⟨subRen rd ρ, ⟨S.size, S.defers, ?_, h2.weaken (fun _ h => h.elim)⟩, sub_went hc.2 h3⟩
  intro t u hu
  obtain ⟨v, hv, hr⟩ := subFr_get hf t u hu
  exact renV_sound h1 (S.fr t v hv) hr
def argsFr : Nat → List V → Fr
  | _, [] => []
  | i, v :: r => (i, v) :: argsFr (i + 1) r
theorem argsFr_get : ∀ (l : List V) (i t : Nat) (v : V), (argsFr i l).get t = some v → i ≤ t ∧ l[t - i]? = some v
  | [], i, t, v, h => by simp [argsFr, Fr.get] at h
  | x :: r, i, t, v, h => by
    simp only [argsFr, Fr.get] at h
    split at h
    · rename_i e
      have := Nat.eq_of_beq_eq_true e
      subst this
      cases h
      exact ⟨Nat.le_refl _, by simp⟩
    · obtain ⟨h1, h2⟩ := argsFr_get r (i + 1) t v h
      refine ⟨by omega, ?_⟩
      rw [show t - i = (t - (i + 1)) + 1 from by omega]
      simpa using h2
def resOne (P : Program) (g : Fm) (h : Heap) : ResultVar → Option (Bool × V)
  | .tmp t => (match g t with | some v => some (true, v) | none => none)
  | .cell a t => (match g a, isAggT P t, sizeT P t with
    | some (.ptr i o), some true, some n => (match h[i]? with
      | some b => if isDead b then none else some (decide (o + n ≤ b.len), .agg (b.atN o n))
      | none => none)
    | some (.ptr i o), some false, some _ => (match h[i]? with
      | some b => if isDead b then none else some (decide (o < b.len), b.at o)
      | none => none)
    | _, _, _ => none)
def resRun (P : Program) (w : World) (a : Act) (r : ResultVar) (v' : Value) : Prop :=
  match r with
  | .tmp t => a.tmps.getD t undef = v'
  | .cell x t => ∃ ad, (asAddr (a.tmps.getD x undef)).run P w = .ok ad w ∧ (loadVar t ad).run P w = .ok v' w
theorem resOne_sound {g : Fm} {a : Act} {r : ResultVar} {v : V} (R : Rel ρ I w h F) (FR : FRel I w ρ g a) (hs : resOne P g h r = some (true, v)) :
    ∃ v', resRun P w a r v' ∧ VRel I w ρ v v' := by
  cases r with
  | tmp t =>
    simp only [resOne] at hs
    split at hs <;> simp only [Option.some.injEq, Prod.mk.injEq, reduceCtorEq, true_and] at hs
    rename_i u hu
    subst hs
    exact ⟨_, rfl, FR t _ hu⟩
  | cell x t =>
    simp only [resOne] at hs
    split at hs <;> try simp only [reduceCtorEq] at hs
    · rename_i i q n hx hag hsz
      split at hs <;> try simp only [reduceCtorEq] at hs
      rename_i b hb
      split at hs <;> simp at hs
      rename_i hdead
      obtain ⟨h1, rfl⟩ := hs
      have r := FR x _ hx
      cases hv : a.tmps.getD x undef <;> rw [hv] at r <;> cases r
      rename_i l hl
      obtain ⟨C, e, fz, m1, m2, m3, m4, m5, m6⟩ := live_blk R hb (by simpa using hdead) hl
      have hat := atN_rel m4 n q h1
      rw [List.drop_drop] at hat
      refine ⟨.agg ⟨(C.toList.drop (l.d + q)).take n⟩, ?_, .agg _ _ _ hat⟩
      have hlen : ((C.toList.drop (l.d + q)).take n).length = n := by simp; omega
      have hrun := run_loadCells_list (P := P) (w := w) ⟨l.b, l.d + q, none⟩ ((C.toList.drop (l.d + q)).take n) (fun j c hj => by
        rw [add_eq, cell_at m1]
        rw [List.getElem?_take] at hj
        split at hj
        · rw [List.getElem?_drop, Array.getElem?_toList] at hj; exact hj
        · cases hj)
      rw [hlen] at hrun
      exact ⟨⟨l.b, l.d + q, none⟩, by rw [hv]; simp [asAddr], by simp [loadVar, run_isAggT hag, run_sizeT hsz, hrun]⟩
    · rename_i i q n hx hag hsz
      split at hs <;> try simp only [reduceCtorEq] at hs
      rename_i b hb
      split at hs <;> simp at hs
      rename_i hdead
      obtain ⟨h1, rfl⟩ := hs
      have r := FR x _ hx
      cases hv : a.tmps.getD x undef <;> rw [hv] at r <;> cases r
      rename_i l hl
      obtain ⟨C, e, fz, m1, m2, m3, m4, m5, m6⟩ := live_blk R hb (by simpa using hdead) hl
      obtain ⟨c, hc, hr⟩ := m4 q h1
      rw [List.getElem?_drop, Array.getElem?_toList] at hc
      refine ⟨c, ?_, hr⟩
      have : w.cell? ⟨l.b, l.d + q, none⟩ = some c := by rw [cell_at m1]; exact hc
      exact ⟨⟨l.b, l.d + q, none⟩, by rw [hv]; simp [asAddr], by simp [loadVar, run_isAggT hag, this]⟩
def resV (P : Program) (fn : Func) (g : Fm) (h : Heap) : Option (Bool × V) :=
  match fn.results.toList with
  | [] => some (true, .tup [])
  | [a] => resOne P g h a
  | [a, b] => (match resOne P g h a, resOne P g h b with | some (k, x), some (l, y) => some (k && l, .tup [x, y]) | _, _ => none)
  | [a, b, c] => (match resOne P g h a, resOne P g h b, resOne P g h c with | some (k, x), some (l, y), some (m, z) => some (k && l && m, .tup [x, y, z]) | _, _, _ => none)
  | _ => none
theorem resV_sound {fn : Func} {g : Fm} {a : Act} {v : V} (R : Rel ρ I w h F) (FR : FRel I w ρ g a) (hs : resV P fn g h = some (true, v)) : ∃ v', (results fn a.tmps).run P w = .ok v' w ∧ VRel I w ρ v v' := by
  unfold resV at hs
  split at hs
  · rename_i e
    cases hs
    have : fn.results = #[] := by apply Array.ext'; simpa using e
    exact ⟨_, results_none this _ _ _, .tup _ _ _ (.nil _)⟩
  · rename_i r e
    have : fn.results = #[r] := by apply Array.ext'; simpa using e
    obtain ⟨x, hx, hr⟩ := resOne_sound R FR hs
    refine ⟨x, ?_, hr⟩
    cases r with
    | tmp t => simp only [resRun] at hx; rw [Array.getD_eq_getD_getElem?] at hx; simp [results, this, hx]
    | cell x t => obtain ⟨ad, e1, e2⟩ := hx; rw [Array.getD_eq_getD_getElem?] at e1; simp [results, this, e1, e2]
  · rename_i r s e
    have : fn.results = #[r, s] := by apply Array.ext'; simpa using e
    split at hs <;> simp only [Option.some.injEq, Prod.mk.injEq, Bool.and_eq_true, reduceCtorEq] at hs
    rename_i k x l y h1 h2
    obtain ⟨⟨rfl, rfl⟩, rfl⟩ := hs
    obtain ⟨x', hx, hrx⟩ := resOne_sound R FR h1
    obtain ⟨y', hy, hry⟩ := resOne_sound R FR h2
    refine ⟨.tuple #[x', y'], ?_, .tup _ _ _ (.cons _ _ _ _ _ hrx (.cons _ _ _ _ _ hry (.nil _)))⟩
    cases r <;> cases s <;> simp only [resRun, Array.getD_eq_getD_getElem?] at hx hy <;> (try obtain ⟨ad, ha, hb⟩ := hx) <;> (try obtain ⟨ad2, ha2, hb2⟩ := hy) <;> simp [results, *]
  · rename_i r s t e
    have : fn.results = #[r, s, t] := by apply Array.ext'; simpa using e
    split at hs <;> simp only [Option.some.injEq, Prod.mk.injEq, Bool.and_eq_true, reduceCtorEq] at hs
    rename_i k x l y m z h1 h2 h3
    obtain ⟨⟨⟨rfl, rfl⟩, rfl⟩, rfl⟩ := hs
    obtain ⟨x', hx, hrx⟩ := resOne_sound R FR h1
    obtain ⟨y', hy, hry⟩ := resOne_sound R FR h2
    obtain ⟨z', hz, hrz⟩ := resOne_sound R FR h3
    refine ⟨.tuple #[x', y', z'], ?_, .tup _ _ _ (.cons _ _ _ _ _ hrx (.cons _ _ _ _ _ hry (.cons _ _ _ _ _ hrz (.nil _))))⟩
    cases r <;> cases s <;> cases t <;> simp only [resRun, Array.getD_eq_getD_getElem?] at hx hy hz <;> (try obtain ⟨ad, ha, hb⟩ := hx) <;> (try obtain ⟨ad2, ha2, hb2⟩ := hy) <;> (try obtain ⟨ad3, ha3, hb3⟩ := hz) <;> simp [results, *]
  · cases hs
def FinW (n0 : Nat) (fin : Fin) (h : Heap) (fin2 : Fin) (h2 : Heap) : Prop :=
  ∀ (ρ : Ren) (I : Nat → Prop) (w : World), Rel ρ I w h (fun _ => False) → ∃ ρ', Rel ρ' I w h2 (fun i => h2.length ≤ i) ∧ WentN n0 ρ I w h ρ' I w h2 ∧ ∀ e, FinRel I w ρ fin e → FinRel I w ρ' fin2 e
theorem renFin_sound {τ : Nat → Option Nat} {ρ₂ : Ren} (hτ : ∀ i k l, τ i = some k → ρ i = some l → ρ₂ k = some l) {fin fin2 : Fin} (h : renFin τ fin = some fin2) {e : Ending} (he : FinRel I w ρ fin e) : FinRel I w ρ₂ fin2 e := by
  cases fin <;> simp only [renFin] at h <;> split at h <;> simp only [Option.some.injEq, reduceCtorEq] at h <;> subst h
  all_goals
    rename_i hu
    obtain ⟨v', h1, h2⟩ := he
    exact ⟨v', h1, renV_sound hτ h2 hu⟩
def tellFin (n0 : Nat) (rd : List Nat) (fin : Fin) (h : Heap) : Option (Fin × Heap) :=
  if nodupN rd && prefixOk rd n0 then (match renFin (posOf rd) fin, subHeapD h (posOf rd) rd with
    | some f, some k => some (f, k)
    | _, _ => none) else none
theorem tellFin_sound {rd : List Nat} {fin fin2 : Fin} {h2 : Heap} (ht : tellFin n0 rd fin h = some (fin2, h2)) : FinW n0 fin h fin2 h2 := by
  unfold tellFin at ht
  split at ht <;> try simp only [reduceCtorEq] at ht
  rename_i hc
  rw [Bool.and_eq_true] at hc
  split at ht <;> simp only [Option.some.injEq, Prod.mk.injEq, reduceCtorEq] at ht
  rename_i f k hf hk
  obtain ⟨rfl, rfl⟩ := ht
  intro ρ I w R
  obtain ⟨h1, h2, h3⟩ := sub_rel (nodupN_iff hc.1) R hk
  exact ⟨subRen rd ρ, h2, sub_went hc.2 h3, fun e he => renFin_sound h1 hf he⟩
def refsUpto (h : Heap) : Nat → List Nat
  | 0 => []
  | n + 1 => refsUpto h n ++ (match h[n]? with | some b => refsB b | none => [])
def refsFin : Fin → List Nat
  | .ret v => refsV v
  | .pan v => refsV v
def compact (n0 : Nat) (fin : Fin) (h : Heap) : Option (Fin × Heap) :=
  tellFin n0 (reach h 300 (refsFin fin ++ refsUpto h n0) (upto n0)) fin h
def EndX (P : Program) (fn : Func) (n0 : Nat) (fin : Fin) (h' : Heap) : X → Fr → Heap → Prop
  | .normal, fr, h => ∃ fr₁ h₁ v, Weaker fn.ntmps n0 fr h fr₁ h₁ ∧ resV P fn fr₁.get h₁ = some (true, v) ∧ FinW n0 (.ret v) h₁ fin h'
  | .ret, fr, h => ∃ fr₁ h₁ v, Weaker fn.ntmps n0 fr h fr₁ h₁ ∧ resV P fn fr₁.get h₁ = some (true, v) ∧ FinW n0 (.ret v) h₁ fin h'
  | .pan v, _, h => FinW n0 (.pan v) h fin h'
  | .exit _, _, _ => False
theorem LFn.of_runs {f : FuncId} {fn : Func} {c : Code} {args : List V} {fin : Fin} {h' : Heap} (hf : P.funcs[f]? = some fn) (hb : fn.body = some c) (hn : args.length ≤ fn.ntmps)
    (H : Runs P fn.ntmps h.length c (argsFr 0 args) h (EndX P fn h.length fin h')) : LFn P f args h fin h' := by
  intro ρ I w args' R ha
  refine calls_of_wp hf hb ?_
  have hal : args'.length = args.length := ha.length.symm
  refine H _ [] ρ I w _ ⟨by simp; omega, rfl, ?_, R.weaken (fun _ h => h.elim)⟩ ?_
  · intro t v hv
    obtain ⟨_, h2⟩ := argsFr_get args 0 t v hv
    obtain ⟨v', h3, h4⟩ := ha.get _ _ h2
    have hlt : t < args'.length := (List.getElem?_eq_some_iff.1 h3).1
    have e : ((⟨args'⟩ : Array Value) ++ Array.replicate (fn.ntmps - (⟨args'⟩ : Array Value).size) undef).getD t undef = v' := by
      rw [Array.getD_eq_getD_getElem?, Array.getElem?_append_left (by simpa using hlt)]
      simp only [Nat.sub_zero] at h3
      simp [h3]
    rw [e]; exact h4
  · intro x fr' h₁ ρ₁ I₁ w₁ a₁ e r er S₁ W₁
    have fin_of : ∀ (h₁ : Heap) (ρ₁ : Ren) (f0 : Fin) (e0 : Ending), Rel ρ₁ I₁ w₁ h₁ (fun _ => False) → WentN h.length ρ I w h ρ₁ I₁ w₁ h₁ → FinW h.length f0 h₁ fin h' → FinRel I₁ w₁ ρ₁ f0 e0 → ∃ ρ' I', Rel ρ' I' w₁ h' (fun i => h'.length ≤ i) ∧ Went ρ I w h ρ' I' w₁ h' ∧ FinRel I' w₁ ρ' fin e0 := by
      intro h₁ ρ₁ f0 e0 R₁ W₁ hW hF
      obtain ⟨ρ₂, r2, w2, f2⟩ := hW ρ₁ I₁ w₁ R₁
      have W := W₁.trans w2
      refine ⟨ρ₂, I₁, r2, ⟨fun i l hl => W.ren i l ?_ hl, W.imm, W.os, W.tape, W.output, W.size, W.keep, W.own, W.fresh⟩, f2 _ hF⟩
      rcases Nat.lt_or_ge i h.length with h0 | h0
      · exact h0
      · rw [R.out i h0] at hl; cases hl
    cases x with
    | normal =>
      cases er
      obtain ⟨fr₂, h₂, v, hWk, hv, hW⟩ := r
      obtain ⟨ρ₂, S₂, W₂⟩ := hWk [] ρ₁ I₁ w₁ a₁ S₁
      obtain ⟨v', h1, h2⟩ := resV_sound (P := P) S₂.rel S₂.fr hv
      exact ⟨S₁.defers, v', h1, fin_of _ ρ₂ _ _ S₂.rel (W₁.trans W₂) hW ⟨v', rfl, h2⟩⟩
    | ret =>
      cases er
      obtain ⟨fr₂, h₂, v, hWk, hv, hW⟩ := r
      obtain ⟨ρ₂, S₂, W₂⟩ := hWk [] ρ₁ I₁ w₁ a₁ S₁
      obtain ⟨v', h1, h2⟩ := resV_sound (P := P) S₂.rel S₂.fr hv
      exact ⟨S₁.defers, v', h1, fin_of _ ρ₂ _ _ S₂.rel (W₁.trans W₂) hW ⟨v', rfl, h2⟩⟩
    | pan v =>
      obtain ⟨v', hv, rfl⟩ := er
      exact ⟨S₁.defers, fin_of _ ρ₁ _ _ S₁.rel W₁ r ⟨v', rfl, hv⟩⟩
    | exit id => exact r.elim
def execFD (P : Program) (O : Orc) (L : Loops) (dec : List (Nat × Bool)) (fuel : Nat) (fn : Func) (args : List V) (h : Heap) : Option (Bool × Fin × Heap) :=
  match fn.body with
  | some c => if dstsIn fn.ntmps c && Nat.ble args.length fn.ntmps then (match execD P O L dec fuel c (argsFr 0 args) h with
      | some (k, .normal, fr', h') => (match resV P fn fr'.get h' with
        | some (q, v) => (match compact h.length (.ret v) h' with | some (f, h2) => some (k && q, f, h2) | none => none)
        | none => none)
      | some (k, .ret, fr', h') => (match resV P fn fr'.get h' with
        | some (q, v) => (match compact h.length (.ret v) h' with | some (f, h2) => some (k && q, f, h2) | none => none)
        | none => none)
      | some (k, .pan v, _, h') => (match compact h.length (.pan v) h' with | some (f, h2) => some (k, f, h2) | none => none)
      | _ => none) else none
  | none => none
theorem execFD_sound (hO : OrcSound P O) (hm : P.follows .mixedOrders = true) {L : Loops} {dec : List (Nat × Bool)} {fuel : Nat} {f : FuncId} {fn : Func} {args : List V} {fin : Fin} {h' : Heap} (hf : P.funcs[f]? = some fn) (hL : ∀ c, fn.body = some c → ∀ d, d ∈ loopsOf c → LoopOk P fn.ntmps h.length L d)
    (hx : execFD P O L dec fuel fn args h = some (true, fin, h')) : LFn P f args h fin h' := by
  unfold execFD at hx
  split at hx <;> try simp only [reduceCtorEq] at hx
  rename_i c hb
  split at hx <;> try simp only [reduceCtorEq] at hx
  rename_i hc
  rw [Bool.and_eq_true] at hc
  have hn : args.length ≤ fn.ntmps := Nat.le_of_ble_eq_true hc.2
  split at hx <;> try simp only [reduceCtorEq] at hx
  · rename_i k fr' h1 he
    split at hx <;> try simp only [reduceCtorEq] at hx
    rename_i q v hv
    split at hx <;> simp only [Option.some.injEq, Prod.mk.injEq, Bool.and_eq_true, reduceCtorEq] at hx
    rename_i f2 h2 hcm
    obtain ⟨⟨rfl, rfl⟩, rfl, rfl⟩ := hx
    refine LFn.of_runs hf hb hn ((execD_sound hO hm c (hL c hb) _ _ _ _ _ hc.1 he).mono ?_)
    rintro x f k ⟨rfl, hw⟩
    exact ⟨_, _, v, hw, hv, tellFin_sound hcm⟩
  · rename_i k fr' h1 he
    split at hx <;> try simp only [reduceCtorEq] at hx
    rename_i q v hv
    split at hx <;> simp only [Option.some.injEq, Prod.mk.injEq, Bool.and_eq_true, reduceCtorEq] at hx
    rename_i f2 h2 hcm
    obtain ⟨⟨rfl, rfl⟩, rfl, rfl⟩ := hx
    refine LFn.of_runs hf hb hn ((execD_sound hO hm c (hL c hb) _ _ _ _ _ hc.1 he).mono ?_)
    rintro x f k ⟨rfl, hw⟩
    exact ⟨_, _, v, hw, hv, tellFin_sound hcm⟩
  · rename_i k v fr' h1 he
    split at hx <;> simp only [Option.some.injEq, Prod.mk.injEq, reduceCtorEq] at hx
    rename_i f2 h2 hcm
    obtain ⟨rfl, rfl, rfl⟩ := hx
    refine LFn.of_runs hf hb hn ((execD_sound hO hm c (hL c hb) _ _ _ _ _ hc.1 he).mono ?_)
    rintro x f k ⟨rfl, rfl, rfl⟩
    exact tellFin_sound hcm
def execF (P : Program) (O : Orc) (L : Loops) (fuel : Nat) (fn : Func) (args : List V) (h : Heap) : Option (Bool × Fin × Heap) := execFD P O L [] fuel fn args h
end
end Go.Lh
end
section
namespace Go.Lh
theorem LoopOk.none {P : Program} {N n0 : Nat} {c : Code} : LoopOk P N n0 noLoops c := fun _ _ _ _ _ h => by simp [noLoops] at h
def inl (P : Program) (base : Orc) (f0 : FuncId) (fn : Func) : Orc :=
  { fn := fun f args h => if Nat.beq f f0 then execF P base noLoops 1000 fn args h else base.fn f args h, ext := base.ext, asm := base.asm }
end Go.Lh
end
section
namespace Go.Lh
section
variable {P : Program} {O : Orc} {N n0 : Nat}
def rootsOf (fr : Fr) : List Nat → List Nat
  | [] => []
  | t :: r => (match fr.get t with | some v => refsV v | none => []) ++ rootsOf fr r
theorem Runs.rounds {α : Type} {c : Code} {R : X → Fr → Heap → Prop} (S : α → Fr × Heap) (I : α → Prop) (μ : α → Nat) (s : α) (hs : I s)
    (body : ∀ s, I s → (∃ s', I s' ∧ μ s' < μ s ∧ Runs P N n0 c (S s).1 (S s).2 (EndW N n0 .normal (S s').1 (S s').2)) ∨ (∃ x fr' h', x ≠ .normal ∧ Runs P N n0 c (S s).1 (S s).2 (EndW N n0 x fr' h') ∧ ∀ f k, EndW N n0 x fr' h' x f k → R x f k)) :
    Runs P N n0 (.loop c) (S s).1 (S s).2 R := by
  refine Runs.loop (fun k f h => ∃ i, I i ∧ k = μ i ∧ f = (S i).1 ∧ h = (S i).2) (n := μ s) ⟨s, hs, rfl, rfl, rfl⟩ ?_
  rintro k f h ⟨i, hi, rfl, rfl, rfl⟩
  rcases body i hi with ⟨s', h1, h2, h3⟩ | ⟨x, fr', h', h1, h2, h3⟩
  · refine h3.mono ?_
    rintro y f k ⟨rfl, hw⟩
    exact ⟨μ s', _, _, h2, ⟨s', h1, rfl, rfl, rfl⟩, hw⟩
  · refine h2.mono ?_
    rintro y f k hw
    obtain rfl := hw.1
    have := h3 f k hw
    cases y with
    | normal => exact (h1 rfl).elim
    | exit _ => exact this
    | ret => exact this
    | pan _ => exact this
end
theorem wrapI_in {x : Int} (h1 : -9223372036854775808 ≤ x) (h2 : x < 9223372036854775808) : wrapI .i64 x = x := by
  unfold wrapI
  simp only [IntKind.wrap]
  simp [IntKind.signed, IntKind.bits]
  omega
theorem wrapI_nat {n : Nat} (h : n < 9223372036854775808) : wrapI .i64 (n : Int) = n := wrapI_in (by omega) (by omega)
theorem tdiv_lit (a b : Nat) : Int.tdiv (a : Int) (no_index (OfNat.ofNat b)) = ((a / OfNat.ofNat b : Nat) : Int) := rfl
theorem tmod_lit (a b : Nat) : Int.tmod (a : Int) (no_index (OfNat.ofNat b)) = ((a % OfNat.ofNat b : Nat) : Int) := rfl
theorem mul_lit (a b : Nat) : (a : Int) * (no_index (OfNat.ofNat b)) = ((a * OfNat.ofNat b : Nat) : Int) := by simp
theorem add_lit (a b : Nat) : (a : Int) + (no_index (OfNat.ofNat b)) = ((a + OfNat.ofNat b : Nat) : Int) := by simp
end Go.Lh
end
section
namespace Go.Lh
def Old (w : World) : Nat → Prop := fun b => b < w.heap.size
theorem LFn.law {P : Program} {f : FuncId} {args : List V} {args' : Array Value} {h' : Heap} (H : LFn P f args [] (.ret (.bool true)) h') (w : World) (ha : VsRel (Old w) w (fun _ => none) args args'.toList) :
    Calls P f args' w fun e w' => e = .returned (.bool true) ∧ Go.RowKit.Below w.heap.size w w' := by
  have R : Rel (fun _ => none) (Old w) w [] (fun i => ([] : Heap).length ≤ i) :=
    ⟨fun i b hb _ => by simp at hb, fun _ _ => rfl, fun _ _ => rfl, fun i j x y l l' _ hx => by simp at hx, fun b hb => hb⟩
  refine (H _ _ w args'.toList R ha).mono ?_
  rintro e w' ⟨ρ', I', _, W, v', rfl, hv⟩
  cases hv
  exact ⟨rfl, W.os, W.tape, W.output, W.size, fun k hk => W.keep k hk (by rintro ⟨i, x, l, hx, _⟩; simp at hx)⟩
end Go.Lh
end
section
namespace Go.Lh
abbrev Known := List (FuncId × (List V → Heap → Option (Bool × Fin × Heap)))
def lookK : Known → FuncId → Option (List V → Heap → Option (Bool × Fin × Heap))
  | [], _ => none
  | (i, g) :: r, f => if Nat.beq i f then some g else lookK r f
def KOk (P : Program) (K : Known) : Prop := ∀ f g, lookK K f = some g → Enters P f ∧ ∀ args h fin h', g args h = some (true, fin, h') → LFn P f args h fin h'
theorem KOk.nil {P : Program} : KOk P [] := fun f g h => by simp [lookK] at h
theorem KOk.cons {P : Program} {K : Known} {i : FuncId} {g : List V → Heap → Option (Bool × Fin × Heap)} (he : Enters P i) (hg : ∀ args h fin h', g args h = some (true, fin, h') → LFn P i args h fin h') (hK : KOk P K) : KOk P ((i, g) :: K) := by
  intro f g' h
  simp only [lookK] at h
  split at h
  · rename_i e
    have := Nat.eq_of_beq_eq_true e
    subst this
    cases h
    exact ⟨he, hg⟩
  · exact hK f g' h
theorem Enters.of {P : Program} {i : FuncId} {fn : Func} (hf : P.funcs[i]? = some fn) (h : (!fn.body.isNone && !(fn.name == "runtime.NumGoroutine")) = true) : Enters P i := by
  simp only [Bool.and_eq_true, Bool.not_eq_true'] at h
  exact ⟨fn, hf, h.1, h.2⟩
def insOk (P : Program) : List FuncId → Bool
  | [] => true
  | f :: r => (match P.funcs[f]? with | some fn => !fn.body.isNone && !(fn.name == "runtime.NumGoroutine") | none => false) && insOk P r
theorem insOk_iff {P : Program} : ∀ {ins : List FuncId}, insOk P ins = true → ∀ f, f ∈ ins → Enters P f
  | [], _, f, hf => by simp at hf
  | i :: r, h, f, hf => by
    simp only [insOk, Bool.and_eq_true] at h
    rcases List.mem_cons.1 hf with rfl | hf
    · have h1 := h.1
      split at h1
      · rename_i fn e
        exact Enters.of e h1
      · cases h1
    · exact insOk_iff h.2 f hf
def ExtOk (P : Program) (ext : FuncId → List V → Option (Bool × V)) : Prop := ∀ f args v, ext f args = some (true, v) → ∀ (I : Nat → Prop) (w : World) (ρ : Ren) (args' : List Value), VsRel I w ρ args args' →
    ∃ v', (callFunc f ⟨args'⟩).run P w = .ok (.value v') w ∧ VRel I w ρ v v'
def ct {α : Type} (read : List V → Heap → Option α) (ok : α → Bool) (fin : α → Fin) (h' : α → Heap) : List V → Heap → Option (Bool × Fin × Heap) :=
  fun args h => match read args h with | some a => some (ok a, fin a, h' a) | none => none
theorem ct_ok {P : Program} {i : FuncId} {α : Type} {read : List V → Heap → Option α} {ok : α → Bool} {fin : α → Fin} {h' : α → Heap} (A : α → List V) (H : α → Heap)
    (hr : ∀ args h a, read args h = some a → args = A a ∧ h = H a) (hf : ∀ a, ok a = true → LFn P i (A a) (H a) (fin a) (h' a)) :
    ∀ args h fin2 h2, ct read ok fin h' args h = some (true, fin2, h2) → LFn P i args h fin2 h2 := by
  intro args h fin2 h2 e
  simp only [ct] at e
  split at e <;> simp only [Option.some.injEq, Prod.mk.injEq, reduceCtorEq] at e
  rename_i a ha
  obtain ⟨h1, rfl, rfl⟩ := e
  obtain ⟨rfl, rfl⟩ := hr _ _ _ ha
  exact hf a h1
def rdOf (n0 : Nat) (fr : Fr) (h : Heap) (slots : List Nat) : List Nat := reach h 300 (rootsOf fr slots ++ refsUpto h n0) (upto n0)
def tellN (n0 : Nat) (slots : List Nat) (fr : Fr) (h : Heap) : Option (Fr × Heap) := tell n0 (rdOf n0 fr h slots) slots fr h
def loopBody (fn : Func) (k : Nat) : Code := (loopsOf (fn.body.getD .skip)).getD k .skip
structure Sm where
  id : Nat
  slots : List Nat
  f : Fr → Heap → Option (Bool × X × Fr × Heap)
def smL (n0 : Nat) : List Sm → Loops
  | [] => noLoops
  | s :: r => fun n fr h => if Nat.beq n s.id then (match tellN n0 s.slots fr h with | some (f, k) => s.f f k | none => none) else smL n0 r n fr h
def SmAt (P : Program) (fn : Func) (n0 : Nat) (s : Sm) (k : Nat) : Prop :=
  headNo (loopBody fn k) = s.id ∧ k < (loopsOf (fn.body.getD .skip)).length ∧ ∀ fr h x fr' h', s.f fr h = some (true, x, fr', h') → Runs P fn.ntmps n0 (.loop (loopBody fn k)) fr h (EndW fn.ntmps n0 x fr' h')
def LoopsOk (P : Program) (fn : Func) (n0 : Nat) (L : Loops) : Prop := ∀ c, fn.body = some c → ∀ d, d ∈ loopsOf c → LoopOk P fn.ntmps n0 L d
theorem LoopsOk.none {P : Program} {fn : Func} {n0 : Nat} : LoopsOk P fn n0 noLoops := fun _ _ _ _ => LoopOk.none
theorem smL_at {P : Program} {fn : Func} {n0 : Nat} (hnd : nodupN ((loopsOf (fn.body.getD .skip)).map headNo) = true) : ∀ {l : List (Sm × Nat)}, (∀ p, p ∈ l → SmAt P fn n0 p.1 p.2) → ∀ d, d ∈ loopsOf (fn.body.getD .skip) → LoopOk P fn.ntmps n0 (smL n0 (l.map (·.1))) d
  | [], _, d, _ => LoopOk.none
  | (s, k) :: r, H, d, hd => by
    intro fr h x fr' h' e
    simp only [List.map_cons, smL] at e
    split at e
    · rename_i hid
      have hid := Nat.eq_of_beq_eq_true hid
      obtain ⟨h1, h2, h3⟩ := H (s, k) (by simp)
      split at e <;> try simp only [reduceCtorEq] at e
      rename_i f g ht
      obtain ⟨j, hj, hjd⟩ := List.mem_iff_getElem.1 hd
      have hjk : j = k := by
        have hn := nodupN_iff hnd
        refine nodup_inj (x := s.id) hn ?_ ?_
        · rw [List.getElem?_map, List.getElem?_eq_getElem hj, hjd]; simp [hid]
        · have : loopBody fn k = (loopsOf (fn.body.getD .skip))[k] := by simp [loopBody, List.getD_eq_getElem?_getD, List.getElem?_eq_getElem h2]
          rw [List.getElem?_map, List.getElem?_eq_getElem h2, ← this]; simp only at h1; simp [h1]
      subst hjk
      have : loopBody fn j = d := by simp [loopBody, List.getD_eq_getElem?_getD, List.getElem?_eq_getElem h2, hjd]
      subst this
      exact Runs.weaken (tell_weaker ht) (h3 _ _ _ _ _ e)
    · exact smL_at hnd (fun p hp => H p (by simp [hp])) d hd fr h x fr' h' e
theorem LoopsOk.of {P : Program} {fn : Func} {n0 : Nat} (l : List (Sm × Nat)) (hnd : nodupN ((loopsOf (fn.body.getD .skip)).map headNo) = true) (H : ∀ p, p ∈ l → SmAt P fn n0 p.1 p.2) : LoopsOk P fn n0 (smL n0 (l.map (·.1))) := by
  intro c hc d hd
  have : fn.body.getD .skip = c := by rw [hc]; rfl
  rw [← this] at hd
  exact smL_at hnd H d hd
theorem LoopsOk.inner {P : Program} {fn : Func} {n0 : Nat} {L : Loops} (H : LoopsOk P fn n0 L) {c : Code} (hs : ∀ d, d ∈ loopsOf c → d ∈ loopsOf (fn.body.getD .skip)) : ∀ d, d ∈ loopsOf c → LoopOk P fn.ntmps n0 L d := by
  intro d hd
  cases hb : fn.body with
  | none =>
    have := hs d hd
    rw [hb] at this
    simp [loopsOf] at this
  | some b => exact H b hb d (by have := hs d hd; rw [hb] at this; exact this)
theorem loopsOf_trans {c d : Code} : ∀ {b : Code}, c ∈ loopsOf b → d ∈ loopsOf c → d ∈ loopsOf b := by
  intro b
  induction b with
  | seq x y ihx ihy => intro h hd; simp only [loopsOf, List.mem_append] at h ⊢; exact h.elim (fun h => .inl (ihx h hd)) (fun h => .inr (ihy h hd))
  | cond o x y ihx ihy => intro h hd; simp only [loopsOf, List.mem_append] at h ⊢; exact h.elim (fun h => .inl (ihx h hd)) (fun h => .inr (ihy h hd))
  | block i x ih => intro h hd; simp only [loopsOf] at h ⊢; exact ih h hd
  | loop x ih => intro h hd; simp only [loopsOf, List.mem_cons] at h ⊢; rcases h with rfl | h; exact .inr hd; exact .inr (ih h hd)
  | _ => intro h _; simp [loopsOf] at h
theorem LoopsOk.innerAt {P : Program} {fn : Func} {n0 : Nat} {L : Loops} (H : LoopsOk P fn n0 L) (k : Nat) : ∀ d, d ∈ loopsOf (loopBody fn k) → LoopOk P fn.ntmps n0 L d := by
  refine LoopsOk.inner H fun d hd => ?_
  by_cases hk : k < (loopsOf (fn.body.getD .skip)).length
  · have : loopBody fn k ∈ loopsOf (fn.body.getD .skip) := by
      have e : loopBody fn k = (loopsOf (fn.body.getD .skip))[k] := by simp [loopBody, List.getD_eq_getElem?_getD, List.getElem?_eq_getElem hk]
      rw [e]; exact List.getElem_mem hk
    exact loopsOf_trans this hd
  · have : loopBody fn k = .skip := by simp [loopBody, List.getD_eq_getElem?_getD, List.getElem?_eq_none (Nat.le_of_not_lt hk)]
    rw [this] at hd
    simp [loopsOf] at hd
theorem lit_mul (a b : Nat) : (no_index (OfNat.ofNat a) : Int) * (b : Int) = ((OfNat.ofNat a * b : Nat) : Int) := by simp
theorem lit_add (a b : Nat) : (no_index (OfNat.ofNat a) : Int) + (b : Int) = ((OfNat.ofNat a + b : Nat) : Int) := by simp
theorem add_nat (a b : Nat) : (a : Int) + (b : Int) = ((a + b : Nat) : Int) := by simp
theorem mul_nat (a b : Nat) : (a : Int) * (b : Int) = ((a * b : Nat) : Int) := by simp
theorem sub_lit (a b : Nat) (h : OfNat.ofNat b ≤ a) : (a : Int) - (no_index (OfNat.ofNat b)) = ((a - OfNat.ofNat b : Nat) : Int) := by
  have : (OfNat.ofNat b : Int) = ((OfNat.ofNat b : Nat) : Int) := rfl
  rw [this]; omega
theorem lit_sub (a b : Nat) (h : b ≤ OfNat.ofNat a) : (no_index (OfNat.ofNat a) : Int) - (b : Int) = ((OfNat.ofNat a - b : Nat) : Int) := by
  have : (OfNat.ofNat a : Int) = ((OfNat.ofNat a : Nat) : Int) := rfl
  rw [this]; omega
theorem sub_nat (a b : Nat) (h : b ≤ a) : (a : Int) - (b : Int) = ((a - b : Nat) : Int) := by omega
theorem toNat_lit (a : Nat) : (no_index (OfNat.ofNat a) : Int).toNat = OfNat.ofNat a := rfl
end Go.Lh
end
section
namespace Go.Lh
theorem vu8 {I : Nat → Prop} {w : World} {ρ : Ren} {n : Int} (h : (Lit.int .u8 n).wf = true) : VRel I w ρ (.u8 (BitVec.ofInt 8 n)) (.int .u8 n) := by
  simp only [Lit.wf, IntKind.min, IntKind.max, IntKind.signed, IntKind.bits, Bool.and_eq_true, decide_eq_true_eq] at h
  simp at h
  have e : n = ((BitVec.ofInt 8 n).toNat : Int) := by
    rw [BitVec.toNat_ofInt, Int.toNat_of_nonneg (Int.emod_nonneg _ (by decide))]
    exact (Int.emod_eq_of_lt h.1 (by simp; omega)).symm
  have r := VRel.u8 (I := I) (w := w) ρ (BitVec.ofInt 8 n)
  rw [← e] at r
  exact r
theorem vu64 {I : Nat → Prop} {w : World} {ρ : Ren} {n : Int} (h : (Lit.int .u64 n).wf = true) : VRel I w ρ (.u64 (BitVec.ofInt 64 n)) (.int .u64 n) := by
  simp only [Lit.wf, IntKind.min, IntKind.max, IntKind.signed, IntKind.bits, Bool.and_eq_true, decide_eq_true_eq] at h
  simp at h
  have e : n = ((BitVec.ofInt 64 n).toNat : Int) := by
    rw [BitVec.toNat_ofInt, Int.toNat_of_nonneg (Int.emod_nonneg _ (by decide))]
    exact (Int.emod_eq_of_lt h.1 (by simp; omega)).symm
  have r := VRel.u64 (I := I) (w := w) ρ (BitVec.ofInt 64 n)
  rw [← e] at r
  exact r
theorem int_lt {n : Int} (h : (Lit.int .i64 n).wf = true) : n < 9223372036854775808 := by
  simp only [Lit.wf, IntKind.min, IntKind.max, IntKind.signed, IntKind.bits, Bool.and_eq_true, decide_eq_true_eq] at h
  simp at h
  omega
theorem int_ge {n : Int} (h : (Lit.int .i64 n).wf = true) : -9223372036854775808 ≤ n := by
  simp only [Lit.wf, IntKind.min, IntKind.max, IntKind.signed, IntKind.bits, Bool.and_eq_true, decide_eq_true_eq] at h
  simp at h
  omega
end Go.Lh
end
