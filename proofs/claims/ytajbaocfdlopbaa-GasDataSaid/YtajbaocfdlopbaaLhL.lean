/- Soundness of the operations that touch the local heap: the memory. -/
import Derived.Test.YtajbaocfdlopbaaLhK
set_option linter.unusedSimpArgs false
set_option linter.unusedVariables false
namespace Go.Lh

def upd (ρ : Ren) (i : Nat) (l : Loc) : Ren := fun j => if j = i then some l else ρ j

theorem upd_same (ρ : Ren) (i : Nat) (l : Loc) : upd ρ i l i = some l := by simp [upd]
theorem upd_ne (ρ : Ren) {i j : Nat} (l : Loc) (h : j ≠ i) : upd ρ i l j = ρ j := by simp [upd, h]

theorem rel_put {ρ : Ren} {I : Nat → Prop} {w w' : World} {h h1 : Heap} {F : Nat → Prop} (R : Rel ρ I w h F) {idx : Nat} {l : Loc} {b : Blk}
    (hos : w'.os = w.os) (htape : w'.tape = w.tape) (hout : w'.output = w.output) (hsz : w.heap.size ≤ w'.heap.size)
    (hlen : h1.length = h.length) (hlt : idx < h.length) (h1h : ∀ j x, j ≠ idx → h1[j]? = some x → x ≠ .dead → h[j]? = some x)
    (ha : ρ idx = none ∨ ρ idx = some l) (hb : ∀ k, k < w.heap.size → k ≠ l.b → w'.heap[k]? = w.heap[k]?)
    (hc : w.heap.size ≤ l.b ∨ Own ρ h l.b)
    (hd : ∀ j x lj, j ≠ idx → h1[j]? = some x → x ≠ .dead → ρ j = some lj → lj.b ≠ l.b)
    (he : b ≠ .dead → (∀ v v', VRel I w ρ v v' → VRel I w' (upd ρ idx l) v v') → BRel I w' (upd ρ idx l) l b) :
    Rel (upd ρ idx l) I w' (h1.set idx b) (fun i => F i ∧ i ≠ idx) ∧ Went ρ I w h (upd ρ idx l) I w' (h1.set idx b) := by
  have hren : ∀ i q, ρ i = some q → upd ρ idx l i = some q := by
    intro i q hq
    by_cases hi : i = idx
    · subst hi
      rw [upd_same]
      rcases ha with h0 | h0 <;> rw [h0] at hq <;> cases hq
      rfl
    · rw [upd_ne _ _ hi]; exact hq
  have hnI : ¬ I l.b := by
    rcases hc with h0 | h0
    · intro hI; have := R.lt _ hI; omega
    · exact fun hI => R.not_own hI h0
  have hI : ∀ k, I k → w'.heap[k]? = w.heap[k]? := fun k hk => hb k (R.lt k hk) (fun e => hnI (e ▸ hk))
  have L : Le ρ I w (upd ρ idx l) I w' := ⟨hren, fun _ h => h, hI⟩
  have hset : ∀ j x, (h1.set idx b)[j]? = some x → (j = idx ∧ x = b) ∨ (j ≠ idx ∧ h1[j]? = some x) := by
    intro j x hx
    by_cases hj : j = idx
    · subst hj
      rw [List.getElem?_set_self (by omega)] at hx
      exact .inl ⟨rfl, by simpa using hx.symm⟩
    · rw [List.getElem?_set_ne (Ne.symm hj)] at hx
      exact .inr ⟨hj, hx⟩
  constructor
  · refine ⟨?_, ?_, ?_, ?_, ?_⟩
    · intro i x hx hxd
      rcases hset i x hx with ⟨rfl, rfl⟩ | ⟨hi, hx⟩
      · exact ⟨l, upd_same _ _ _, he hxd (fun _ _ hv => hv.le L), hnI⟩
      · obtain ⟨q, hq, hB, hn⟩ := R.blk i x (h1h i x hi hx hxd) hxd
        refine ⟨q, hren i q hq, ?_, hn⟩
        have hne := hd i x q hi hx hxd hq
        obtain ⟨C, e, fz, m1, m2, m3, m4⟩ := hB.mem
        have hql : q.b < w.heap.size := by
          rcases Nat.lt_or_ge q.b w.heap.size with h0 | h0
          · exact h0
          · rw [Array.getElem?_eq_none h0] at m1; cases m1
        refine ⟨⟨C, e, fz, by rw [hb _ hql hne]; exact m1, m2, m3, fun o ho => ?_⟩, hB.fits⟩
        obtain ⟨c, hc1, hc2⟩ := m4 o ho
        exact ⟨c, hc1, hc2.le L⟩
    · intro i ⟨hi, hne⟩
      rw [upd_ne _ _ hne]; exact R.free i hi
    · intro i hi
      rw [List.length_set, hlen] at hi
      rw [upd_ne _ _ (by omega)]; exact R.out i hi
    · intro i j x y li lj hij hx hxd hy hyd hli hlj
      rcases hset i x hx with ⟨hi, hxb⟩ | ⟨hi, hx'⟩
      · rcases hset j y hy with ⟨hj, _⟩ | ⟨hj, hy'⟩
        · exact absurd (hi.trans hj.symm) hij
        · rw [hi, upd_same] at hli; cases hli
          rw [upd_ne _ _ hj] at hlj
          exact fun e => hd j y lj hj hy' hyd hlj e.symm
      · rcases hset j y hy with ⟨hj, _⟩ | ⟨hj, hy'⟩
        · rw [hj, upd_same] at hlj; cases hlj
          rw [upd_ne _ _ hi] at hli
          exact hd i x li hi hx' hxd hli
        · rw [upd_ne _ _ hi] at hli
          rw [upd_ne _ _ hj] at hlj
          exact R.apart i j x y li lj hij (h1h i x hi hx' hxd) hxd (h1h j y hj hy' hyd) hyd hli hlj
    · intro k hk; exact Nat.lt_of_lt_of_le (R.lt k hk) hsz
  · refine ⟨hren, fun _ h => h, hos, htape, hout, hsz, ?_, ?_, fun _ h => .inl h⟩
    · intro k hk hno
      refine hb k hk (fun e => ?_)
      rcases hc with h0 | h0
      · omega
      · exact hno (e ▸ h0)
    · rintro k ⟨i, x, q, hx, hxd, hq, rfl⟩
      rcases hset i x hx with ⟨rfl, rfl⟩ | ⟨hi, hx⟩
      · rw [upd_same] at hq; cases hq
        exact hc.symm
      · rw [upd_ne _ _ hi] at hq
        exact .inl ⟨i, x, q, h1h i x hi hx hxd, hxd, hq, rfl⟩

theorem Went.of_eq {ρ : Ren} {I : Nat → Prop} {w w' : World} {h : Heap} (hh : w'.heap = w.heap) (hos : w'.os = w.os) (htape : w'.tape = w.tape) (hout : w'.output = w.output) : Went ρ I w h ρ I w' h :=
  ⟨fun _ _ h => h, fun _ h => h, hos, htape, hout, by rw [hh]; exact Nat.le_refl _, fun _ _ _ => by rw [hh], fun _ h => .inl h, fun _ h => .inl h⟩

theorem Rel.weaken {ρ : Ren} {I : Nat → Prop} {w : World} {h : Heap} {F F' : Nat → Prop} (R : Rel ρ I w h F) (hF : ∀ i, F' i → F i) : Rel ρ I w h F' :=
  ⟨R.blk, fun i hi => R.free i (hF i hi), R.out, R.apart, R.lt⟩

/-! ### cells of a block -/

def BlkIn (I : Nat → Prop) (w : World) (ρ : Ren) (b : Blk) (C : List Value) : Prop := ∀ o, o < b.len → ∃ c, C[o]? = some c ∧ VRel I w ρ (b.at o) c

theorem allU8_at : ∀ {cs : List V} {xs : List (BitVec 8)}, allU8 cs = some xs → xs.length = cs.length ∧ ∀ o, o < cs.length → cs.getD o .any = .u8 (xs.getD o 0)
  | [], xs, h => by simp [allU8] at h; subst h; simp
  | .u8 x :: r, xs, h => by
    simp only [allU8] at h
    split at h <;> simp at h
    rename_i l hl; subst h
    obtain ⟨h1, h2⟩ := allU8_at hl
    refine ⟨by simp [h1], fun o ho => ?_⟩
    cases o with
    | zero => rfl
    | succ o => simpa using h2 o (by simpa using ho)
  | .any :: _, _, h | .u16 _ :: _, _, h | .u32 _ :: _, _, h | .u64 _ :: _, _, h | .int _ _ :: _, _, h | .bool _ :: _, _, h | .str _ :: _, _, h | .ptr _ _ :: _, _, h | .nilPtr :: _, _, h | .sl _ _ _ _ _ :: _, _, h | .nilSl :: _, _, h
  | .isl _ _ _ :: _, _, h | .iptr _ _ _ _ _ :: _, _, h | .fn _ _ _ :: _, _, h | .nilFn :: _, _, h | .agg _ :: _, _, h | .tup _ :: _, _, h | .iface _ _ :: _, _, h | .nilIface :: _, _, h => by simp [allU8] at h

theorem allU64_at : ∀ {cs : List V} {xs : List (BitVec 64)}, allU64 cs = some xs → xs.length = cs.length ∧ ∀ o, o < cs.length → cs.getD o .any = .u64 (xs.getD o 0)
  | [], xs, h => by simp [allU64] at h; subst h; simp
  | .u64 x :: r, xs, h => by
    simp only [allU64] at h
    split at h <;> simp at h
    rename_i l hl; subst h
    obtain ⟨h1, h2⟩ := allU64_at hl
    refine ⟨by simp [h1], fun o ho => ?_⟩
    cases o with
    | zero => rfl
    | succ o => simpa using h2 o (by simpa using ho)
  | .any :: _, _, h | .u16 _ :: _, _, h | .u32 _ :: _, _, h | .u8 _ :: _, _, h | .int _ _ :: _, _, h | .bool _ :: _, _, h | .str _ :: _, _, h | .ptr _ _ :: _, _, h | .nilPtr :: _, _, h | .sl _ _ _ _ _ :: _, _, h | .nilSl :: _, _, h
  | .isl _ _ _ :: _, _, h | .iptr _ _ _ _ _ :: _, _, h | .fn _ _ _ :: _, _, h | .nilFn :: _, _, h | .agg _ :: _, _, h | .tup _ :: _, _, h | .iface _ _ :: _, _, h | .nilIface :: _, _, h => by simp [allU64] at h

theorem allInt_at : ∀ {cs : List V} {xs : List Int}, allInt cs = some xs → xs.length = cs.length ∧ ∀ o, o < cs.length → cs.getD o .any = .int .i64 (xs.getD o 0)
  | [], xs, h => by simp [allInt] at h; subst h; simp
  | .int .i64 x :: r, xs, h => by
    simp only [allInt] at h
    split at h <;> simp at h
    rename_i l hl; subst h
    obtain ⟨h1, h2⟩ := allInt_at hl
    refine ⟨by simp [h1], fun o ho => ?_⟩
    cases o with
    | zero => rfl
    | succ o => simpa using h2 o (by simpa using ho)
  | .int .i8 _ :: _, _, h | .int .i16 _ :: _, _, h | .int .i32 _ :: _, _, h | .int .u8 _ :: _, _, h | .int .u16 _ :: _, _, h | .int .u32 _ :: _, _, h | .int .u64 _ :: _, _, h => by simp [allInt] at h
  | .any :: _, _, h | .u16 _ :: _, _, h | .u32 _ :: _, _, h | .u64 _ :: _, _, h | .u8 _ :: _, _, h | .bool _ :: _, _, h | .str _ :: _, _, h | .ptr _ _ :: _, _, h | .nilPtr :: _, _, h | .sl _ _ _ _ _ :: _, _, h | .nilSl :: _, _, h
  | .isl _ _ _ :: _, _, h | .iptr _ _ _ _ _ :: _, _, h | .fn _ _ _ :: _, _, h | .nilFn :: _, _, h | .agg _ :: _, _, h | .tup _ :: _, _, h | .iface _ _ :: _, _, h | .nilIface :: _, _, h => by simp [allInt] at h

theorem mkBlk_at (cs : List V) : (mkBlk cs).len = cs.length ∧ mkBlk cs ≠ .dead ∧ ∀ o, o < cs.length → (mkBlk cs).at o = cs.getD o .any := by
  unfold mkBlk
  split
  · split
    · rename_i h; obtain ⟨h1, h2⟩ := allU8_at h; exact ⟨h1, by simp, fun o ho => (h2 o ho).symm⟩
    · exact ⟨rfl, by simp, fun _ _ => rfl⟩
  · split
    · rename_i h; obtain ⟨h1, h2⟩ := allU64_at h; exact ⟨h1, by simp, fun o ho => (h2 o ho).symm⟩
    · exact ⟨rfl, by simp, fun _ _ => rfl⟩
  · split
    · rename_i h; obtain ⟨h1, h2⟩ := allInt_at h; exact ⟨h1, by simp, fun o ho => (h2 o ho).symm⟩
    · exact ⟨rfl, by simp, fun _ _ => rfl⟩
  · exact ⟨rfl, by simp, fun _ _ => rfl⟩

theorem mkBlk_in {I : Nat → Prop} {w : World} {ρ : Ren} {cs : List V} {C : List Value} (h : VsRel I w ρ cs C) : BlkIn I w ρ (mkBlk cs) C := by
  intro o ho
  obtain ⟨h1, _, h2⟩ := mkBlk_at cs
  rw [h1] at ho
  rw [h2 o ho]
  have : cs[o]? = some (cs.getD o .any) := by rw [List.getD_eq_getElem?_getD, List.getElem?_eq_getElem ho]; rfl
  exact h.get o _ this

theorem atN_rel {I : Nat → Prop} {w : World} {ρ : Ren} {b : Blk} {C : List Value} (H : BlkIn I w ρ b C) : ∀ (n o : Nat), o + n ≤ b.len → VsRel I w ρ (b.atN o n) ((C.drop o).take n)
  | 0, o, _ => by simp [Blk.atN]; exact .nil _
  | n + 1, o, h => by
    obtain ⟨c, hc, hr⟩ := H o (by omega)
    have hlt : o < C.length := by
      rcases Nat.lt_or_ge o C.length with h0 | h0
      · exact h0
      · rw [List.getElem?_eq_none h0] at hc; cases hc
    rw [List.drop_eq_getElem_cons hlt]
    have : C[o] = c := by rw [List.getElem?_eq_getElem hlt] at hc; simpa using hc
    simp only [Blk.atN, List.take_succ_cons, this]
    exact .cons _ _ _ _ _ hr (atN_rel H n (o + 1) (by omega))

end Go.Lh
