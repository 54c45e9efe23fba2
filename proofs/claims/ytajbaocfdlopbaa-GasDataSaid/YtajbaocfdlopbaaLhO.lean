/- Soundness of made slices, conversions between texts and slices, append, copy. -/
import Derived.Test.YtajbaocfdlopbaaLhN
set_option linter.unusedSimpArgs false
set_option linter.unusedVariables false
namespace Go.Lh

theorem Blk.cut_at {b : Blk} {o n : Nat} (h : o + n ≤ b.len) (hd : b ≠ .dead) : (b.cut o n).len = n ∧ b.cut o n ≠ .dead ∧ ∀ k, k < n → (b.cut o n).at k = b.at (o + k) := by
  cases b <;> simp only [Blk.len] at h
  case dead => exact absurd rfl hd
  all_goals
    refine ⟨by simp [Blk.cut, Blk.len]; omega, by simp [Blk.cut], fun k hk => ?_⟩
    simp [Blk.cut, Blk.at, hk]

theorem getD_append {α : Type} (xs ys : List α) (k : Nat) (d : α) : (xs ++ ys)[k]?.getD d = if k < xs.length then xs[k]?.getD d else ys[k - xs.length]?.getD d := by
  rw [List.getElem?_append]; split <;> rfl

theorem Blk.app_at {b c b' : Blk} (h : b.app c = some b') (hb : b ≠ .dead) (hc : c ≠ .dead) :
    b'.len = b.len + c.len ∧ b' ≠ .dead ∧ ∀ k, k < b.len + c.len → b'.at k = if k < b.len then b.at k else c.at (k - b.len) := by
  unfold Blk.app at h
  split at h <;> first | cases h | skip
  · exact ⟨by simp [Blk.len], hc, fun k _ => by simp [Blk.len]⟩
  · refine ⟨by simp [Blk.len], hb, fun k hk => ?_⟩
    rw [if_pos (by simpa [Blk.len] using hk)]
  all_goals
    refine ⟨by simp [Blk.len], by simp, fun k _ => ?_⟩
    simp only [Blk.at, Blk.len, List.getD_eq_getElem?_getD, getD_append]
    first | done | (split <;> rfl)

theorem getD_over {α : Type} (xs ys : List α) (o k : Nat) (d : α) (h : o + ys.length ≤ xs.length) :
    (xs.take o ++ ys ++ xs.drop (o + ys.length))[k]?.getD d = if o ≤ k ∧ k < o + ys.length then ys[k - o]?.getD d else xs[k]?.getD d := by
  rw [List.append_assoc, getD_append]
  simp only [List.length_take, Nat.min_eq_left (show o ≤ xs.length from by omega)]
  by_cases h1 : k < o
  · rw [if_pos h1, if_neg (by omega)]; simp [h1]
  · rw [if_neg h1, getD_append]
    by_cases h2 : k < o + ys.length
    · rw [if_pos (by omega), if_pos (by omega)]
    · rw [if_neg (by omega), if_neg (by omega), List.getElem?_drop]
      congr 2; omega

theorem Blk.over_at {b c b' : Blk} {o : Nat} (h : b.over o c = some b') (hb : b ≠ .dead) (ho : o + c.len ≤ b.len) :
    b'.len = b.len ∧ b' ≠ .dead ∧ ∀ k, b'.at k = if o ≤ k ∧ k < o + c.len then c.at (k - o) else b.at k := by
  unfold Blk.over at h
  split at h <;> first | cases h | skip
  · exact ⟨rfl, hb, fun k => by rw [if_neg (by simp [Blk.len])]⟩
  all_goals
    simp only [Blk.len] at ho
    refine ⟨by simp [Blk.len]; omega, by simp, fun k => ?_⟩
    simp only [Blk.at, Blk.len, List.getD_eq_getElem?_getD, getD_over _ _ _ _ _ ho]
    first | done | (split <;> rfl)

theorem atN_length (b : Blk) : ∀ (n o : Nat), (b.atN o n).length = n
  | 0, _ => rfl
  | n + 1, o => by simp [Blk.atN, atN_length b n (o + 1)]

theorem atN_getD (b : Blk) : ∀ (n o k : Nat), k < n → (b.atN o n).getD k .any = b.at (o + k)
  | 0, _, _, h => by omega
  | n + 1, o, 0, _ => rfl
  | n + 1, o, k + 1, h => by
    simp only [Blk.atN, List.getD_cons_succ]
    rw [atN_getD b n (o + 1) k (by omega)]
    congr 1; omega

theorem ones_at {b : Blk} (h : b.ones = true) (k : Nat) (hk : k < b.len) : (b.at k).one = true := by
  cases b <;> simp only [Blk.ones, Blk.len] at h hk
  case dead => cases h
  case vals cs =>
    simp only [Blk.at]
    have := List.all_eq_true.1 h (cs[k]) (List.getElem_mem hk)
    simpa [hk] using this
  all_goals rfl

section
variable {P : Program} {w : World} {I : Nat → Prop} {ρ : Ren} {h : Heap} {F : Nat → Prop} {idx : Nat} {a : Act} {o : Oper} {g : Fm}

theorem zeros_get {α : Type} (cs : List α) : ∀ (n k : Nat), k < n * cs.length → ((List.replicate n cs).flatten)[k]? = cs[k % cs.length]?
  | 0, k, h => by omega
  | n + 1, k, h => by
    rw [List.replicate_succ, List.flatten_cons, List.getElem?_append]
    split
    · rename_i hk; rw [Nat.mod_eq_of_lt hk]
    · rename_i hk
      rw [zeros_get cs n _ (by rw [Nat.add_mul] at h; omega)]
      rw [← Nat.mod_eq_sub_mod (by omega)]

theorem flatten_len {α : Type} (cs : List α) (n : Nat) : ((List.replicate n cs).flatten).length = n * cs.length := by
  induction n with
  | zero => simp
  | succ n ih => rw [List.replicate_succ, List.flatten_cons, List.length_append, ih, Nat.add_mul]; omega

/-- the model's zeros, n times -/
def zerosOf (zc : Array Value) (n : Nat) : Array Value := (Array.range n).map fun i => zc[i % zc.size]!

theorem zerosOf_get (zc : Array Value) (n k : Nat) (hk : k < n) (hz : 0 < zc.size) : (zerosOf zc n)[k]? = zc[k % zc.size]? := by
  have : k % zc.size < zc.size := Nat.mod_lt _ hz
  simp [zerosOf, hk, this]

theorem zeros_rel {cs : List V} {zc : Array Value} (hc : VsRel I w ρ cs zc.toList) (n : Nat) : VsRel I w ρ (List.replicate n cs).flatten (zerosOf zc (n * cs.length)).toList := by
  refine .of_get (by rw [flatten_len]; simp [zerosOf]) (fun k x x' hx hx' => ?_)
  have hk : k < n * cs.length := by
    rcases Nat.lt_or_ge k (n * cs.length) with h0 | h0
    · exact h0
    · rw [List.getElem?_eq_none (by rw [flatten_len]; exact h0)] at hx; cases hx
  have hp : 0 < cs.length := by
    rcases Nat.eq_zero_or_pos cs.length with h0 | h0
    · rw [h0] at hk; omega
    · exact h0
  have hl := hc.length
  rw [zeros_get cs n k hk] at hx
  obtain ⟨y, hy, hr⟩ := hc.get _ _ hx
  rw [Array.getElem?_toList, zerosOf_get zc _ k hk (by simp at hl; omega)] at hx'
  rw [hl] at hy
  simp only [Array.length_toList, Array.getElem?_toList] at hy
  rw [hy] at hx'; cases hx'; exact hr

theorem rel_blkIn {b : Blk} {cs : List V} {C : List Value} (h : VsRel I w ρ cs C) (h2 : ∀ k, k < b.len → ∃ x, cs[k]? = some x ∧ b.at k = x) : BlkIn I w ρ b C := by
  intro k hk
  obtain ⟨x, hx, he⟩ := h2 k hk
  rw [he]; exact h.get k x hx

theorem allU64_all : ∀ {cs : List V} {xs : List (BitVec 64)}, allU64 cs = some xs → cs = xs.map V.u64
  | [], xs, h => by simp only [allU64, Option.some.injEq] at h; subst h; rfl
  | v :: r, xs, h => by
    cases v <;> simp only [allU64, reduceCtorEq] at h
    split at h <;> simp only [Option.some.injEq, reduceCtorEq] at h
    rename_i l hl
    subst h
    rw [List.map_cons, allU64_all hl]
theorem zeroN_sound {e : TypeId} {n s : Nat} {b : Blk} (hb : zeroN P e n = some b) (hl : b.len = n * s) :
    ∃ z' : Value, (zeroValue e).run P w = .ok z' w ∧ b ≠ .dead ∧ BlkIn I w ρ b (zerosOf z'.cells (n * s)).toList ∧ (0 < n → z'.cells.size = s) := by
  unfold zeroN at hb
  split at hb <;> first | cases hb | skip
  · rename_i x hz
    obtain ⟨z', e1, e2, e3⟩ := run_zeroT (P := P) (w := w) (I := I) (ρ := ρ) hz
    cases e2
    refine ⟨_, e1, by simp, ?_, ?_⟩
    · intro k hk
      simp only [Blk.len, List.length_replicate] at hk hl
      refine ⟨.int .u8 x.toNat, ?_, ?_⟩
      · rw [Array.getElem?_toList, zerosOf_get _ _ k (by omega) (by simp [Value.cells])]; simp [Value.cells, Nat.mod_one]
      · simp only [Blk.at, List.getD_eq_getElem?_getD, List.getElem?_replicate, hk, if_true, Option.getD_some]; exact .u8 _ _
    · intro hn
      simp only [Blk.len, List.length_replicate] at hl
      have : s = 1 := by
        have := Nat.eq_of_mul_eq_mul_left hn (show n * s = n * 1 from by omega); exact this
      subst this; rfl
  · rename_i x hz
    obtain ⟨z', e1, e2, e3⟩ := run_zeroT (P := P) (w := w) (I := I) (ρ := ρ) hz
    cases e2
    refine ⟨_, e1, by simp, ?_, ?_⟩
    · intro k hk
      simp only [Blk.len, List.length_replicate] at hk hl
      refine ⟨.int .u64 x.toNat, ?_, ?_⟩
      · rw [Array.getElem?_toList, zerosOf_get _ _ k (by omega) (by simp [Value.cells])]; simp [Value.cells, Nat.mod_one]
      · simp only [Blk.at, List.getD_eq_getElem?_getD, List.getElem?_replicate, hk, if_true, Option.getD_some]; exact .u64 _ _
    · intro hn
      simp only [Blk.len, List.length_replicate] at hl
      have : s = 1 := by
        have := Nat.eq_of_mul_eq_mul_left hn (show n * s = n * 1 from by omega); exact this
      subst this; rfl
  · rename_i x hz
    obtain ⟨z', e1, e2, e3⟩ := run_zeroT (P := P) (w := w) (I := I) (ρ := ρ) hz
    cases e2
    refine ⟨_, e1, by simp, ?_, ?_⟩
    · intro k hk
      simp only [Blk.len, List.length_replicate] at hk hl
      refine ⟨.int .i64 x, ?_, ?_⟩
      · rw [Array.getElem?_toList, zerosOf_get _ _ k (by omega) (by simp [Value.cells])]; simp [Value.cells, Nat.mod_one]
      · simp only [Blk.at, List.getD_eq_getElem?_getD, List.getElem?_replicate, hk, if_true, Option.getD_some]; exact .int _ _ _ rfl
    · intro hn
      simp only [Blk.len, List.length_replicate] at hl
      have : s = 1 := by
        have := Nat.eq_of_mul_eq_mul_left hn (show n * s = n * 1 from by omega); exact this
      subst this; rfl
  · rename_i cs hz
    obtain ⟨z', e1, e2, e3⟩ := run_zeroT (P := P) (w := w) (I := I) (ρ := ρ) hz
    have hc : VsRel I w ρ cs z'.cells.toList := cells_sound e2 (ofValue_not_any e3)
    split at hb <;> cases hb
    · rename_i xs hxs
      have hm := allU64_all hxs
      subst hm
      have hf : (List.replicate n (xs.map V.u64)).flatten = ((List.replicate n xs).flatten).map V.u64 := by rw [List.map_flatten, List.map_replicate]
      simp only [Blk.len] at hl
      have hl' : n * (xs.map V.u64).length = n * s := by rw [← hl, flatten_len, List.length_map]
      refine ⟨z', e1, by simp, ?_, ?_⟩
      · have := zeros_rel hc n
        rw [hl', hf] at this
        refine rel_blkIn this (fun k hk => ?_)
        simp only [Blk.len] at hk
        exact ⟨_, by rw [List.getElem?_map, List.getElem?_eq_getElem hk]; rfl, by simp only [Blk.at]; rw [List.getD_eq_getElem?_getD, List.getElem?_eq_getElem hk]; rfl⟩
      · intro hn
        have := Nat.eq_of_mul_eq_mul_left hn hl'
        have h2 := hc.length
        simp at h2 this; omega
    · simp only [Blk.len, flatten_len] at hl
      refine ⟨z', e1, by simp, ?_, ?_⟩
      · have := zeros_rel hc n
        rw [hl] at this
        refine rel_blkIn this (fun k hk => ?_)
        simp only [Blk.len] at hk
        exact ⟨_, List.getElem?_eq_getElem hk, by simp only [Blk.at]; rw [List.getD_eq_getElem?_getD, List.getElem?_eq_getElem hk]; rfl⟩
      · intro hn
        have := Nat.eq_of_mul_eq_mul_left hn hl
        have h2 := hc.length
        simp at h2; omega
  · rename_i z n1 n2 n3 n4 hz
    obtain ⟨z', e1, e2, e3⟩ := run_zeroT (P := P) (w := w) (I := I) (ρ := ρ) hz
    have hc := cells_sound e2 (ofValue_not_any e3)
    simp only [Blk.len, flatten_len] at hl
    refine ⟨z', e1, by simp, ?_, ?_⟩
    · have := zeros_rel hc n
      rw [hl] at this
      refine rel_blkIn this (fun k hk => ?_)
      simp only [Blk.len] at hk
      exact ⟨_, List.getElem?_eq_getElem hk, by simp only [Blk.at]; rw [List.getD_eq_getElem?_getD, List.getElem?_eq_getElem hk]; rfl⟩
    · intro hn
      have := Nat.eq_of_mul_eq_mul_left hn hl
      have h2 := hc.length
      simp at h2; omega

theorem info_bytes {e : TypeId} {s : Nat} (hs : sizeT P e = some s) : ∃ i, P.info? e = some i ∧ i.bytes = bytesT P e ∧ i.size = s := by
  unfold sizeT at hs
  cases hi : P.info? e with
  | none => simp [hi] at hs
  | some i => simp only [hi, Option.some.injEq] at hs; exact ⟨i, rfl, by simp [bytesT, hi], hs⟩

theorem makeSlice_sound (R : Rel ρ I w h F) (FR : FRel I w ρ g a) (hF : F idx) (hidx : h[idx]? = some .dead) {t : TypeId} {x y : Operand} {v : V} {h' : Heap} (ho : o.op = .makeSlice t x y)
    (hs : stepH P idx g h o.op = some (true, v, h')) : Did P a o ρ I w h F idx v h' := by
  rw [ho] at hs
  simp only [stepH] at hs
  split at hs <;> try simp only [reduceCtorEq] at hs
  rename_i e lv cv hu hx hy
  split at hs <;> try simp only [reduceCtorEq] at hs
  rename_i l c s hl hc hsz
  split at hs <;> simp at hs
  rename_i b hb
  obtain ⟨⟨⟨⟨⟨h1, h2⟩, h3⟩, h4⟩, h5⟩, rfl, rfl⟩ := hs
  obtain ⟨k1, e1⟩ := asIx_sound (opnd_sound FR hx) hl
  obtain ⟨k2, e2⟩ := asIx_sound (opnd_sound FR hy) hc
  obtain ⟨z', z1, z2, z3, z4⟩ := zeroN_sound (P := P) (w := w) (I := I) (ρ := ρ) hb h5
  obtain ⟨i, hi, hib, his⟩ := info_bytes hsz
  unfold most48 at h3 h4
  have wl : IntKind.i64.wrap l = l := IntWalk.i64_in _ (by omega)
  have wc : IntKind.i64.wrap c = c := IntWalk.i64_in _ (by omega)
  have tl : (decide (c < 0) || decide ((i.bytes : Int) * c > 2 ^ 48)) = false := by
    have : (i.bytes : Int) * c ≤ 2 ^ 48 := by
      rw [hib]
      have h6 : ((c.toNat * bytesT P e : Nat) : Int) ≤ ((2 ^ 48 : Nat) : Int) := by exact_mod_cast h4
      rw [Int.natCast_mul, Int.toNat_of_nonneg (by omega), Int.mul_comm] at h6
      exact_mod_cast h6
    simp; omega
  have hCs : (zerosOf z'.cells (c.toNat * s)).size = c.toNat * s := by simp [zerosOf]
  obtain ⟨m1, m2⟩ := new_sound R hF hidx (w' := { w with heap := w.heap.push (.cells (zerosOf z'.cells (c.toNat * s)) e) }) (C := zerosOf z'.cells (c.toNat * s)) (e := e) (fz := (0, 0)) (b := b) rfl rfl rfl rfl (fun k _ => by simp) (by
    rw [hCs, h5]; exact Nat.le_refl _) z3
  refine ⟨.value (.slice (some ⟨w.heap.size, 0, none⟩) l.toNat c.toNat), _, _, I, _, ?_, .inl rfl, ?_, m1, m2⟩
  · simp only [execOp, ho, e1, e2, Instr.makeSlice, Sem.run_bind, run_underlying hu, Result.andThen_ok, asInt, asIntOf, Sem.run_pure, run_typeInfo w hi, wl, wc]
    have hcond : (decide (c < 0) || decide ((i.bytes : Int) * c > 2 ^ 48) || decide (l < 0) || decide (l > c)) = false := by
      rw [tl]; simp; omega
    rw [hcond]
    simp only [Bool.false_eq_true, if_false, Sem.run_bind, Result.andThen_ok, run_askRoom, run_sizeT hsz]
    split
    · rename_i hz0
      simp only [Sem.run_bind, Sem.run_pure, Result.andThen_ok]
      have e0 : (Array.map (fun i => (#[] : Array Value)[i % (#[] : Array Value).size]!) (Array.range (c.toNat * s))) = zerosOf z'.cells (c.toNat * s) := by rw [hz0]; simp [zerosOf]
      rw [e0]
      rfl
    · simp only [Sem.run_bind, z1, Result.andThen_ok, Sem.run_pure]
      rfl
  · have hle : l.toNat ≤ c.toNat := by omega
    have := VRel.sl (I := I) (w := { w with heap := w.heap.push (.cells (zerosOf z'.cells (c.toNat * s)) e) }) (upd ρ idx ⟨w.heap.size, 0, (zerosOf z'.cells (c.toNat * s)).size⟩) idx 0 s l.toNat (some c.toNat) c.toNat _ (upd_same _ _ _) hle (by rw [hCs]; simp) (by intro n hn; cases hn; rfl)
    simpa using this

theorem buildSlice_sound (R : Rel ρ I w h F) (FR : FRel I w ρ g a) (hF : F idx) (hidx : h[idx]? = some .dead) {t : TypeId} {len : Nat} {parts : Array (Nat × Operand)} {v : V} {h' : Heap} (ho : o.op = .buildSlice t len parts)
    (hs : stepH P idx g h o.op = some (true, v, h')) : Did P a o ρ I w h F idx v h' := by
  rw [ho] at hs
  simp only [stepH] at hs
  split at hs <;> try simp only [reduceCtorEq] at hs
  rename_i e ps hu hps
  split at hs <;> try simp only [reduceCtorEq] at hs
  rename_i s z hsz hz
  split at hs <;> simp at hs
  rename_i cs hcs
  obtain ⟨⟨h1, h2⟩, rfl, rfl⟩ := hs
  obtain ⟨z', e1, e2, e3⟩ := run_zeroT (P := P) (w := w) (I := I) (ρ := ρ) hz
  have hc := cells_sound e2 (ofValue_not_any e3)
  have hzr := zeros_rel hc len
  rw [h2] at hzr
  obtain ⟨m1, m2⟩ := partsV_sound FR hps
  have q1 : (parts.map fun p => (p.1, a.eval p.2)).toList.map (·.1) = parts.toList.map (·.1) := by simp [Function.comp_def]
  have q2 : (parts.map fun p => (p.1, a.eval p.2)).toList.map (·.2) = parts.toList.map (fun p => a.eval p.2) := by simp [Function.comp_def]
  obtain ⟨cs', hc1, hc2⟩ := fillV_sound ps (parts.map fun p => (p.1, a.eval p.2)).toList _ (zerosOf z'.cells (len * s)) cs (by rw [m1, q1]) (by rw [q2]; exact m2) (partsV_not_any hps) hzr hcs
  have hlen : cs.length = len * s := by
    have fl : ∀ (ps : List (Nat × V)) (c d : List V), fillV (fun i => some (i * s, s)) c ps = some d → d.length = c.length := by
      intro ps
      induction ps with
      | nil => intro c d hd; simp only [fillV, Option.some.injEq] at hd; rw [hd]
      | cons p r ih =>
        intro c d hd
        obtain ⟨i, v⟩ := p
        simp only [fillV] at hd
        split at hd
        · rw [ih _ _ hd]
          have sl : ∀ (l : List V) (c : List V) (off : Nat), (setCells c off l).length = c.length := by
            intro l
            induction l with
            | nil => intro c off; rfl
            | cons v r ih => intro c off; simp [setCells, ih]
          exact sl _ _ _
        · cases hd
    rw [fl _ _ _ hcs, flatten_len, h2]
  have hCs : cs'.size = len * s := by have := hc2.length; simp at this; omega
  obtain ⟨k1, k2⟩ := new_sound R hF hidx (w' := { w with heap := w.heap.push (.cells cs' e) }) (C := cs') (e := e) (fz := (0, 0)) (b := mkBlk cs) rfl rfl rfl rfl (fun k _ => by simp) (by
    rw [(mkBlk_at cs).1, hlen, hCs]; exact Nat.le_refl _) (mkBlk_in hc2)
  refine ⟨.value (.slice (some ⟨w.heap.size, 0, none⟩) len len), _, _, I, _, ?_, .inl rfl, ?_, k1, k2⟩
  · simp only [execOp, ho, Instr.buildSlice, Sem.run_bind, run_underlying hu, Result.andThen_ok, run_sizeT hsz, Sem.run_ite]
    rw [if_neg (by omega)]
    have hfill : ∀ zz : Array Value, zz = z'.cells ∨ (zz = #[] ∧ len * s = 0) → ((Array.range (len * s)).map (fun i => zz[i % zz.size]!)) = zerosOf z'.cells (len * s) := by
      intro zz hzz
      rcases hzz with rfl | ⟨rfl, h0⟩
      · rfl
      · rw [h0]; simp [zerosOf]
    split
    · rename_i h0
      simp only [Sem.run_pure, Result.andThen_ok]
      rw [hfill #[] (.inr ⟨rfl, h0⟩), hc1]
      rfl
    · simp only [e1, Result.andThen_ok, Sem.run_pure]
      rw [hfill _ (.inl rfl), hc1]
      rfl
  · have := VRel.sl (I := I) (w := { w with heap := w.heap.push (.cells cs' e) }) (upd ρ idx ⟨w.heap.size, 0, cs'.size⟩) idx 0 s len (some len) len _ (upd_same _ _ _) (Nat.le_refl _) (by rw [hCs]; simp) (by intro n hn; cases hn; rfl)
    simpa using this
end
end Go.Lh
