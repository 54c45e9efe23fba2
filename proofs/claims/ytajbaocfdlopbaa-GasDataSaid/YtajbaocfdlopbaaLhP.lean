/- Soundness of conversions between texts and slices, append, copy. -/
import Derived.Test.YtajbaocfdlopbaaLhO
import Derived.Laws.BytesString
set_option linter.unusedSimpArgs false
set_option linter.unusedVariables false
namespace Go.Lh
section
variable {P : Program} {w : World} {I : Nat → Prop} {ρ : Ren} {h : Heap} {F : Nat → Prop} {idx : Nat} {a : Act} {o : Oper} {g : Fm}

theorem blkIn_b8 (s : ByteArray) : BlkIn I w ρ (.b8 (bytesOf s)) (s.data.toList.map fun b => Value.int .u8 b.toNat) := by
  intro k hk
  simp only [Blk.len, bytesOf_length] at hk
  have hk' : k < s.data.toList.length := by simpa using hk
  refine ⟨.int .u8 (s.data.toList[k]).toNat, by simp [hk], ?_⟩
  have : (bytesOf s).getD k 0 = (s.data.toList[k]).toBitVec := by
    simp [bytesOf, hk]
  simp only [Blk.at, this]
  exact .u8 _ _

theorem BlkIn.append {b : Blk} {C D : List Value} (H : BlkIn I w ρ b C) : BlkIn I w ρ b (C ++ D) := by
  intro k hk
  obtain ⟨c, hc, hr⟩ := H k hk
  refine ⟨c, ?_, hr⟩
  rw [List.getElem?_append_left]
  · exact hc
  · rcases Nat.lt_or_ge k C.length with h0 | h0
    · exact h0
    · rw [List.getElem?_eq_none h0] at hc; cases hc

theorem sl_new {I' : Nat → Prop} {w' : World} {n m s len : Nat} {c : Nat} {cap : Option Nat} (h1 : len ≤ c) (h2 : c * s ≤ m) (h3 : ∀ k, cap = some k → k = c) :
    VRel I' w' (upd ρ idx ⟨n, 0, m⟩) (.sl idx 0 s len cap) (.slice (some ⟨n, 0, none⟩) len c) := by
  have := VRel.sl (I := I') (w := w') (upd ρ idx ⟨n, 0, m⟩) idx 0 s len cap c _ (upd_same _ _ _) h1 (by simpa using h2) h3
  simpa using this

theorem toBytes_sound (R : Rel ρ I w h F) (FR : FRel I w ρ g a) (hF : F idx) (hidx : h[idx]? = some .dead) {src dst : TypeId} {x : Operand} {v : V} {h' : Heap} (ho : o.op = .convert src dst x)
    (hs : stepH P idx g h o.op = some (true, v, h')) (hm : Op.makes P o.op = true) : Did P a o ρ I w h F idx v h' := by
  rw [ho] at hs hm
  simp only [stepH] at hs
  split at hs <;> try simp only [reduceCtorEq] at hs
  · rename_i e s hsrc hdst hx
    split at hs <;> simp at hs
    rename_i he
    obtain ⟨rfl, rfl⟩ := hs
    have r := opnd_sound FR hx
    cases hv : a.eval x <;> rw [hv] at r <;> cases r
    rename_i s
    generalize hcap : (Question.appendCap s.size 0 e).cut (w.tape w.drawn (.appendCap s.size 0 e)) = cap
    have hle : s.size ≤ cap := by rw [← hcap]; simp [Question.cut]
    let C : Array Value := (s.data.map fun b => Value.int .u8 b.toNat) ++ Array.replicate (cap - s.size) (Value.int .u8 0)
    have hC : C.size = cap := by simp [C]; omega
    obtain ⟨m1, m2⟩ := new_sound R hF hidx (w' := { w with heap := w.heap.push (.cells C e (cap, cap + 1)), drawn := w.drawn + 1 }) (C := C) (e := e) (fz := (cap, cap + 1)) (b := .b8 (bytesOf s)) rfl rfl rfl rfl
      (fun k hk => by rw [hC] at hk; simp only; omega) (by rw [hC]; simp only [Blk.len, bytesOf_length]; exact hle) (by
        have := BlkIn.append (D := List.replicate (cap - s.size) (Value.int .u8 0)) (blkIn_b8 (I := I) (w := w) (ρ := ρ) s)
        simpa [C] using this)
    refine ⟨.value (.slice (some ⟨w.heap.size, 0, none⟩) s.size cap), _, _, I, _, ?_, .inl rfl, ?_, m1, m2⟩
    · have hfreeze : World.freeze { w with heap := w.heap.push (.cells C e), drawn := w.drawn + 1 } ⟨w.heap.size, C.size, none⟩ 1 = { w with heap := w.heap.push (.cells C e (cap, cap + 1)), drawn := w.drawn + 1 } := by
        simp only [World.freeze]
        rw [if_neg (by omega)]
        congr 1
        apply Array.ext_getElem?
        intro k
        rw [Array.getElem?_modify, Array.getElem?_push, Array.getElem?_push]
        by_cases hk : k = w.heap.size
        · subst hk; simp [hC]
        · rw [if_neg (fun e => hk e.symm), if_neg hk, if_neg hk]
      have hshape : World.shape? { w with heap := w.heap.push (.cells C e), drawn := w.drawn + 1 } w.heap.size = some (e, C.size) := by
        simp [World.shape?]
      simp only [execOp, ho, hv, convert, Sem.run_bind, run_underlying hsrc, run_underlying hdst, run_underlying he, Result.andThen_ok, Conv.stringToBytes, run_choose, Question.forced, Bool.false_eq_true, if_false, hcap, newRow, run_newObj, Sem.run_pure]
      have hC' : (s.data.map fun b => Value.int .u8 b.toNat) ++ Array.replicate (cap - s.size) (Value.int .u8 0) = C := rfl
      rw [hC']
      simp only [markStringish, Sem.run_bind, run_shape, hshape, Result.andThen_ok, run_freeze, hfreeze]
    · rw [bytesOf_length]
      exact sl_new hle (by rw [hC]; omega) (by intro k hk; cases hk)
  · rename_i hsrc hdst _
    simp [Op.makes, hsrc, hdst] at hm
  · rename_i hsrc hdst _
    simp [Op.makes, hsrc, hdst] at hm

theorem bytesTo_run {b o : Nat} {C : Array Value} {e : TypeId} {fz : Nat × Nat} (hm : w.heap[b]? = some (.cells C e fz)) (xs : List (BitVec 8)) (hc : ∀ k, k < xs.length → C[o + k]? = some (.int .u8 (xs.getD k 0).toNat)) (c : Nat) :
    ∃ s : ByteArray, (Conv.bytesToString (.slice (some ⟨b, o, none⟩) xs.length c)).run P w = .ok (.string s) w ∧ bytesOf s = xs := by
  have hrun := run_loadCells_list (P := P) (w := w) ⟨b, o, none⟩ ((xs.map fun x => (x.toNat : Int)).map (Value.int .u8)) (fun j v hj => by
    rw [add_eq, cell_at hm]
    rw [List.getElem?_map, List.getElem?_map] at hj
    cases hx : xs[j]? with
    | none => simp [hx] at hj
    | some x =>
      obtain ⟨hj1, hj2⟩ := List.getElem?_eq_some_iff.1 hx
      rw [hc j hj1]
      simp [hx] at hj ⊢
      exact hj)
  simp only [List.length_map] at hrun
  refine ⟨_, run_bytesToString w _ _ c _ hrun, ?_⟩
  have fold : ∀ (l : List (BitVec 8)) (s : ByteArray), bytesOf ((l.map fun x => (x.toNat : Int)).foldl (fun r n => r.push (UInt8.ofNat n.toNat)) s) = bytesOf s ++ l := by
    intro l
    induction l with
    | nil => intro s; simp
    | cons x l ih =>
      intro s
      simp only [List.map_cons, List.foldl_cons, Int.toNat_natCast]
      rw [ih]
      simp [bytesOf, UInt8.ofNat]
  rw [fold]
  simp [bytesOf]

theorem toText_sound (R : Rel ρ I w h F) (FR : FRel I w ρ g a) {src dst : TypeId} {x : Operand} {v : V} {h' : Heap} (ho : o.op = .convert src dst x)
    (hs : stepH P idx g h o.op = some (true, v, h')) (hm : Op.makes P o.op = false) : Did P a o ρ I w h F idx v h' := by
  rw [ho] at hs hm
  simp only [stepH] at hs
  split at hs <;> try simp only [reduceCtorEq] at hs
  · rename_i hsrc hdst _
    simp [Op.makes, hsrc, hdst] at hm
  · rename_i e i q s len cap hsrc hdst hx
    split at hs <;> try simp only [reduceCtorEq] at hs
    rename_i xs he hb
    split at hs <;> simp at hs
    rename_i hs1
    obtain ⟨h1, rfl, rfl⟩ := hs
    have r := opnd_sound FR hx
    cases hv : a.eval x <;> rw [hv] at r <;> cases r
    · rename_i c l hl k1 k2 k3
      obtain ⟨C, e', fz, m1, m2, m3, m4, m5, m6⟩ := live_blk R hb rfl hl
      have hlen : ((xs.drop q).take len).length = len := by simp; omega
      obtain ⟨t, t1, t2⟩ := bytesTo_run (P := P) (o := l.d + q) m1 ((xs.drop q).take len) (fun k hk => by
        rw [hlen] at hk
        obtain ⟨cc, hc, hr⟩ := m4 (q + k) (by simp only [Blk.len]; omega)
        rw [List.getElem?_drop, Array.getElem?_toList] at hc
        rw [Nat.add_assoc, hc]
        simp only [Blk.at] at hr
        have e1 : ((xs.drop q).take len).getD k 0 = xs.getD (q + k) 0 := by simp [hk]
        rw [e1]
        cases hr; rfl) c
      rw [hlen] at t1
      refine Did.quiet R (v' := .string t) ?_ (by rw [← t2]; exact .str _ _)
      simp only [execOp, ho, hv, Sem.run_bind, run_convert_bytes_string w src dst e _ _ _ hsrc he hdst, t1, Result.andThen_ok, Sem.run_pure]
    · rename_i y l hl k3
      refine Did.quiet R (v' := .string ByteArray.empty) ?_ (by simpa [bytesOf] using VRel.str (I := I) (w := w) ρ ByteArray.empty)
      have hl0 : (loadCells ⟨l.b, y, none⟩ 0).run P w = .ok (([] : List Int).map (Value.int .u8)).toArray w := by
        have := run_loadCells_list (P := P) (w := w) ⟨l.b, y, none⟩ [] (by simp)
        simpa using this
      have := run_bytesToString w ⟨l.b, y, none⟩ 0 0 [] hl0
      simp only [execOp, ho, hv, Sem.run_bind, run_convert_bytes_string w src dst e _ _ _ hsrc he hdst, this, Result.andThen_ok, Sem.run_pure]
      rfl
  · rename_i e hsrc hdst hx
    split at hs <;> simp at hs
    rename_i he
    obtain ⟨rfl, rfl⟩ := hs
    have r := opnd_sound FR hx
    cases hv : a.eval x <;> rw [hv] at r <;> cases r
    refine Did.quiet R (v' := .string ByteArray.empty) ?_ (by simpa [bytesOf] using VRel.str (I := I) (w := w) ρ ByteArray.empty)
    simp only [execOp, ho, hv, Sem.run_bind, run_convert_bytes_string w src dst e _ _ _ hsrc he hdst, Conv.bytesToString, Result.andThen_ok, Sem.run_pure]

/-! ### append, copy -/

theorem srcB_sound (R : Rel ρ I w h F) {s : Nat} {x : V} {x' : Value} {n : Nat} {c : Blk} (hx : VRel I w ρ x x') (hs : srcB h s x = some (true, n, c)) :
    (Builtin.lenOf x').run P w = .ok n w ∧ c.len = n * s ∧ c ≠ .dead ∧
    ∀ m, m ≤ n → ∃ C : Array Value, (∀ w₁ : World, w₁.heap = w.heap → (Builtin.firstCells s m x').run P w₁ = .ok C w₁) ∧ C.size = m * s ∧ BlkIn I w ρ (c.cut 0 (m * s)) C.toList := by
  unfold srcB at hs
  split at hs <;> try simp only [reduceCtorEq] at hs
  · rename_i t
    split at hs <;> simp at hs
    rename_i hs1; subst hs1
    obtain ⟨rfl, rfl⟩ := hs
    cases hx with
    | str _ t =>
      refine ⟨by simp [Builtin.lenOf, bytesOf_length], by simp [Blk.len], by simp, fun m hm => ?_⟩
      rw [bytesOf_length] at hm
      refine ⟨(t.extract 0 m).data.map fun b => Value.int .u8 b.toNat, fun _ _ => by simp [Builtin.firstCells], ?_, ?_⟩
      · simp [ByteArray.data_extract]; omega
      · have := blkIn_b8 (I := I) (w := w) (ρ := ρ) (t.extract 0 m)
        rw [bytesOf_extract _ _ _ hm] at this
        simpa [Blk.cut] using this
  · simp at hs
    obtain ⟨rfl, rfl⟩ := hs
    cases hx
    refine ⟨rfl, by simp [Blk.len], by simp, fun m hm => ?_⟩
    have hm0 : m = 0 := by omega
    subst hm0
    exact ⟨#[], fun _ _ => by simp [Builtin.firstCells], by simp, fun k hk => by simp [Blk.cut, Blk.len] at hk⟩
  · rename_i j q s' len cap
    split at hs <;> try simp only [reduceCtorEq] at hs
    rename_i hss; subst hss
    split at hs <;> try simp only [reduceCtorEq] at hs
    rename_i b hb
    split at hs <;> simp at hs
    rename_i hd
    obtain ⟨h1, rfl, rfl⟩ := hs
    have hne : b ≠ .dead := by rintro rfl; simp [isDead] at hd
    obtain ⟨c1, c2, c3⟩ := Blk.cut_at h1 hne
    refine ⟨by cases hx <;> rfl, c1, c2, fun m hm => ?_⟩
    have hms : m * s' ≤ len * s' := Nat.mul_le_mul_right _ hm
    cases hx with
    | sl _ _ _ _ _ _ cc l hl k1 k2 k3 =>
      obtain ⟨C, e', fz, m1, m2, m3, m4, m5, m6⟩ := live_blk R hb (by simpa using hd) hl
      refine ⟨((C.toList.drop (l.d + q)).take (m * s')).toArray, ?_, by simp; omega, ?_⟩
      · intro w₁ hw₁
        have m1 : w₁.heap[l.b]? = some (.cells C e' fz) := by rw [hw₁]; exact m1
        have hlen : ((C.toList.drop (l.d + q)).take (m * s')).length = m * s' := by simp; omega
        have hrun := run_loadCells_list (P := P) (w := w₁) ⟨l.b, l.d + q, none⟩ ((C.toList.drop (l.d + q)).take (m * s')) (fun j c hj => by
          rw [add_eq, cell_at m1]
          rw [List.getElem?_take] at hj
          split at hj
          · rw [List.getElem?_drop, Array.getElem?_toList] at hj; exact hj
          · cases hj)
        rw [hlen] at hrun
        simpa [Builtin.firstCells] using hrun
      · intro k hk
        obtain ⟨d1, d2, d3⟩ := Blk.cut_at (b := b.cut q (len * s')) (o := 0) (n := m * s') (by omega) c2
        rw [d1] at hk
        rw [d3 k hk, Nat.zero_add, c3 k (by omega)]
        obtain ⟨cc, hc, hr⟩ := m4 (q + k) (by omega)
        rw [List.getElem?_drop, Array.getElem?_toList] at hc
        refine ⟨cc, ?_, hr⟩
        simp only [List.getElem?_take, hk, if_true, List.getElem?_drop, Array.getElem?_toList]
        rw [Nat.add_assoc]; exact hc
    | slz _ _ _ _ _ y l hl k3 =>
      have hm0 : m = 0 := by omega
      subst hm0
      refine ⟨#[], ?_, by simp, fun k hk => ?_⟩
      · intro w₁ _
        have := run_loadCells_list (P := P) (w := w₁) ⟨l.b, y, none⟩ [] (by simp)
        simpa [Builtin.firstCells] using this
      · obtain ⟨d1, _, _⟩ := Blk.cut_at (b := b.cut q (0 * s')) (o := 0) (n := 0 * s') (by omega) c2
        rw [d1] at hk; omega

theorem growBy_le (newLen : Nat) : ∀ (r c : Nat), c ≤ 2 * newLen + 1024 → Builtin.growBy newLen r c ≤ 2 * newLen + 1024
  | 0, c, h => by simpa [Builtin.growBy] using h
  | r + 1, c, h => by
    simp only [Builtin.growBy]
    split
    · exact h
    · exact growBy_le newLen r _ (by omega)

theorem nextslicecap_le (n c : Nat) (h : c ≤ n) : Builtin.nextslicecap n c ≤ 2 * n + 1024 := by
  unfold Builtin.nextslicecap
  split
  · omega
  · split
    · omega
    · exact growBy_le n 4 c (by omega)

theorem room_ok {e : TypeId} {s need : Nat} (h : appRoom P e s need = true) {c : Nat} (hc : c ≤ need) (zeros : Bool) {i : TypeInfo} (hi : P.info? e = some i) :
    ¬ ((need : Int) > IntKind.i64.max ∧ (zeros = true ∨ i.bytes = 0)) ∧ ¬ (Builtin.nextslicecap need c * i.bytes > 2 ^ 48) := by
  simp only [appRoom, Bool.and_eq_true, decide_eq_true_eq] at h
  have hb : bytesT P e = i.bytes := by simp [bytesT, hi]
  rw [hb] at h
  unfold most46 most48 at h
  constructor
  · rintro ⟨h1, _⟩
    have : IntKind.i64.max = 9223372036854775807 := by simp [IntKind.max, IntKind.signed, IntKind.bits]
    omega
  · have h1 := nextslicecap_le need c hc
    have h2 : Builtin.nextslicecap need c * i.bytes ≤ (2 * need + 1024) * i.bytes := Nat.mul_le_mul_right _ h1
    omega
end
end Go.Lh
