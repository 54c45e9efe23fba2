/- One operation that does not touch the local heap is sound: all of them. -/
import Derived.Test.YtajbaocfdlopbaaLhI
set_option linter.unusedSimpArgs false
set_option linter.unusedVariables false
namespace Go.Lh
section
variable {P : Program} {w : World} {I : Nat → Prop} {ρ : Ren}

theorem VsRel.setCells {xs : List V} {xs' : List Value} (h : VsRel I w ρ xs xs') : ∀ (l : List V) (l' : List Value) (off : Nat), VsRel I w ρ l l' →
    VsRel I w ρ (setCells xs off l) (((l'.zipIdx).foldl (fun cs (p : Value × Nat) => cs.setIfInBounds (off + p.2) p.1) (⟨xs'⟩ : Array Value)).toList) := by
  have gen : ∀ (l : List V) (l' : List Value) (xs : List V) (a : Array Value) (off k : Nat), VsRel I w ρ l l' → VsRel I w ρ xs a.toList →
      VsRel I w ρ (Go.Lh.setCells xs (off + k) l) (((l'.zipIdx k).foldl (fun cs (p : Value × Nat) => cs.setIfInBounds (off + p.2) p.1) a).toList) := by
    intro l
    induction l with
    | nil => intro l' xs a off k hl hx; cases hl; simpa [Go.Lh.setCells] using hx
    | cons v r ih =>
      intro l' xs a off k hl hx
      cases hl with
      | cons _ _ v' _ r' hv hr =>
        simp only [Go.Lh.setCells, List.zipIdx_cons, List.foldl_cons]
        have := ih r' (xs.set (off + k) v) (a.setIfInBounds (off + k) v') off (k + 1) hr (by rw [Array.toList_setIfInBounds]; exact hx.set _ hv)
        simpa [Nat.add_assoc] using this
  intro l l' off hl
  simpa using gen l l' xs ⟨xs'⟩ off 0 hl h

theorem cells_sound {v : V} {v' : Value} (h : VRel I w ρ v v') (hn : v ≠ .any) : VsRel I w ρ v.cells v'.cells.toList := by
  cases h
  case any => exact absurd rfl hn
  case agg h => exact h
  all_goals exact .cons _ _ _ _ _ (by first | exact .u8 _ _ | exact .u16 _ _ | exact .u32 _ _ | exact .u64 _ _ | exact .bool _ _ | exact .str _ _ | exact .nilPtr _ | exact .nilSl _ | exact .nilFn _ | exact .nilIface _ | exact .int _ _ _ ‹_› | exact .ptr _ _ _ _ ‹_› | exact .sl _ _ _ _ _ _ _ _ ‹_› ‹_› ‹_› ‹_› | exact .slz _ _ _ _ _ _ _ ‹_› ‹_› | exact .isl _ _ _ _ _ _ _ _ ‹_› ‹_› ‹_› ‹_› | exact .iptr _ _ _ _ _ _ _ _ _ ‹_› ‹_› ‹_› | exact .fn _ _ _ _ _ _ ‹_› ‹_› | exact .tup _ _ _ ‹_› | exact .iface _ _ _ _ ‹_›) (.nil _)

theorem fillV_sound {pl : Nat → Option (Nat × Nat)} : ∀ (ps : List (Nat × V)) (ps' : List (Nat × Value)) (cs : List V) (cs' : Array Value) (z : List V),
    ps.map (·.1) = ps'.map (·.1) → VsRel I w ρ (ps.map (·.2)) (ps'.map (·.2)) → (∀ p ∈ ps, p.2 ≠ .any) → VsRel I w ρ cs cs'.toList → fillV pl cs ps = some z →
    ∃ z', Instr.fill pl cs' ps' = some z' ∧ VsRel I w ρ z z'.toList
  | [], ps', cs, cs', z, h1, _, _, hc, h => by
    cases ps' with
    | nil => simp only [fillV, Option.some.injEq] at h; subst h; exact ⟨cs', rfl, hc⟩
    | cons => simp at h1
  | (i, v) :: r, ps', cs, cs', z, h1, h2, h3, hc, h => by
    cases ps' with
    | nil => simp at h1
    | cons p' r' =>
      obtain ⟨i', v'⟩ := p'
      simp only [List.map_cons, List.cons.injEq] at h1
      obtain ⟨rfl, h1⟩ := h1
      cases h2 with
      | cons _ _ _ _ _ hv hr =>
        simp only [fillV] at h
        cases hp : pl i with
        | none => simp [hp] at h
        | some q =>
          obtain ⟨off, size⟩ := q
          simp only [hp] at h
          split at h
          · rename_i hb
            simp only [Bool.and_eq_true, beq_iff] at hb
            obtain ⟨b1, b2⟩ := hb
            have b2 := Nat.le_of_ble_eq_true b2
            have hvc := cells_sound hv (h3 _ (by simp))
            have hlen : v.cells.length = v'.cells.size := by simpa using hvc.length
            have hcl : cs.length = cs'.size := by simpa using hc.length
            obtain ⟨z', hz1, hz2⟩ := fillV_sound r r' _ (v'.cells.zipIdx.foldl (fun cs (p : Value × Nat) => cs.setIfInBounds (off + p.2) p.1) cs') z h1 hr (fun p hp => h3 p (by simp [hp])) (by
              have hs := VsRel.setCells (xs' := cs'.toList) hc v.cells v'.cells.toList off hvc
              rw [← Array.foldl_toList, Array.toList_zipIdx]
              exact hs) h
            refine ⟨z', ?_, hz2⟩
            simp only [Instr.fill, hp]
            rw [if_neg]
            · exact hz1
            · simp only [ne_eq, Bool.or_eq_true, decide_eq_true_eq, not_or, Decidable.not_not]
              omega
          · cases h

theorem run_zeroT {t : TypeId} {z : V} (h : zeroT P t = some z) : ∃ z', (zeroValue t).run P w = .ok z' w ∧ VRel I w ρ z z' ∧ ofValue z' = some z := by
  unfold zeroT at h
  cases hi : P.info? t with
  | none => simp [hi] at h
  | some i =>
    simp only [hi] at h
    cases hz : i.zero with
    | none => simp [hz] at h
    | some z' =>
      simp only [hz] at h
      exact ⟨z', by simp [zeroValue, run_typeInfo w hi, hz], ofValue_sound h, h⟩

theorem ofValue_not_any : ∀ {x : Value} {v : V}, ofValue x = some v → v ≠ .any := by
  intro x v h e
  subst e
  cases x with
  | int k n => cases k <;> simp [ofValue, ofIntC] at h
  | pointer a => cases a <;> simp [ofValue] at h
  | slice a b c => cases a <;> cases b <;> cases c <;> simp [ofValue] at h
  | iface t y => rw [ofValue] at h; split at h <;> simp at h
  | agg a => obtain ⟨l⟩ := a; rw [ofValue] at h; split at h <;> simp at h
  | tuple a => obtain ⟨l⟩ := a; rw [ofValue] at h; split at h <;> simp at h
  | _ => simp [ofValue] at h

theorem partsV_not_any {g : Fm} : ∀ {x : List (Nat × Operand)} {v : List (Nat × V)}, partsV g x = some v → ∀ p ∈ v, p.2 ≠ .any
  | [], v, h => by simp [partsV] at h; subst h; simp
  | (i, x) :: r, v, h => by
    simp only [partsV] at h
    split at h <;> simp at h
    rename_i y z hna hy hz; subst h
    intro p hp
    rcases List.mem_cons.1 hp with rfl | hp
    · rintro e; exact hna e
    · exact partsV_not_any hz p hp

theorem sizes_run {fs : List Field} (h : ∀ f ∈ fs, ∃ n, sizeT P f.type = some n) :
    (fs.mapM (fun f => (do pure (f.offset, ← sizeOf f.type) : Sem (Nat × Nat)))).run P w = .ok (fs.map fun f => (f.offset, (sizeT P f.type).getD 0)) w := by
  induction fs with
  | nil => simp
  | cons f fs ih =>
    obtain ⟨n, hn⟩ := h f (by simp)
    simp only [List.mapM_cons, Sem.run_bind, run_sizeT hn, Result.andThen_ok, Sem.run_pure, ih (fun g hg => h g (by simp [hg])), List.map_cons, hn, Option.getD_some]

theorem build_sound {g : Fm} {a : Act} (F : FRel I w ρ g a) {t : TypeId} {parts : Array (Nat × Operand)} {ps : List (Nat × V)} {z : V} {pl : Nat → Option (Nat × Nat)} {cs : List V}
    (h1 : partsV g parts.toList = some ps) (h2 : zeroT P t = some z) (h3 : placeT P t = some pl) (h4 : fillV pl z.cells ps = some cs) :
    ∃ v', (Instr.build t (parts.map fun p => (p.1, a.eval p.2))).run P w = .ok v' w ∧ VRel I w ρ (.agg cs) v' := by
  obtain ⟨z', hz, hzr, hzo⟩ := run_zeroT (P := P) (w := w) (I := I) (ρ := ρ) h2
  obtain ⟨m1, m2⟩ := partsV_sound F h1
  have hzc := cells_sound hzr (ofValue_not_any hzo)
  have e1 : (parts.map fun p => (p.1, a.eval p.2)).toList.map (·.1) = parts.toList.map (·.1) := by simp [Function.comp_def]
  have e2 : (parts.map fun p => (p.1, a.eval p.2)).toList.map (·.2) = parts.toList.map (fun p => a.eval p.2) := by simp [Function.comp_def]
  obtain ⟨cs', hc1, hc2⟩ := fillV_sound ps (parts.map fun p => (p.1, a.eval p.2)).toList z.cells z'.cells cs (by rw [m1, e1]) (by rw [e2]; exact m2) (partsV_not_any h1) hzc h4
  refine ⟨.agg cs', ?_, .agg _ _ cs'.toList hc2⟩
  unfold placeT at h3
  split at h3
  · rename_i fs hu
    split at h3
    · rename_i hall
      injection h3 with h3; subst h3
      simp only [Instr.build, Sem.run_bind, hz, run_underlying hu, Result.andThen_ok]
      have hm : (fs.mapM (fun f => (do pure (f.offset, ← sizeOf f.type) : Sem (Nat × Nat)))).run P w = .ok (fs.map fun f => (f.offset, (sizeT P f.type).getD 0)) w := by
        have e0 : fs.mapM (fun f => (do pure (f.offset, ← sizeOf f.type) : Sem (Nat × Nat))) = List.toArray <$> fs.toList.mapM (fun f => (do pure (f.offset, ← sizeOf f.type) : Sem (Nat × Nat))) := by
          conv => lhs; rw [← Array.toArray_toList (xs := fs), List.mapM_toArray]
        rw [e0]
        simp only [Sem.run_map]
        rw [sizes_run (fun f hf => ?_)]
        · simp only [Result.andThen_ok, Result.ok.injEq, and_true]
          apply Array.ext'; simp
        · have := List.all_eq_true.1 hall f hf
          exact Option.isSome_iff_exists.1 this
      rw [hm]
      simp only [Result.andThen_ok]
      have e3 : (fun (i : Nat) => (fs.map fun (f : Field) => (f.offset, (sizeT P f.type).getD 0))[i]?) = fieldPl P fs := by
        funext i
        rw [Array.getElem?_map]
        unfold fieldPl
        cases hf : fs[i]? with
        | none => rfl
        | some f =>
          have hmem : f ∈ fs.toList := by
            have := Array.mem_of_getElem? hf
            simpa using this
          have := List.all_eq_true.1 hall f hmem
          obtain ⟨n, hn⟩ := Option.isSome_iff_exists.1 this
          simp [hn]
      rw [e3, hc1]
      rfl
    · cases h3
  · rename_i len e hu
    cases hs : sizeT P e with
    | none => simp [hs] at h3
    | some n =>
      simp only [hs, Option.some.injEq] at h3; subst h3
      simp only [Instr.build, Sem.run_bind, hz, run_underlying hu, Result.andThen_ok, run_sizeT hs, hc1]
      rfl
  · cases h3

theorem stepT_sound {g : Fm} {a : Act} (F : FRel I w ρ g a) {o : Oper} {v : V} (h : stepT P g o.op = some (true, v)) : ∃ v', (execOp a.eval o).run P w = .ok (.value v') w ∧ VRel I w ρ v v' := by
  cases ho : o.op <;> rw [ho] at h <;> simp only [stepT, reduceCtorEq] at h
  case move x =>
    cases hx : opnd g x <;> simp [hx] at h
    subst h; exact ⟨_, by simp [execOp, ho], opnd_sound F hx⟩
  case assign x =>
    cases hx : opnd g x <;> simp [hx] at h
    subst h; exact ⟨_, by simp [execOp, ho], opnd_sound F hx⟩
  case pick c x y =>
    split at h <;> try simp only [reduceCtorEq] at h
    rename_i t hc
    have hcr := opnd_sound F hc
    cases hcc : a.eval c <;> rw [hcc] at hcr <;> cases hcr
    split at h <;> simp at h
    rename_i z hz
    subst h
    refine ⟨if t = true then a.eval x else a.eval y, by simp [execOp, ho, hcc, asBool], ?_⟩
    unfold pickV at hz
    split at hz
    · rename_i p q hp hq
      injection hz with hz; subst hz
      have r1 := opnd_sound F hp
      have r2 := opnd_sound F hq
      cases t
      · simpa using r2
      · simpa using r1
    · cases t
      · simp at hz ⊢; exact opnd_sound F hz
      · simp at hz ⊢; exact opnd_sound F hz
  case nilCheck x =>
    split at h <;> simp at h
    · rename_i i q hx; subst h
      have r := opnd_sound F hx
      cases hv : a.eval x <;> rw [hv] at r <;> cases r
      rename_i l hl
      exact ⟨.pointer (some ⟨l.b, l.d + q, none⟩), by simp [execOp, ho, hv], .ptr _ _ _ _ hl⟩
    · rename_i s n f i j hx; subst h
      have r := opnd_sound F hx
      cases hv : a.eval x <;> rw [hv] at r <;> cases r
      rename_i b o' g' hI hw hv'
      exact ⟨.pointer (some ⟨b, o' + i * s + j, none⟩), by simp [execOp, ho, hv], .iptr _ _ _ _ _ _ _ _ g' hI hw hv'⟩
    · rename_i f p q hx; subst h
      have r := opnd_sound F hx
      cases hv : a.eval x <;> rw [hv] at r <;> cases r
      rename_i p' q' hp hq
      exact ⟨.func (.func f) ⟨p'⟩ ⟨q'⟩, by simp [execOp, ho, hv], .fn _ _ _ _ _ _ hp hq⟩
  case binOp op t x y _ =>
    split at h
    · rename_i p q hx hy
      obtain ⟨v', h1, h2⟩ := binOpV_sound (P := P) x y (opnd_sound F hx) (opnd_sound F hy) h
      exact ⟨v', by simp only [execOp, ho, Sem.run_bind] at h1 ⊢; simp [h1], h2⟩
    · cases h
  case unOp op t x =>
    split at h <;> try simp only [reduceCtorEq] at h
    rename_i p hx
    split at h <;> simp at h
    rename_i z hz; subst h
    obtain ⟨v', h1, h2⟩ := unOpV_sound (P := P) (opnd_sound F hx) hz
    exact ⟨v', by simp [execOp, ho, h1], h2⟩
  case convert src dst x =>
    split at h <;> try simp only [reduceCtorEq] at h
    rename_i p hx
    split at h <;> simp at h
    rename_i z hz; subst h
    obtain ⟨v', h1, h2⟩ := convT_sound (P := P) (opnd_sound F hx) hz
    exact ⟨v', by simp [execOp, ho, h1], h2⟩
  case sliceToArrayPointer arr x =>
    split at h <;> simp at h
    rename_i n e i q s len cap hu hx
    obtain ⟨⟨h1, h2⟩, rfl⟩ := h
    have r := opnd_sound F hx
    cases hv : a.eval x <;> rw [hv] at r <;> cases r
    · rename_i l hl _ _ _
      exact ⟨.pointer (some ⟨l.b, l.d + q, none⟩), by simp [execOp, ho, hv, Instr.arrayAt, run_underlying hu, show ¬ len < n from by omega], .ptr _ _ _ _ hl⟩
    · omega
  case makeInterface t x =>
    split at h <;> simp at h
    rename_i d u hne hu hx; subst h
    refine ⟨.iface t (a.eval x), ?_, .iface _ _ _ _ (opnd_sound F hx)⟩
    simp only [execOp, ho, Instr.makeInterface, Sem.run_bind, run_underlying hu, Result.andThen_ok]
    cases d <;> first | rfl | exact (hne _ hu).elim
  case makeFunc fn first cap =>
    cases fn <;> simp only [reduceCtorEq] at h
    rename_i f
    split at h <;> simp at h
    rename_i p q h1 h2; subst h
    have e1 : first.map a.eval = ⟨first.toList.map a.eval⟩ := by apply Array.ext'; simp
    have e2 : cap.map a.eval = ⟨cap.toList.map a.eval⟩ := by apply Array.ext'; simp
    refine ⟨.func (.func f) (first.map a.eval) (cap.map a.eval), by simp [execOp, ho, Instr.makeFunc], ?_⟩
    rw [e1, e2]
    exact .fn _ f p q _ _ (opnds_sound F h1) (opnds_sound F h2)
  case slice t x lo hi mx =>
    cases mx <;> simp only [reduceCtorEq] at h
    split at h
    · rename_i v0 l u hx hl hu
      obtain ⟨v', h1, h2⟩ := sliceT_sound (P := P) (lo := lo.map a.eval) (hi := hi.map a.eval) (opnd_sound F hx) (by
        cases lo with
        | none => simp at hl; subst hl; trivial
        | some y =>
          simp only at hl
          cases hq : optIx g (some y) 0 <;> simp [hq] at hl
          subst hl; exact optIx_sound F hq) (by
        cases hi with
        | none => simp at hu; subst hu; trivial
        | some y =>
          simp only at hu
          cases hq : optIx g (some y) 0 <;> simp [hq] at hu
          subst hu; exact optIx_sound F hq) h
      refine ⟨v', ?_, h2⟩
      have hna : ∀ n e, P.underlying t ≠ some (.array n e) := by
        intro n e hc
        unfold sliceT at h
        split at h <;> simp_all
      obtain ⟨d, hd⟩ : ∃ d, P.underlying t = some d := by
        cases hc : P.underlying t with
        | none => unfold sliceT at h; simp [hc] at h
        | some d => exact ⟨d, rfl⟩
      simp only [execOp, ho, Instr.sliceAt, Sem.run_bind, run_underlying hd, Result.andThen_ok]
      cases d <;> first | exact (hna _ _ hd).elim | (simp only [Option.map_none]; rw [h1]; rfl)
    · cases h
  case fieldAddr t x n =>
    split at h <;> try simp only [reduceCtorEq] at h
    rename_i fs v0 hu hx
    split at h <;> try simp only [reduceCtorEq] at h
    rename_i f hf
    have r := opnd_sound F hx
    split at h <;> simp at h
    · rename_i m i q hm hs; subst h
      cases hv : a.eval x <;> rw [hv] at r <;> cases r
      rename_i l hl
      refine ⟨.pointer (some ⟨l.b, l.d + (q + f.offset), none⟩), ?_, .ptr _ _ _ _ hl⟩
      simp [execOp, ho, hv, Instr.fieldAt, run_underlying hu, hf, Instr.sureAddr, fieldPlace, run_sizeT hs, add_eq, Nat.add_assoc]
      exact fun e => (hm e).elim
    · rename_i m s len f' i j hm hs; subst h
      cases hv : a.eval x <;> rw [hv] at r <;> cases r
      rename_i b o' g' hI hw hv'
      refine ⟨.pointer (some ⟨b, o' + i * s + (j + f.offset), none⟩), ?_, .iptr _ _ _ _ _ _ _ _ g' hI hw hv'⟩
      simp [execOp, ho, hv, Instr.fieldAt, run_underlying hu, hf, Instr.sureAddr, fieldPlace, run_sizeT hs, add_eq, Nat.add_assoc]
      exact fun e => (hm e).elim
  case field t x n =>
    split at h <;> try simp only [reduceCtorEq] at h
    rename_i fs cs hu hx
    split at h <;> try simp only [reduceCtorEq] at h
    rename_i f hf
    split at h <;> simp at h
    rename_i z hz; subst h
    have r := opnd_sound F hx
    cases hv : a.eval x <;> rw [hv] at r <;> cases r
    rename_i cs' hcs
    obtain ⟨v', h1, h2⟩ := partV_sound (P := P) hcs hz
    exact ⟨v', by simp [execOp, ho, hv, Instr.field, run_underlying hu, hf, asAgg, h1], h2⟩
  case indexAddr t x ix =>
    split at h <;> try simp only [reduceCtorEq] at h
    · rename_i len e i q iv hu hx hix
      split at h <;> simp at h
      rename_i n s hn hs
      obtain ⟨⟨h1, h2⟩, rfl⟩ := h
      have r := opnd_sound F hx
      obtain ⟨k, hk⟩ := asIx_sound (opnd_sound F hix) hn
      cases hv : a.eval x <;> rw [hv] at r <;> cases r
      rename_i l hl
      refine ⟨.pointer (some ⟨l.b, l.d + (q + n.toNat * s), none⟩), ?_, .ptr _ _ _ _ hl⟩
      simp [execOp, ho, hv, hk, Instr.indexAt, asIntOf, run_underlying hu, Instr.sureAddr, h1, h2, run_sizeT hs, add_eq, Nat.add_assoc]
    · rename_i e i q s len cap iv hu hx hix
      split at h <;> try simp only [reduceCtorEq] at h
      rename_i n s' hn hs
      split at h <;> simp at h
      rename_i hss; subst hss
      obtain ⟨⟨h1, h2⟩, rfl⟩ := h
      have r := opnd_sound F hx
      obtain ⟨k, hk⟩ := asIx_sound (opnd_sound F hix) hn
      cases hv : a.eval x <;> rw [hv] at r <;> cases r
      · rename_i l hl k1 k2 k3
        refine ⟨.pointer (some ⟨l.b, l.d + (q + n.toNat * s'), none⟩), ?_, .ptr _ _ _ _ hl⟩
        simp [execOp, ho, hv, hk, Instr.indexAt, asIntOf, run_underlying hu, h1, h2, run_sizeT hs, add_eq, Nat.add_assoc]
      · simp at h2; omega
    · rename_i e s len f iv hu hx hix
      split at h <;> try simp only [reduceCtorEq] at h
      rename_i n s' hn hs
      split at h <;> simp at h
      rename_i hss; subst hss
      obtain ⟨⟨h1, h2⟩, rfl⟩ := h
      have r := opnd_sound F hx
      obtain ⟨k, hk⟩ := asIx_sound (opnd_sound F hix) hn
      cases hv : a.eval x <;> rw [hv] at r <;> cases r
      rename_i cc b o' g' hI hw hv' hc
      refine ⟨.pointer (some ⟨b, o' + n.toNat * s' + 0, none⟩), ?_, .iptr _ _ _ _ _ _ _ _ g' hI hw hv'⟩
      simp [execOp, ho, hv, hk, Instr.indexAt, asIntOf, run_underlying hu, h1, h2, run_sizeT hs, add_eq]
  case index t x ix =>
    split at h <;> try simp only [reduceCtorEq] at h
    · rename_i s iv hu hx hix
      split at h <;> simp at h
      rename_i n hn
      obtain ⟨⟨h1, h2⟩, rfl⟩ := h
      have r := opnd_sound F hx
      obtain ⟨k, hk⟩ := asIx_sound (opnd_sound F hix) hn
      cases hv : a.eval x <;> rw [hv] at r <;> cases r
      rename_i s
      rw [bytesOf_length] at h2
      have hlt : n.toNat < s.size := by omega
      refine ⟨.int .u8 (s[n.toNat]'hlt).toNat, ?_, ?_⟩
      · simp [execOp, ho, hv, hk, Instr.index, asIntOf, run_underlying hu, h1, hlt]
      · have : (bytesOf s)[n.toNat]?.getD 0#8 = (s[n.toNat]'hlt).toBitVec := by rw [bytesOf_get, getElem?_pos s n.toNat hlt]; rfl
        rw [this]; exact .u8 _ _
    · rename_i len e cs iv hu hx hix
      split at h <;> try simp only [reduceCtorEq] at h
      rename_i n s hn hs
      split at h <;> simp at h
      rename_i z hz
      obtain ⟨⟨h1, h2⟩, rfl⟩ := h
      have r := opnd_sound F hx
      obtain ⟨k, hk⟩ := asIx_sound (opnd_sound F hix) hn
      cases hv : a.eval x <;> rw [hv] at r <;> cases r
      rename_i cs' hcs
      obtain ⟨v', e1, e2⟩ := partV_sound (P := P) hcs hz
      exact ⟨v', by simp [execOp, ho, hv, hk, Instr.index, asIntOf, run_underlying hu, h1, h2, run_sizeT hs, e1], e2⟩
  case extract x n =>
    split at h <;> try simp only [reduceCtorEq] at h
    rename_i vs hx
    split at h <;> simp at h
    rename_i z hz; subst h
    have r := opnd_sound F hx
    cases hv : a.eval x <;> rw [hv] at r <;> cases r
    rename_i vs' hvs
    obtain ⟨z', e1, e2⟩ := hvs.get _ _ hz
    refine ⟨z', ?_, e2⟩
    have : (⟨vs'⟩ : Array Value)[n]? = some z' := by simpa using e1
    simp [execOp, ho, hv, Instr.extract, this]
  case build t parts =>
    split at h <;> try simp only [reduceCtorEq] at h
    rename_i ps z pl h1 h2 h3
    split at h <;> simp at h
    rename_i cs h4; subst h
    obtain ⟨v', e1, e2⟩ := build_sound (P := P) F h1 h2 h3 h4
    exact ⟨v', by simp only [execOp, ho, Sem.run_bind]; rw [e1]; rfl, e2⟩
  case typeAssert x xt asserted ok =>
    cases ok <;> simp only [reduceCtorEq] at h
    split at h <;> simp at h
    · rename_i d z hne hu hx hz; subst h
      have r := opnd_sound F hx
      obtain ⟨z', e1, e2, _⟩ := run_zeroT (P := P) (w := w) (I := I) (ρ := ρ) hz
      cases hv : a.eval x <;> rw [hv] at r <;> cases r
      refine ⟨.tuple #[z', .bool false], ?_, .tup _ _ _ (.cons _ _ _ _ _ e2 (.cons _ _ _ _ _ (.bool _ _) (.nil _)))⟩
      simp only [execOp, ho, hv, Instr.typeAssert, Sem.run_bind, run_underlying hu, Result.andThen_ok]
      cases d <;> first | exact (hne _ hu).elim | simp [e1]
    · rename_i d t v0 z hne hu hx hz; subst h
      have r := opnd_sound F hx
      obtain ⟨z', e1, e2, _⟩ := run_zeroT (P := P) (w := w) (I := I) (ρ := ρ) hz
      cases hv : a.eval x <;> rw [hv] at r <;> cases r
      rename_i v1 hv1
      refine ⟨if t = asserted then .tuple #[v1, .bool true] else .tuple #[z', .bool false], ?_, ?_⟩
      · simp only [execOp, ho, hv, Instr.typeAssert, Sem.run_bind, run_underlying hu, Result.andThen_ok]
        cases d <;> first | exact (hne _ hu).elim | (by_cases ht : t = asserted <;> simp [e1, ht])
      · by_cases ht : t = asserted
        · simp only [ht, if_true]; exact .tup _ _ _ (.cons _ _ _ _ _ hv1 (.cons _ _ _ _ _ (.bool _ _) (.nil _)))
        · simp only [ht, if_false]; exact .tup _ _ _ (.cons _ _ _ _ _ e2 (.cons _ _ _ _ _ (.bool _ _) (.nil _)))
  case call c =>
    split at h <;> try simp only [reduceCtorEq] at h
    rename_i b args hb ha
    split at h <;> simp at h
    rename_i z hz; subst h
    obtain ⟨z', e1, e2⟩ := builtinT_sound (P := P) (ts := c.argTypes) o.type (c.args.map fun | .const _ => true | _ => false) (opnds_sound F ha) hz
    refine ⟨z', ?_, e2⟩
    have e3 : (⟨c.args.toList.map a.eval⟩ : Array Value) = c.args.map a.eval := by apply Array.ext'; simp
    rw [e3] at e1
    simp only [execOp, ho, resolve, hb, Sem.run_bind, Sem.run_pure, Result.andThen_ok, invoke]
    exact e1

end
end Go.Lh
