/- Soundness: parts of values, equality, conversions between numbers. -/
import Derived.Test.YtajbaocfdlopbaaLhD
import Derived.Laws.StructEq
import Derived.ChangeKeysEq
set_option linter.unusedSimpArgs false
set_option linter.unusedVariables false
namespace Go.Lh
section
variable {P : Program} {w : World} {I : Nat → Prop} {ρ : Ren}

theorem run_isAggT {t : TypeId} {b : Bool} (h : isAggT P t = some b) : (isAgg t).run P w = .ok b w := by
  unfold isAggT at h
  cases hu : P.underlying t with
  | none => simp [hu] at h
  | some d =>
    simp only [isAgg, Sem.run_bind, run_underlying hu, Result.andThen_ok]
    rw [hu] at h
    cases d <;> simp at h <;> subst h <;> rfl

theorem run_sizeT {t : TypeId} {n : Nat} (h : sizeT P t = some n) : (sizeOf t).run P w = .ok n w := by
  unfold sizeT at h
  cases hi : P.info? t with
  | none => simp [hi] at h
  | some i =>
    simp only [hi, Option.some.injEq] at h
    rw [run_sizeOf w hi]
    simp [Program.cellsOf, hi, h]

theorem VsRel.take {xs : List V} {xs' : List Value} (h : VsRel I w ρ xs xs') (n : Nat) : VsRel I w ρ (xs.take n) (xs'.take n) := by
  refine .of_get (by simp [h.length]) (fun i x x' hx hx' => ?_)
  rw [List.getElem?_take] at hx hx'
  split at hx
  · obtain ⟨y, hy, hr⟩ := h.get i x hx
    rename_i hlt
    rw [if_pos hlt, hy] at hx'
    cases hx'; exact hr
  · cases hx

theorem VsRel.drop {xs : List V} {xs' : List Value} (h : VsRel I w ρ xs xs') (n : Nat) : VsRel I w ρ (xs.drop n) (xs'.drop n) := by
  refine .of_get (by simp [h.length]) (fun i x x' hx hx' => ?_)
  rw [List.getElem?_drop] at hx hx'
  obtain ⟨y, hy, hr⟩ := h.get _ x hx
  rw [hy] at hx'
  cases hx'; exact hr

theorem VsRel.set {xs : List V} {xs' : List Value} (h : VsRel I w ρ xs xs') (n : Nat) {v : V} {v' : Value} (hv : VRel I w ρ v v') : VsRel I w ρ (xs.set n v) (xs'.set n v') := by
  refine .of_get (by simp [h.length]) (fun i x x' hx hx' => ?_)
  rw [List.getElem?_set] at hx hx'
  split at hx
  · rename_i he
    subst he
    simp only [if_true] at hx'
    split at hx
    · split at hx'
      · cases hx; cases hx'; exact hv
      · cases hx'
    · cases hx
  · rename_i he
    rw [if_neg he] at hx'
    obtain ⟨y, hy, hr⟩ := h.get _ x hx
    rw [hy] at hx'
    cases hx'; exact hr

theorem partV_sound {t : TypeId} {xs : List V} {xs' : List Value} {off : Nat} {v : V} (hx : VsRel I w ρ xs xs') (h : partV P t xs off = some v) :
    ∃ v', (part t ⟨xs'⟩ off).run P w = .ok v' w ∧ VRel I w ρ v v' := by
  unfold partV at h
  cases ha : isAggT P t with
  | none => simp [ha] at h
  | some b =>
    cases hs : sizeT P t with
    | none => cases b <;> simp [ha, hs] at h
    | some n =>
      simp only [part, Sem.run_bind, run_isAggT ha, Result.andThen_ok]
      cases b
      · simp only [ha, hs] at h
        obtain ⟨v', hv', hr⟩ := hx.get off v h
        refine ⟨v', ?_, hr⟩
        have : (⟨xs'⟩ : Array Value)[off]? = some v' := by simpa using hv'
        simp [this]
      · simp only [ha, hs, Option.some.injEq] at h
        subst h
        refine ⟨.agg ⟨(xs'.drop off).take n⟩, ?_, .agg _ _ _ ((hx.drop off).take n)⟩
        simp [run_sizeT hs, List.extract_eq_take_drop]

theorem eqCell_sound (d : Nat) {t : TypeId} {k : IntKind} {x y : V} {x' y' : Value} {b : Bool} (hu : P.underlying t = some (.int k)) (hx : VRel I w ρ x x') (hy : VRel I w ρ y y') (h : eqCell x y = some b) :
    (Op.equalIn (d + 1) t x' y').run P w = .ok b w := by
  have nat : ∀ {m : Nat} (p q : BitVec m), ((p.toNat : Int) == q.toNat) = (p == q) := fun p q => by
    rw [Bool.eq_iff_iff]; simp only [beq_iff_eq, Int.natCast_inj]; exact BitVec.toNat_inj
  cases hx <;> cases hy <;> simp only [eqCell, Option.some.injEq, reduceCtorEq] at h
  case u8.u8 => subst h; rw [run_equalIn_int w d t _ _ _ _ hu, nat]
  case u16.u16 => subst h; rw [run_equalIn_int w d t _ _ _ _ hu, nat]
  case u32.u32 => subst h; rw [run_equalIn_int w d t _ _ _ _ hu, nat]
  case u64.u64 => subst h; rw [run_equalIn_int w d t _ _ _ _ hu, nat]
  case int.int k1 a hk k2 c hk2 =>
    split at h
    · rename_i he; subst he; simp only [Option.some.injEq] at h; subst h
      rw [run_equalIn_int w d t _ _ _ _ hu]
    · cases h

/-- what holds of an evaluator of '==' that is sound -/
def EqSound (P : Program) (w : World) (I : Nat → Prop) (ρ : Ren) (e : Nat) (r : TypeId → V → V → Option Bool) : Prop :=
  ∀ t x y x' y' b, VRel I w ρ x x' → VRel I w ρ y y' → r t x y = some b → (Op.equalIn e t x' y').run P w = .ok b w

theorem eqFs_sound {e : Nat} {r : TypeId → V → V → Option Bool} (hr : EqSound P w I ρ e r) {xs ys : List V} {xs' ys' : List Value} (hx : VsRel I w ρ xs xs') (hy : VsRel I w ρ ys ys') :
    ∀ (fs : List Field) (b : Bool), eqFs P r xs ys fs = some b → (Op.eqFields e ⟨xs'⟩ ⟨ys'⟩ fs).run P w = .ok b w
  | [], b, h => by simp [eqFs] at h; subst h; simp [Op.eqFields]
  | f :: fs, b, h => by
    simp only [eqFs] at h
    simp only [Op.eqFields, Sem.run_ite]
    split at h
    · rename_i hn
      rw [if_pos hn]
      cases h1 : partV P f.type xs f.offset with
      | none => simp [h1] at h
      | some a =>
        cases h2 : partV P f.type ys f.offset with
        | none => simp [h1, h2] at h
        | some c =>
          cases h3 : r f.type a c with
          | none => simp [h1, h2, h3] at h
          | some p =>
            cases h4 : eqFs P r xs ys fs with
            | none => simp [h1, h2, h3, h4] at h
            | some q =>
              simp only [h1, h2, h3, h4, Option.some.injEq] at h
              subst h
              obtain ⟨a', ha', hra⟩ := partV_sound (P := P) hx h1
              obtain ⟨c', hc', hrc⟩ := partV_sound (P := P) hy h2
              simp only [Sem.run_bind, ha', hc', Result.andThen_ok, hr _ _ _ _ _ _ hra hrc h3]
              cases p
              · simp
              · simp [eqFs_sound hr hx hy fs q h4]
    · rename_i hn
      rw [if_neg hn]
      exact eqFs_sound hr hx hy fs b h

/-- the rounds over an array's elements -/
def eqElems (d : Nat) (elem : TypeId) (n : Nat) (xs ys : Array Value) : List Nat → Sem Bool
  | [] => pure true
  | i :: r => do
    let a ← part elem xs (i * n)
    let b ← part elem ys (i * n)
    let q ← Op.equalIn d elem a b
    if (!q) = true then pure false else eqElems d elem n xs ys r

theorem run_equalIn_array (d : Nat) (t elem : TypeId) (len n : Nat) (xs ys : Array Value) (ht : P.underlying t = some (.array len elem)) (hn : sizeT P elem = some n) :
    (Op.equalIn (d + 1) t (.agg xs) (.agg ys)).run P w = (eqElems d elem n xs ys (List.range' 0 len)).run P w := by
  simp only [Op.equalIn, Sem.run_bind, run_underlying ht, run_sizeT hn, Result.andThen_ok]
  rw [Std.Legacy.Range.forIn_eq_forIn_range']
  have e : Std.Legacy.Range.size [:len] = len := by simp [Std.Legacy.Range.size]
  simp only [e]
  generalize List.range' 0 len 1 = l
  clear ht hn
  induction l generalizing w with
  | nil => simp [eqElems]
  | cons i l ih =>
    simp only [List.forIn_cons, eqElems, Sem.run_bind, Sem.run_ite]
    generalize (part elem xs (i * n)).run P w = r1
    cases r1 with
    | ok a w1 =>
      simp only [Result.andThen_ok]
      generalize (part elem ys (i * n)).run P w1 = r2
      cases r2 with
      | ok b w2 =>
        simp only [Result.andThen_ok]
        generalize (Op.equalIn d elem a b).run P w2 = r3
        cases r3 with
        | ok r w3 =>
          cases r
          · simp only [Result.andThen_ok, Bool.not_false, if_true, Sem.run_pure]
          · simp only [Result.andThen_ok, Bool.not_true, Bool.false_eq_true, if_false, Sem.run_pure]
            exact ih
        | halt x w3 => simp [Result.andThen]
      | halt x w2 => simp [Result.andThen]
    | halt x w1 => simp [Result.andThen]

theorem eqAs_sound {e : Nat} {r : TypeId → V → V → Option Bool} (hr : EqSound P w I ρ e r) {elem : TypeId} {s : Nat} {xs ys : List V} {xs' ys' : List Value} (hx : VsRel I w ρ xs xs') (hy : VsRel I w ρ ys ys') :
    ∀ (n i : Nat) (b : Bool), eqAs P r elem s xs ys n i = some b → (eqElems e elem s ⟨xs'⟩ ⟨ys'⟩ (List.range' i n)).run P w = .ok b w
  | 0, _, b, h => by simp [eqAs] at h; subst h; simp [eqElems]
  | n + 1, i, b, h => by
    simp only [eqAs] at h
    rw [List.range'_succ]
    simp only [eqElems]
    cases h1 : partV P elem xs (i * s) with
    | none => simp [h1] at h
    | some a =>
      cases h2 : partV P elem ys (i * s) with
      | none => simp [h1, h2] at h
      | some c =>
        cases h3 : r elem a c with
        | none => simp [h1, h2, h3] at h
        | some p =>
          cases h4 : eqAs P r elem s xs ys n (i + 1) with
          | none => simp [h1, h2, h3, h4] at h
          | some q =>
            simp only [h1, h2, h3, h4, Option.some.injEq] at h
            subst h
            obtain ⟨a', ha', hra⟩ := partV_sound (P := P) hx h1
            obtain ⟨c', hc', hrc⟩ := partV_sound (P := P) hy h2
            simp only [Sem.run_bind, ha', hc', Result.andThen_ok, hr _ _ _ _ _ _ hra hrc h3]
            cases p
            · simp
            · simpa using eqAs_sound hr hx hy n (i + 1) q h4

theorem eqIn_sound : ∀ (d e : Nat), d ≤ e → EqSound P w I ρ e (eqIn P d)
  | 0, _, _ => fun _ _ _ _ _ _ _ _ h => by simp [eqIn] at h
  | d + 1, 0, hle => by omega
  | d + 1, e + 1, hle => fun t x y x' y' b hx hy h => by
    have ih := eqIn_sound d e (by omega)
    simp only [eqIn] at h
    cases hu : P.underlying t with
    | none => simp [hu] at h
    | some ty =>
      rw [hu] at h
      split at h <;> rename_i hd <;> first | cases h | skip
      all_goals try (injection hd with hd; subst hd)
      · cases hx; cases hy; exact run_equalIn_bool' w e t _ _ hu
      · exact eqCell_sound e hu hx hy h
      · cases hx; cases hy
        rw [run_equalIn_string w e t _ _ hu, bytesOf_beq]
      · cases hx <;> cases hy <;> simp [Op.equalIn, run_underlying hu]
      · cases hx <;> cases hy <;> simp [Op.equalIn, run_underlying hu]
      · cases hx <;> cases hy <;> simp [Op.equalIn, run_underlying hu]
      · cases hx <;> cases hy <;> simp [Op.equalIn, run_underlying hu]
      · cases hx <;> cases hy <;> simp [Op.equalIn, run_underlying hu]
      · cases hx <;> cases hy <;> simp [Op.equalIn, run_underlying hu]
      · cases hx <;> cases hy <;> simp [Op.equalIn, run_underlying hu]
      · cases hx <;> cases hy <;> simp [Op.equalIn, run_underlying hu]
      · cases hx <;> cases hy <;> simp [Op.equalIn, run_underlying hu]
      · cases hx <;> cases hy <;> simp [Op.equalIn, run_underlying hu]
      · cases hx <;> cases hy <;> simp [Op.equalIn, run_underlying hu]
      · rename_i fs xs ys
        split at h
        · cases h
        · rename_i hst
          cases hx with
          | agg _ _ xs' hxs =>
            cases hy with
            | agg _ _ ys' hys =>
              have hf : P.fieldsOf t = fs := by simp [Program.fieldsOf, hu]
              rw [run_equalIn_struct w e t _ _ (by rw [hf]; exact hu) (by simpa using hst), hf]
              exact eqFs_sound ih hxs hys _ _ h
      · rename_i n el xs ys
        cases hs : sizeT P el with
        | none => simp [hs] at h
        | some s =>
          simp only [hs] at h
          cases hx with
          | agg _ _ xs' hxs =>
            cases hy with
            | agg _ _ ys' hys =>
              rw [run_equalIn_array e t el n s _ _ hu hs]
              exact eqAs_sound ih hxs hys n 0 b h

theorem eqIn_agg {d : Nat} {t : TypeId} {xs : List V} {y : V} {b : Bool} (h : eqIn P d t (.agg xs) y = some b) : ∃ ys, y = .agg ys := by
  cases d with
  | zero => simp [eqIn] at h
  | succ d =>
    cases y <;> first | exact ⟨_, rfl⟩ | (simp only [eqIn] at h; split at h <;> simp_all [eqCell])

theorem eqIn_any {d : Nat} {t : TypeId} {y : V} {b : Bool} (h : eqIn P d t .any y = some b) : False := by
  cases d with
  | zero => simp [eqIn] at h
  | succ d => simp only [eqIn] at h; split at h <;> simp_all [eqCell]

theorem eqIn_nilIface {d : Nat} {t : TypeId} {y : V} {b : Bool} (h : eqIn P d t .nilIface y = some b) : False := by
  cases d with
  | zero => simp [eqIn] at h
  | succ d => simp only [eqIn] at h; split at h <;> simp_all [eqCell]

theorem eqV_sound {t : TypeId} {x y : V} {x' y' : Value} {b : Bool} (X Y : Operand) (hx : VRel I w ρ x x') (hy : VRel I w ρ y y') (h : eqV P t x y = some b) (op : BinOp) :
    (eqGuard op t X Y x' y').run P w = .ok () w ∧ (Op.equal t x' y').run P w = .ok b w := by
  unfold eqV at h
  split at h
  · split at h
    · cases h
    · rename_i hg
      refine ⟨?_, eqIn_sound 20 Op.maxDepth (by decide) _ _ _ _ _ _ hx hy h⟩
      obtain ⟨ys, rfl⟩ := eqIn_agg h
      cases hx with
      | agg _ _ xs' hxs =>
        cases hy with
        | agg _ _ ys' hys => exact run_eqGuard_agg w op t X Y _ _ (by simpa using hg)
  · rename_i hna
    refine ⟨?_, eqIn_sound 20 Op.maxDepth (by decide) _ _ _ _ _ _ hx hy h⟩
    have h1 : ∀ c, x' = .agg c → False := by
      rintro c rfl
      cases hx with
      | any => exact eqIn_any h
      | agg => exact hna _ rfl
    have h2 : x' = .nilIface → False := by
      rintro rfl
      cases hx with
      | any => exact eqIn_any h
      | nilIface => exact eqIn_nilIface h
    unfold eqGuard
    simp only [Sem.run_ite]
    split
    all_goals first
      | (simp only [Bool.not_true, Bool.false_eq_true, if_false]; split <;> first | exact (h2 rfl).elim | exact (h1 _ rfl).elim | rfl)
      | simp
end
end Go.Lh
