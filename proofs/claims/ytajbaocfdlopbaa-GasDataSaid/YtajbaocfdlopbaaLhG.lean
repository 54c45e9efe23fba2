/- Soundness of the operations that do not touch the local heap. -/
import Derived.Test.YtajbaocfdlopbaaLhF
set_option linter.unusedSimpArgs false
set_option linter.unusedVariables false
namespace Go.Lh

def FRel (I : Nat → Prop) (w : World) (ρ : Ren) (g : Fm) (a : Act) : Prop := ∀ t v, g t = some v → VRel I w ρ v (a.tmps.getD t undef)

section
variable {P : Program} {w : World} {I : Nat → Prop} {ρ : Ren}

theorem ofIntC_sound {k : IntKind} {n : Int} {v : V} (h : ofIntC k n = some v) : VRel I w ρ v (.int k n) := by
  have key : ∀ m : Nat, inU m n = true → ((BitVec.ofInt m n).toNat : Int) = n := fun m hm => by
    simp only [inU, Bool.and_eq_true, decide_eq_true_eq] at hm
    rw [BitVec.toNat_ofInt]
    have h1 : n % ((2 ^ m : Nat) : Int) = n := Int.emod_eq_of_lt hm.1 hm.2
    rw [h1]; omega
  cases k <;> simp only [ofIntC] at h
  case u8 => split at h <;> simp at h; subst h; rename_i hm; have e := key 8 hm; have r := VRel.u8 (I := I) (w := w) ρ (BitVec.ofInt 8 n); rw [e] at r; exact r
  case u16 => split at h <;> simp at h; subst h; rename_i hm; have e := key 16 hm; have r := VRel.u16 (I := I) (w := w) ρ (BitVec.ofInt 16 n); rw [e] at r; exact r
  case u32 => split at h <;> simp at h; subst h; rename_i hm; have e := key 32 hm; have r := VRel.u32 (I := I) (w := w) ρ (BitVec.ofInt 32 n); rw [e] at r; exact r
  case u64 => split at h <;> simp at h; subst h; rename_i hm; have e := key 64 hm; have r := VRel.u64 (I := I) (w := w) ρ (BitVec.ofInt 64 n); rw [e] at r; exact r
  all_goals (simp at h; subst h; exact .int _ _ _ rfl)

mutual
theorem ofValue_sound : ∀ {x : Value} {v : V}, ofValue x = some v → VRel I w ρ v x
  | .int k n, v, h => by rw [ofValue] at h; exact ofIntC_sound h
  | .bool b, v, h => by rw [ofValue] at h; injection h with h; subst h; exact .bool _ _
  | .string s, v, h => by rw [ofValue] at h; injection h with h; subst h; exact .str _ _
  | .pointer none, v, h => by rw [ofValue] at h; injection h with h; subst h; exact .nilPtr _
  | .pointer (some _), v, h => by simp [ofValue] at h
  | .slice none 0 0, v, h => by rw [ofValue] at h; injection h with h; subst h; exact .nilSl _
  | .slice none 0 (_ + 1), v, h => by simp [ofValue] at h
  | .slice none (_ + 1) _, v, h => by simp [ofValue] at h
  | .slice (some _) _ _, v, h => by simp [ofValue] at h
  | .nilFunc, v, h => by rw [ofValue] at h; injection h with h; subst h; exact .nilFn _
  | .nilIface, v, h => by rw [ofValue] at h; injection h with h; subst h; exact .nilIface _
  | .iface t x, v, h => by
    rw [ofValue] at h
    split at h <;> simp at h
    rename_i y hy; subst h; exact .iface _ _ _ _ (ofValue_sound hy)
  | .agg ⟨l⟩, v, h => by
    rw [ofValue] at h
    split at h <;> simp at h
    rename_i y hy; subst h; exact .agg _ _ _ (ofValues_sound hy)
  | .tuple ⟨l⟩, v, h => by
    rw [ofValue] at h
    split at h <;> simp at h
    rename_i y hy; subst h; exact .tup _ _ _ (ofValues_sound hy)
  | .float _ _, v, h => by simp [ofValue] at h
  | .complex _ _ _, v, h => by simp [ofValue] at h
  | .map _, v, h => by simp [ofValue] at h
  | .chan _, v, h => by simp [ofValue] at h
  | .func _ _ _, v, h => by simp [ofValue] at h
theorem ofValues_sound : ∀ {x : List Value} {v : List V}, ofValues x = some v → VsRel I w ρ v x
  | [], v, h => by rw [ofValues] at h; injection h with h; subst h; exact .nil _
  | x :: r, v, h => by
    rw [ofValues] at h
    split at h <;> simp at h
    rename_i y z hy hz; subst h; exact .cons _ _ _ _ _ (ofValue_sound hy) (ofValues_sound hz)
end

theorem opnd_sound {g : Fm} {a : Act} (F : FRel I w ρ g a) {x : Operand} {v : V} (h : opnd g x = some v) : VRel I w ρ v (a.eval x) := by
  cases x with
  | tmp t => exact F t v h
  | const c => exact ofValue_sound h
  | global _ => simp [opnd] at h
  | func f =>
    simp only [opnd, Option.some.injEq] at h; subst h
    exact .fn _ _ _ _ _ _ (.nil _) (.nil _)

theorem opnds_sound {g : Fm} {a : Act} (F : FRel I w ρ g a) : ∀ {x : List Operand} {v : List V}, opnds g x = some v → VsRel I w ρ v (x.map a.eval)
  | [], v, h => by simp [opnds] at h; subst h; exact .nil _
  | x :: r, v, h => by
    simp only [opnds] at h
    split at h <;> simp at h
    rename_i y z hy hz; subst h; exact .cons _ _ _ _ _ (opnd_sound F hy) (opnds_sound F hz)

theorem partsV_sound {g : Fm} {a : Act} (F : FRel I w ρ g a) : ∀ {x : List (Nat × Operand)} {v : List (Nat × V)}, partsV g x = some v →
    v.map (·.1) = x.map (·.1) ∧ VsRel I w ρ (v.map (·.2)) (x.map fun p => a.eval p.2)
  | [], v, h => by simp [partsV] at h; subst h; exact ⟨rfl, .nil _⟩
  | (i, x) :: r, v, h => by
    simp only [partsV] at h
    split at h <;> simp at h
    rename_i y z hy hz; subst h
    obtain ⟨h1, h2⟩ := partsV_sound F hz
    exact ⟨by simp [h1], .cons _ _ _ _ _ (opnd_sound F hy) h2⟩

theorem asIx_sound {v : V} {v' : Value} {n : Int} (h : VRel I w ρ v v') (hn : asIx v = some n) : ∃ k, v' = .int k n := by
  cases h <;> simp [asIx] at hn <;> subst hn <;> exact ⟨_, rfl⟩

theorem eqIn_u8 {d : Nat} {t : TypeId} {a : BitVec 8} {y : V} {b : Bool} (h : eqIn P d t (.u8 a) y = some b) : ∃ c, y = .u8 c := by
  cases d with
  | zero => simp [eqIn] at h
  | succ d => cases y <;> first | exact ⟨_, rfl⟩ | (simp only [eqIn] at h; split at h <;> simp_all [eqCell])
theorem eqIn_u16 {d : Nat} {t : TypeId} {a : BitVec 16} {y : V} {b : Bool} (h : eqIn P d t (.u16 a) y = some b) : ∃ c, y = .u16 c := by
  cases d with
  | zero => simp [eqIn] at h
  | succ d => cases y <;> first | exact ⟨_, rfl⟩ | (simp only [eqIn] at h; split at h <;> simp_all [eqCell])
theorem eqIn_u32 {d : Nat} {t : TypeId} {a : BitVec 32} {y : V} {b : Bool} (h : eqIn P d t (.u32 a) y = some b) : ∃ c, y = .u32 c := by
  cases d with
  | zero => simp [eqIn] at h
  | succ d => cases y <;> first | exact ⟨_, rfl⟩ | (simp only [eqIn] at h; split at h <;> simp_all [eqCell])
theorem eqIn_u64 {d : Nat} {t : TypeId} {a : BitVec 64} {y : V} {b : Bool} (h : eqIn P d t (.u64 a) y = some b) : ∃ c, y = .u64 c := by
  cases d with
  | zero => simp [eqIn] at h
  | succ d => cases y <;> first | exact ⟨_, rfl⟩ | (simp only [eqIn] at h; split at h <;> simp_all [eqCell])
theorem eqIn_str {d : Nat} {t : TypeId} {a : List (BitVec 8)} {y : V} {b : Bool} (h : eqIn P d t (.str a) y = some b) : ∃ c, y = .str c := by
  cases d with
  | zero => simp [eqIn] at h
  | succ d => cases y <;> first | exact ⟨_, rfl⟩ | (simp only [eqIn] at h; split at h <;> simp_all [eqCell])
theorem eqIn_int {d : Nat} {t : TypeId} {k : IntKind} {a : Int} {y : V} {b : Bool} (h : eqIn P d t (.int k a) y = some b) : ∃ k' c, y = .int k' c := by
  cases d with
  | zero => simp [eqIn] at h
  | succ d => cases y <;> first | exact ⟨_, _, rfl⟩ | (simp only [eqIn] at h; split at h <;> simp_all [eqCell])

theorem binOpV_sound {op : BinOp} {t : TypeId} {x y v : V} {x' y' : Value} (X Y : Operand) (hx : VRel I w ρ x x') (hy : VRel I w ρ y y') (h : binOpV P op t x y = some (true, v)) :
    ∃ v', (do eqGuard op t X Y x' y'; binOp op t x' y' : Sem Value).run P w = .ok v' w ∧ VRel I w ρ v v' := by
  by_cases hl : op = .shl
  · subst hl
    simp only [binOpV] at h
    cases hs : shiftBy y with
    | none => simp [hs] at h
    | some p =>
      obtain ⟨k, n⟩ := p
      cases hv : shlV x n with
      | none => simp [hs, hv] at h
      | some z =>
        simp only [hs, hv, Option.some.injEq, Prod.mk.injEq] at h
        obtain ⟨rfl, rfl⟩ := h
        obtain ⟨v', h1, h2⟩ := shift_sound (P := P) .shl t hx hy hs (.inl ⟨rfl, hv⟩)
        exact ⟨v', by simp [eqGuard, h1], h2⟩
  by_cases hr : op = .shr
  · subst hr
    simp only [binOpV] at h
    cases hs : shiftBy y with
    | none => simp [hs] at h
    | some p =>
      obtain ⟨k, n⟩ := p
      cases hv : shrV x n with
      | none => simp [hs, hv] at h
      | some z =>
        simp only [hs, hv, Option.some.injEq, Prod.mk.injEq] at h
        obtain ⟨rfl, rfl⟩ := h
        obtain ⟨v', h1, h2⟩ := shift_sound (P := P) .shr t hx hy hs (.inr ⟨rfl, hv⟩)
        exact ⟨v', by simp [eqGuard, h1], h2⟩
  have guard : ∀ u u' : Value, (∀ c, u ≠ .agg c) → u ≠ .nilIface → (eqGuard op t X Y u u').run P w = .ok () w := by
    intro u u' h1 h2
    unfold eqGuard
    simp only [Sem.run_ite]
    split
    all_goals first
      | (simp only [Bool.not_true, Bool.false_eq_true, if_false]; split <;> first | exact (h2 rfl).elim | exact (h1 _ rfl).elim | rfl)
      | simp
  have guardI : ∀ (k : IntKind) (n : Int) (u : Value), (eqGuard op t X Y (.int k n) u).run P w = .ok () w := fun k n u => guard _ _ (fun _ e => by cases e) (fun e => by cases e)
  have uns : ∀ (k : IntKind) (hs : k.signed = false) (mk : BitVec k.bits → V) (a b : BitVec k.bits), (∀ z : BitVec k.bits, VRel I w ρ (mk z) (.int k z.toNat)) →
      binU mk op a b = some (true, v) → ∃ v', (do eqGuard op t X Y (.int k a.toNat) (.int k b.toNat); binOp op t (.int k a.toNat) (.int k b.toNat) : Sem Value).run P w = .ok v' w ∧ VRel I w ρ v v' := by
    intro k hs mk a b hmk hb
    rcases binU_sound (P := P) (w := w) k hs mk op t a b v hl hr hb with ⟨z, rfl, hz⟩ | ⟨z, rfl, hz⟩
    · exact ⟨_, by simp only [Sem.run_bind, guard (.int k a.toNat) (.int k b.toNat) (fun _ e => by cases e) (fun e => by cases e), Result.andThen_ok, hz], hmk z⟩
    · exact ⟨_, by simp only [Sem.run_bind, guard (.int k a.toNat) (.int k b.toNat) (fun _ e => by cases e) (fun e => by cases e), Result.andThen_ok, hz], .bool _ _⟩
  have h' : arithV P op t x y = some (true, v) := by
    cases op <;> first | exact absurd rfl hl | exact absurd rfl hr | exact h
  clear h
  unfold arithV at h'
  split at h'
  · cases hx; cases hy; exact uns .u8 rfl .u8 _ _ (fun z => .u8 _ z) h'
  · cases hx; cases hy; exact uns .u16 rfl .u16 _ _ (fun z => .u16 _ z) h'
  · cases hx; cases hy; exact uns .u32 rfl .u32 _ _ (fun z => .u32 _ z) h'
  · cases hx; cases hy; exact uns .u64 rfl .u64 _ _ (fun z => .u64 _ z) h'
  · split at h'
    · rename_i e; subst e
      cases hx with
      | int _ kk nn hk =>
        cases hy with | int _ _ mm _ =>
        rcases binI_sound (P := P) (w := w) _ op t _ _ v h' with ⟨z, rfl, hz⟩ | ⟨z, rfl, hz⟩
        · exact ⟨_, by simp only [Sem.run_bind, guardI, Result.andThen_ok, hz], .int _ _ _ hk⟩
        · exact ⟨_, by simp only [Sem.run_bind, guardI, Result.andThen_ok, hz], .bool _ _⟩
    · cases h'
  · cases hx with
    | str _ s =>
      cases hy with
      | str _ s' =>
        obtain ⟨v', h1, h2⟩ := binS_sound (P := P) (w := w) (I := I) (ρ := ρ) op t s s' v hl hr h'
        exact ⟨v', by simp only [Sem.run_bind, guard (.string s) (.string s') (fun _ e => by cases e) (fun e => by cases e), Result.andThen_ok, h1], h2⟩
  · rename_i n1 n2 n3 n4 n5 n6
    have shape : ∀ b, eqV P t x y = some b → ((binOp .eql t x' y' = do pure (.bool (← Op.equal t x' y'))) ∧ (binOp .neq t x' y' = do pure (.bool (!(← Op.equal t x' y'))))) := by
      intro b hb
      have nx : ∀ d, eqIn P d t x y ≠ some b ∨ ((∀ k n, x' ≠ .int k n) ∧ (∀ k n, x' ≠ .float k n) ∧ (∀ k n m, x' ≠ .complex k n m) ∧ (∀ s, x' ≠ .string s)) := by
        intro d
        cases d with
        | zero => left; simp [eqIn]
        | succ d =>
          cases hx
          case any => left; intro h; exact eqIn_any h
          case u8 a => left; intro h; obtain ⟨c, rfl⟩ := eqIn_u8 h; exact n1 _ _ rfl rfl
          case u16 a => left; intro h; obtain ⟨c, rfl⟩ := eqIn_u16 h; exact n2 _ _ rfl rfl
          case u32 a => left; intro h; obtain ⟨c, rfl⟩ := eqIn_u32 h; exact n3 _ _ rfl rfl
          case u64 a => left; intro h; obtain ⟨c, rfl⟩ := eqIn_u64 h; exact n4 _ _ rfl rfl
          case int k a hk => left; intro h; obtain ⟨k2, c, rfl⟩ := eqIn_int h; exact n5 _ _ _ _ rfl rfl
          case str s => left; intro h; obtain ⟨c, rfl⟩ := eqIn_str h; exact n6 _ _ rfl rfl
          all_goals (right; refine ⟨?_, ?_, ?_, ?_⟩ <;> (intros; intro e; cases e))
      have hin : eqIn P 20 t x y = some b := by
        unfold eqV at hb
        split at hb
        · split at hb
          · cases hb
          · exact hb
        · exact hb
      obtain ⟨h1, h2, h3, h4⟩ := (nx 20).resolve_left (fun h => h hin)
      cases x' <;> first | exact absurd rfl (h1 _ _) | exact absurd rfl (h2 _ _) | exact absurd rfl (h3 _ _ _) | exact absurd rfl (h4 _) | exact ⟨by cases y' <;> rfl, by cases y' <;> rfl⟩
    have run : ∀ b, eqV P t x y = some b → (op = .eql → (do eqGuard op t X Y x' y'; binOp op t x' y' : Sem Value).run P w = .ok (.bool b) w) ∧
        (op = .neq → (do eqGuard op t X Y x' y'; binOp op t x' y' : Sem Value).run P w = .ok (.bool (!b)) w) := by
      intro b hb
      obtain ⟨hg, he⟩ := eqV_sound X Y hx hy hb op
      constructor
      · rintro rfl
        simp only [Sem.run_bind, hg, Result.andThen_ok, (shape b hb).1, he, Sem.run_pure]
      · rintro rfl
        simp only [Sem.run_bind, hg, Result.andThen_ok, (shape b hb).2, he, Sem.run_pure]
    split at h'
    · rename_i b hb
      injection h' with h'; injection h' with _ h'; subst h'
      exact ⟨_, (run b hb).1 rfl, .bool _ _⟩
    · rename_i b hb
      injection h' with h'; injection h' with _ h'; subst h'
      exact ⟨_, (run b hb).2 rfl, .bool _ _⟩
    · cases h'
end
end Go.Lh
