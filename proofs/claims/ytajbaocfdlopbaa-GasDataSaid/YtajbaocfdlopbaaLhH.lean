/- Soundness of the operations that do not touch the local heap, one by one. -/
import Derived.Test.YtajbaocfdlopbaaLhG
import Derived.IntWalk
set_option linter.unusedSimpArgs false
set_option linter.unusedVariables false
namespace Go.Lh
section
variable {P : Program} {w : World} {I : Nat → Prop} {ρ : Ren}

theorem foldV_sound {f : V → V → Option V} {f' : Value → Value → Sem Value}
    (hf : ∀ x y z x' y', VRel I w ρ x x' → VRel I w ρ y y' → f x y = some z → ∃ z', (f' x' y').run P w = .ok z' w ∧ VRel I w ρ z z') :
    ∀ (l : List V) (l' : List Value) (x : V) (x' : Value) (z : V), VsRel I w ρ l l' → VRel I w ρ x x' → foldV f x l = some z → ∃ z', (l'.foldlM f' x').run P w = .ok z' w ∧ VRel I w ρ z z'
  | [], _, x, x', z, hl, hx, h => by cases hl; simp [foldV] at h; subst h; exact ⟨x', by simp, hx⟩
  | y :: r, _, x, x', z, hl, hx, h => by
    cases hl with
    | cons _ _ y' _ r' hy hr =>
      simp only [foldV] at h
      cases hq : f x y with
      | none => simp [hq] at h
      | some q =>
        simp only [hq] at h
        obtain ⟨q', h1, h2⟩ := hf _ _ _ _ _ hx hy hq
        obtain ⟨z', h3, h4⟩ := foldV_sound hf r r' q q' z hr h2 h
        exact ⟨z', by simp [h1, h3], h4⟩

theorem minV_sound {x y z : V} {x' y' : Value} (hx : VRel I w ρ x x') (hy : VRel I w ρ y y') (h : minV x y = some z) : ∃ z', (Builtin.min2 x' y').run P w = .ok z' w ∧ VRel I w ρ z z' := by
  cases hx <;> cases hy <;> simp only [minV, Option.some.injEq, reduceCtorEq] at h <;> subst h
  case u8.u8 a b => exact ⟨_, rfl, by simp only [Int.ofNat_lt, ← BitVec.lt_def]; split <;> exact .u8 _ _⟩
  case u64.u64 a b => exact ⟨_, rfl, by simp only [Int.ofNat_lt, ← BitVec.lt_def]; split <;> exact .u64 _ _⟩
  case int.int k a hk k' b hk' => exact ⟨_, rfl, .int _ _ _ hk⟩

theorem maxV_sound {x y z : V} {x' y' : Value} (hx : VRel I w ρ x x') (hy : VRel I w ρ y y') (h : maxV x y = some z) : ∃ z', (Builtin.max2 x' y').run P w = .ok z' w ∧ VRel I w ρ z z' := by
  cases hx <;> cases hy <;> simp only [maxV, Option.some.injEq, reduceCtorEq] at h <;> subst h
  case u8.u8 a b => exact ⟨_, rfl, by simp only [gt_iff_lt, Int.ofNat_lt, ← BitVec.lt_def]; split <;> exact .u8 _ _⟩
  case u64.u64 a b => exact ⟨_, rfl, by simp only [gt_iff_lt, Int.ofNat_lt, ← BitVec.lt_def]; split <;> exact .u64 _ _⟩
  case int.int k a hk k' b hk' => exact ⟨_, rfl, .int _ _ _ hk⟩

theorem lenV_sound {t : TypeId} {x z : V} {x' : Value} {ts : Array TypeId} {args : Array Value} {ty : TypeId} (h0 : ts[0]? = some t) (h1 : args[0]? = some x') (hx : VRel I w ρ x x') (h : lenV P t x = some z) :
    ∃ z', (Builtin.len_ ts ty args).run P w = .ok z' w ∧ VRel I w ρ z z' := by
  unfold lenV at h
  unfold Builtin.len_
  split at h <;> try simp only [Option.some.injEq, reduceCtorEq] at h
  · rename_i hu; subst h
    cases hx with
    | str _ s => exact ⟨.int .i64 s.size, by simp [h0, h1, run_underlying hu, goInt], by rw [bytesOf_length]; exact .int _ _ _ rfl⟩
  · rename_i hu; subst h; exact ⟨_, by simp [h0, h1, run_underlying hu, goInt], .int _ _ _ rfl⟩
  · rename_i hu
    split at h <;> try simp only [Option.some.injEq, reduceCtorEq] at h
    rename_i hu2; subst h
    exact ⟨_, by simp [h0, h1, run_underlying hu, run_underlying hu2, goInt], .int _ _ _ rfl⟩
  · rename_i hu; subst h; cases hx <;> exact ⟨_, by simp [h0, h1, run_underlying hu, goInt], .int _ _ _ rfl⟩
  · rename_i hu; subst h; cases hx; exact ⟨_, by simp [h0, h1, run_underlying hu, goInt], .int _ _ _ rfl⟩
  · rename_i hu; subst h; cases hx; exact ⟨_, by simp [h0, h1, run_underlying hu, goInt], .int _ _ _ rfl⟩

theorem capV_sound {t : TypeId} {x z : V} {x' : Value} {ts : Array TypeId} {args : Array Value} {ty : TypeId} (h0 : ts[0]? = some t) (h1 : args[0]? = some x') (hx : VRel I w ρ x x') (h : capV P t x = some z) :
    ∃ z', (Builtin.cap_ ts ty args).run P w = .ok z' w ∧ VRel I w ρ z z' := by
  unfold capV at h
  unfold Builtin.cap_
  split at h <;> try simp only [Option.some.injEq, reduceCtorEq] at h
  · rename_i hu; subst h; exact ⟨_, by simp [h0, h1, run_underlying hu, goInt], .int _ _ _ rfl⟩
  · rename_i hu; subst h
    cases hx with
    | sl _ i o s len cap c l hl k1 k2 k3 => rw [k3 _ rfl]; exact ⟨_, by simp [h0, h1, run_underlying hu, goInt], .int _ _ _ rfl⟩
    | slz _ i o s cap y l hl k3 => rw [k3 _ rfl]; exact ⟨_, by simp [h0, h1, run_underlying hu, goInt], .int _ _ _ rfl⟩
  · rename_i hu; subst h; cases hx; exact ⟨_, by simp [h0, h1, run_underlying hu, goInt], .int _ _ _ rfl⟩

theorem builtinT_sound {b : Builtin} {ts : Array TypeId} {args : List V} {args' : List Value} {z : V} (ty : TypeId) (cs : Array Bool) (ha : VsRel I w ρ args args') (h : builtinT P b ts.toList args = some z) :
    ∃ z', (builtin b ts ty cs ⟨args'⟩).run P w = .ok (.value z') w ∧ VRel I w ρ z z' := by
  unfold builtinT at h
  split at h
  · rename_i t tr x r hts
    cases ha with
    | cons _ _ x' _ r' hx hr =>
      have h0 : ts[0]? = some t := by rw [← Array.getElem?_toList, hts]; rfl
      obtain ⟨z', h1, h2⟩ := lenV_sound (P := P) (args := ⟨x' :: r'⟩) (ty := ty) h0 rfl hx h
      exact ⟨z', by simp [builtin, h1], h2⟩
  · rename_i t tr x r hts
    cases ha with
    | cons _ _ x' _ r' hx hr =>
      have h0 : ts[0]? = some t := by rw [← Array.getElem?_toList, hts]; rfl
      obtain ⟨z', h1, h2⟩ := capV_sound (P := P) (args := ⟨x' :: r'⟩) (ty := ty) h0 rfl hx h
      exact ⟨z', by simp [builtin, h1], h2⟩
  · rename_i x r
    cases ha with
    | cons _ _ x' _ r' hx hr =>
      obtain ⟨z', h1, h2⟩ := foldV_sound (P := P) (f' := Builtin.min2) (fun _ _ _ _ _ a b c => minV_sound a b c) r r' x x' z hr hx h
      exact ⟨z', by simp [builtin, Builtin.min_, h1], h2⟩
  · rename_i x r
    cases ha with
    | cons _ _ x' _ r' hx hr =>
      obtain ⟨z', h1, h2⟩ := foldV_sound (P := P) (f' := Builtin.max2) (fun _ _ _ _ _ a b c => maxV_sound a b c) r r' x x' z hr hx h
      exact ⟨z', by simp [builtin, Builtin.max_, h1], h2⟩
  · cases h

theorem wrap_i64_small (n : Nat) (h : n < 4294967296) : IntKind.i64.wrap (n : Int) = n := IntWalk.i64_in _ (by omega)

theorem emod_pow (n m : Nat) : ((n % 2 ^ m : Nat) : Int) = (n : Int) % (2 : Int) ^ m := by push_cast; rfl

theorem convInt_sound (k : IntKind) (n : Int) : VRel I w ρ (convInt k n) (.int k (k.wrap n)) := by
  have u : ∀ m : Nat, (n % (2 ^ m : Int)) = ((BitVec.ofInt m n).toNat : Int) := fun m => by
    rw [BitVec.toNat_ofInt]
    have : 0 ≤ n % ((2 ^ m : Nat) : Int) := Int.emod_nonneg _ (by have := Nat.two_pow_pos m; omega)
    push_cast at *
    omega
  cases k
  case u8 => rw [wrap_uns .u8 rfl]; simp only [convInt]; rw [show IntKind.u8.bits = 8 from rfl, u]; exact .u8 _ _
  case u16 => rw [wrap_uns .u16 rfl]; simp only [convInt]; rw [show IntKind.u16.bits = 16 from rfl, u]; exact .u16 _ _
  case u32 => rw [wrap_uns .u32 rfl]; simp only [convInt]; rw [show IntKind.u32.bits = 32 from rfl, u]; exact .u32 _ _
  case u64 => rw [wrap_uns .u64 rfl]; simp only [convInt]; rw [show IntKind.u64.bits = 64 from rfl, u]; exact .u64 _ _
  all_goals exact .int _ _ _ rfl

theorem convN_sound {k : IntKind} {x z : V} {x' : Value} (hx : VRel I w ρ x x') (h : convN k x = some z) : ∃ j n, x' = .int j n ∧ VRel I w ρ z (.int k (k.wrap n)) := by
  have gen : ∀ x, VRel I w ρ x x' → (match asIx x with | some n => some (convInt k n) | none => none) = some z → ∃ j n, x' = .int j n ∧ VRel I w ρ z (.int k (k.wrap n)) := by
    intro x hx h
    cases hn : asIx x with
    | none => simp [hn] at h
    | some n =>
      obtain ⟨j, rfl⟩ := asIx_sound hx hn
      simp only [hn, Option.some.injEq] at h; subst h
      exact ⟨j, n, rfl, convInt_sound k n⟩
  have up : ∀ (m : Nat) (a : BitVec m), m ≤ 64 → IntKind.u64.wrap (a.toNat : Int) = ((a.setWidth 64).toNat : Int) := fun m a hm => by
    rw [wrap_uns .u64 rfl, show IntKind.u64.bits = 64 from rfl, BitVec.toNat_setWidth, emod_pow]
  unfold convN at h
  split at h
  · rename_i a; injection h with h; subst h; cases hx; exact ⟨_, _, rfl, by rw [show IntKind.u8.wrap (a.toNat : Int) = a.toNat from wrap_toNat .u8 rfl a]; exact .u8 _ _⟩
  · rename_i a; injection h with h; subst h
    cases hx with
    | u64 =>
      refine ⟨_, _, rfl, ?_⟩
      have : IntKind.u8.wrap (a.toNat : Int) = ((a.setWidth 8).toNat : Int) := by rw [wrap_uns .u8 rfl, show IntKind.u8.bits = 8 from rfl, BitVec.toNat_setWidth, emod_pow]
      rw [this]; exact .u8 _ _
  · rename_i a; injection h with h; subst h; cases hx; exact ⟨_, _, rfl, by rw [show IntKind.u16.wrap (a.toNat : Int) = a.toNat from wrap_toNat .u16 rfl a]; exact .u16 _ _⟩
  · rename_i a; injection h with h; subst h; cases hx; exact ⟨_, _, rfl, by rw [up 8 a (by omega)]; exact .u64 _ _⟩
  · rename_i a; injection h with h; subst h; cases hx; exact ⟨_, _, rfl, by rw [up 16 a (by omega)]; exact .u64 _ _⟩
  · rename_i a; injection h with h; subst h; cases hx; exact ⟨_, _, rfl, by rw [up 32 a (by omega)]; exact .u64 _ _⟩
  · rename_i a; injection h with h; subst h; cases hx; exact ⟨_, _, rfl, by rw [show IntKind.u64.wrap (a.toNat : Int) = a.toNat from wrap_toNat .u64 rfl a]; exact .u64 _ _⟩
  · rename_i a; injection h with h; subst h; cases hx; exact ⟨_, _, rfl, by rw [wrap_i64_small _ (by have := a.isLt; omega)]; exact .int _ _ _ rfl⟩
  · rename_i a; injection h with h; subst h; cases hx; exact ⟨_, _, rfl, by rw [wrap_i64_small _ (by have := a.isLt; omega)]; exact .int _ _ _ rfl⟩
  · rename_i a; injection h with h; subst h; cases hx; exact ⟨_, _, rfl, by rw [wrap_i64_small _ (by have := a.isLt; omega)]; exact .int _ _ _ rfl⟩
  · exact gen _ hx h

theorem convT_sound {src dst : TypeId} {x z : V} {x' : Value} (hx : VRel I w ρ x x') (h : convT P src dst x = some z) : ∃ z', (convert src dst x').run P w = .ok z' w ∧ VRel I w ρ z z' := by
  unfold convT at h
  split at h
  · cases h
  · rename_i d k hs hd _
    obtain ⟨j, n, rfl, hr⟩ := convN_sound hx h
    refine ⟨_, ?_, hr⟩
    simp only [convert, Sem.run_bind, run_underlying hs, run_underlying hd, Result.andThen_ok]
    cases d <;> rfl
  · rename_i d s hs hd
    injection h with h; subst h
    cases hx with
    | str _ s =>
      refine ⟨_, ?_, .str _ s⟩
      simp only [convert, Sem.run_bind, run_underlying hs, run_underlying hd, Result.andThen_ok]
      cases d <;> rfl
  · cases h

theorem unOpV_sound {op : UnOp} {x z : V} {x' : Value} (hx : VRel I w ρ x x') (h : unOpV op x = some z) : ∃ z', (Op.unary op x').run P w = .ok z' w ∧ VRel I w ρ z z' := by
  have notN : ∀ (k : IntKind), k.signed = false → ∀ (a : BitVec k.bits), (Op.unary .xor (.int k a.toNat)).run P w = .ok (.int k (~~~a).toNat) w := by
    intro k hs a
    have e : BitVec.ofInt k.bits k.max ^^^ BitVec.ofInt k.bits (a.toNat : Int) = ~~~a := by
      have h1 : BitVec.ofInt k.bits (a.toNat : Int) = a := by
        apply BitVec.eq_of_toNat_eq; rw [BitVec.toNat_ofInt]
        rw [Int.emod_eq_of_lt (by omega) (by exact_mod_cast toNat_lt_int a)]; simp
      have h2 : BitVec.ofInt k.bits k.max = BitVec.allOnes k.bits := by
        apply BitVec.eq_of_toNat_eq
        rw [BitVec.toNat_ofInt, BitVec.toNat_allOnes]
        have hp : (0 : Int) < 2 ^ k.bits := Int.pow_pos (by omega)
        have : k.max = (2 : Int) ^ k.bits - 1 := by simp [IntKind.max, hs]
        rw [this]; push_cast
        rw [Int.emod_eq_of_lt (by omega) (by omega)]
        have hq : (2 : Int) ^ k.bits = ((2 ^ k.bits : Nat) : Int) := by push_cast; rfl
        rw [hq]; omega
      rw [h1, h2, BitVec.allOnes_xor]
    simp only [Op.unary, hs, Bool.false_eq_true, if_false, Op.intBits, Sem.run_pure, e, wrap_toNat k hs]
  unfold unOpV at h
  split at h <;> first | cases h | (injection h with h; subst h)
  · cases hx; exact ⟨_, rfl, .bool _ _⟩
  · cases hx with | int _ _ _ hk => exact ⟨_, rfl, .int _ _ _ hk⟩
  · rename_i a; cases hx with | u8 => exact ⟨_, notN .u8 rfl a, .u8 _ _⟩
  · rename_i a; cases hx with | u16 => exact ⟨_, notN .u16 rfl a, .u16 _ _⟩
  · rename_i a; cases hx with | u32 => exact ⟨_, notN .u32 rfl a, .u32 _ _⟩
  · rename_i a; cases hx with | u64 => exact ⟨_, notN .u64 rfl a, .u64 _ _⟩
end
end Go.Lh
