/- Soundness of the operations on values: shifts, texts, equality, conversions. -/
import Derived.Test.YtajbaocfdlopbaaLhC
set_option linter.unusedSimpArgs false
set_option linter.unusedVariables false
namespace Go.Lh
section
variable {P : Program} {w : World} {I : Nat → Prop} {ρ : Ren}

theorem bytesOf_length (s : ByteArray) : (bytesOf s).length = s.size := by
  simp [bytesOf]

theorem bytesOf_get (s : ByteArray) (i : Nat) : (bytesOf s)[i]? = (s[i]?).map UInt8.toBitVec := by
  have h : s.data.toList[i]? = s[i]? := by
    rw [Array.getElem?_toList]
    rcases Nat.lt_or_ge i s.size with h | h
    · rw [Array.getElem?_eq_getElem h, getElem?_pos s i h]; rfl
    · rw [Array.getElem?_eq_none h, getElem?_neg s i (by omega)]
  simp only [bytesOf, List.getElem?_map, h]

theorem ba_toList (s : ByteArray) : s.toList = s.data.toList := by
  have key : ∀ (n i : Nat) (r : List UInt8), s.size - i = n → ByteArray.toList.loop s i r = r.reverse ++ s.data.toList.drop i := by
    intro n
    induction n with
    | zero =>
      intro i r h
      unfold ByteArray.toList.loop
      have : ¬ i < s.size := by omega
      rw [if_neg this, List.drop_eq_nil_of_le (by simp; omega)]; simp
    | succ n ih =>
      intro i r h
      unfold ByteArray.toList.loop
      have hi : i < s.size := by omega
      rw [if_pos hi, ih (i + 1) _ (by omega)]
      have hi' : i < s.data.toList.length := by simpa using hi
      have e : s.data.toList.drop i = s.data.toList[i] :: s.data.toList.drop (i + 1) := List.drop_eq_getElem_cons hi'
      have e2 : s.get! i = s.data.toList[i] := by
        show s.data[i]! = _
        rw [getElem!_pos s.data i (by simpa using hi)]; simp
      rw [e, e2]; simp
  have := key s.size 0 [] (by omega)
  simpa [ByteArray.toList] using this

theorem bytesOf_inj {s t : ByteArray} : bytesOf s = bytesOf t ↔ s.toList = t.toList := by
  rw [ba_toList, ba_toList]
  constructor
  · intro h
    have := congrArg (List.map UInt8.ofBitVec) h
    simpa [bytesOf, List.map_map, Function.comp_def] using this
  · intro h; simp [bytesOf, h]

theorem bytesOf_beq (s t : ByteArray) : (s.toList == t.toList) = (bytesOf s == bytesOf t) := by
  rw [Bool.eq_iff_iff]; simp only [beq_iff_eq]; exact bytesOf_inj.symm

theorem bytesLess_eq : ∀ (x y : List UInt8), Op.bytesLess x y = ltB (x.map UInt8.toBitVec) (y.map UInt8.toBitVec)
  | [], [] => rfl
  | _ :: _, [] => by simp [Op.bytesLess, ltB]
  | [], _ :: _ => rfl
  | a :: x, b :: y => by
    simp only [Op.bytesLess, ltB, List.map_cons, bytesLess_eq x y]
    have h1 : (a == b) = (a.toBitVec == b.toBitVec) := by
      rw [Bool.eq_iff_iff]; simp only [beq_iff_eq]; exact ⟨fun h => by rw [h], fun h => UInt8.toBitVec_inj.1 h⟩
    have h2 : (a < b) = (a.toBitVec < b.toBitVec) := rfl
    simp only [h1, h2]

theorem bytesOf_append (s t : ByteArray) : bytesOf (s ++ t) = bytesOf s ++ bytesOf t := by
  simp [bytesOf, ByteArray.data_append]

theorem binS_sound (op : BinOp) (t : TypeId) (x y : ByteArray) (v : V) (hop : op ≠ .shl) (hop' : op ≠ .shr) (h : binS op (bytesOf x) (bytesOf y) = some (true, v)) :
    ∃ v', (binOp op t (.string x) (.string y)).run P w = .ok v' w ∧ VRel I w ρ v v' := by
  have hl : Op.bytesLess x.toList y.toList = ltB (bytesOf x) (bytesOf y) := by rw [bytesLess_eq, ba_toList, ba_toList]; rfl
  cases op <;> simp only [binS, Option.some.injEq, Prod.mk.injEq, reduceCtorEq, true_and, decide_eq_true_eq, bytesOf_length] at h
  all_goals first | exact absurd rfl hop | exact absurd rfl hop' | skip
  case add =>
    obtain ⟨h1, rfl⟩ := h
    refine ⟨.string (x ++ y), ?_, ?_⟩
    · simp only [binOp, Op.stringOp]
      rw [if_neg]
      · rfl
      · have : IntKind.i64.max = 9223372036854775807 := by simp [IntKind.max, IntKind.signed, IntKind.bits]
        unfold maxStr at h1
        rw [this]; omega
    · rw [← bytesOf_append]; exact .str _ _
  all_goals
    subst h
    refine ⟨_, by simp only [binOp, Op.stringOp, Sem.run_pure]; rfl, ?_⟩
    first
      | (rw [bytesOf_beq]; exact .bool _ _)
      | (rw [hl]; exact .bool _ _)
      | (rw [bytesOf_beq, hl]; exact .bool _ _)

theorem shift_sound (op : BinOp) (t : TypeId) {x y v : V} {x' y' : Value} {n : Nat} (hx : VRel I w ρ x x') (hy : VRel I w ρ y y') (hs : shiftBy y = some (true, n))
    (hop : op = .shl ∧ shlV x n = some v ∨ op = .shr ∧ shrV x n = some v) : ∃ v', (binOp op t x' y').run P w = .ok v' w ∧ VRel I w ρ v v' := by
  obtain ⟨yk, b, rfl, hb, rfl⟩ : ∃ yk b, y' = .int yk b ∧ 0 ≤ b ∧ n = b.toNat := by
    cases hy <;> simp [shiftBy] at hs <;> exact ⟨_, _, rfl, by omega, by omega⟩
  have neg : ¬ b < 0 := by omega
  rcases hop with ⟨rfl, h⟩ | ⟨rfl, h⟩
  · cases hx <;> simp only [shlV, Option.some.injEq, reduceCtorEq] at h
    case int k a hk => subst h; exact ⟨_, by simp only [binOp, Op.shift, neg, if_false, Sem.run_pure]; rfl, .int _ _ _ hk⟩
    case u8 a => subst h; exact ⟨_, by simp only [binOp, Op.shift, neg, if_false, Sem.run_pure, wrap_uns .u8 rfl, show IntKind.u8.bits = 8 from rfl, shl_toNat], .u8 _ _⟩
    case u16 a => subst h; exact ⟨_, by simp only [binOp, Op.shift, neg, if_false, Sem.run_pure, wrap_uns .u16 rfl, show IntKind.u16.bits = 16 from rfl, shl_toNat], .u16 _ _⟩
    case u32 a => subst h; exact ⟨_, by simp only [binOp, Op.shift, neg, if_false, Sem.run_pure, wrap_uns .u32 rfl, show IntKind.u32.bits = 32 from rfl, shl_toNat], .u32 _ _⟩
    case u64 a => subst h; exact ⟨_, by simp only [binOp, Op.shift, neg, if_false, Sem.run_pure, wrap_uns .u64 rfl, show IntKind.u64.bits = 64 from rfl, shl_toNat], .u64 _ _⟩
  · cases hx <;> simp only [shrV, Option.some.injEq, reduceCtorEq] at h
    case int k a hk => subst h; exact ⟨_, by simp only [binOp, Op.shift, neg, if_false, Sem.run_pure], .int _ _ _ hk⟩
    case u8 a => subst h; exact ⟨_, by simp only [binOp, Op.shift, neg, if_false, Sem.run_pure, show IntKind.u8.bits = 8 from rfl, shr_toNat], .u8 _ _⟩
    case u16 a => subst h; exact ⟨_, by simp only [binOp, Op.shift, neg, if_false, Sem.run_pure, show IntKind.u16.bits = 16 from rfl, shr_toNat], .u16 _ _⟩
    case u32 a => subst h; exact ⟨_, by simp only [binOp, Op.shift, neg, if_false, Sem.run_pure, show IntKind.u32.bits = 32 from rfl, shr_toNat], .u32 _ _⟩
    case u64 a => subst h; exact ⟨_, by simp only [binOp, Op.shift, neg, if_false, Sem.run_pure, show IntKind.u64.bits = 64 from rfl, shr_toNat], .u64 _ _⟩
end
end Go.Lh
