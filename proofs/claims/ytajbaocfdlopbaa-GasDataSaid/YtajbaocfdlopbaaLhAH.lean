/- Structs that come in: their cells. -/
import Derived.Test.YtajbaocfdlopbaaLhAG
set_option linter.unusedSimpArgs false
set_option linter.unusedVariables false
namespace Go.Lh
section
variable {P : Program} {w : World} {r : Reach} {base : Nat}
theorem cells_okWide {t : TypeId} {fs : Array Field} {ts : List TypeId} {v : Value} (hs : P.underlying t = some (.struct fs)) (hct : P.cellTypes P.depth t = some ts) (hn : P.cellsOf t = ts.length) (h : Value.okWide P w r base t v) :
    ∃ l : List Value, v = .agg ⟨l⟩ ∧ l.length = ts.length ∧ ∀ (i : Nat) (u : TypeId), ts[i]? = some u → ∃ c, l[i]? = some c ∧ Cell.okWide P w r base u c := by
  simp only [Value.okWide, hs] at h
  obtain ⟨⟨l⟩, rfl, hsz, ts', hts, _, hc⟩ := h
  rw [hct] at hts
  cases hts
  have hl : l.length = ts.length := by rw [← hn]; simpa using hsz
  refine ⟨l, rfl, hl, fun i u hu => ?_⟩
  have hi : i < ts.length := (List.getElem?_eq_some_iff.1 hu).1
  have hli : l[i]? = some l[i] := List.getElem?_eq_getElem (by omega)
  refine ⟨_, hli, ?_⟩
  obtain ⟨u', h1, h2⟩ := hc i l[i] (by simp [hli])
  rw [Nat.mod_eq_of_lt hi, hu] at h1
  cases h1
  exact h2

theorem cell_u64 {I : Nat → Prop} {ρ : Ren} {u : TypeId} {c : Value} (hu : P.underlying u = some (.int .u64)) (h : Cell.okWide P w r base u c) : ∃ x : BitVec 64, VRel I w ρ (.u64 x) c := by
  simp only [Cell.okWide, Cell.ok, hu] at h
  cases c <;> simp only at h
  all_goals first | exact h.elim | skip
  rename_i k n
  obtain ⟨rfl, h1, h2⟩ := h
  exact ⟨_, vu64 (n := n) (by simp only [Lit.wf, Bool.and_eq_true, decide_eq_true_eq]; exact ⟨h1, h2⟩)⟩
theorem cell_i64 {I : Nat → Prop} {ρ : Ren} {u : TypeId} {c : Value} (hu : P.underlying u = some (.int .i64)) (h : Cell.okWide P w r base u c) : ∃ x : Int, VRel I w ρ (.int .i64 x) c ∧ x < 9223372036854775808 ∧ -9223372036854775808 ≤ x := by
  simp only [Cell.okWide, Cell.ok, hu] at h
  cases c <;> simp only at h
  all_goals first | exact h.elim | skip
  rename_i k n
  obtain ⟨rfl, h1, h2⟩ := h
  have hw : (Lit.int .i64 n).wf = true := by simp only [Lit.wf, Bool.and_eq_true, decide_eq_true_eq]; exact ⟨h1, h2⟩
  exact ⟨_, .int _ _ n rfl, int_lt hw, int_ge hw⟩
theorem cell_str {I : Nat → Prop} {ρ : Ren} {u : TypeId} {c : Value} (hu : P.underlying u = some .string) (h : Cell.okWide P w r base u c) : ∃ s : List (BitVec 8), VRel I w ρ (.str s) c ∧ s.length < 9223372036854775808 := by
  simp only [Cell.okWide, Cell.ok, hu] at h
  cases c <;> simp only at h
  all_goals first | exact h.elim | skip
  rename_i s
  refine ⟨_, .str _ s, ?_⟩
  have : (bytesOf s).length = s.size := by unfold bytesOf; rw [List.length_map]; rfl
  rw [this]
  have e : IntKind.i64.max = 9223372036854775807 := by decide
  rw [e] at h
  omega
theorem cell_bool {I : Nat → Prop} {ρ : Ren} {u : TypeId} {c : Value} (hu : P.underlying u = some .bool) (h : Cell.okWide P w r base u c) : ∃ b : Bool, VRel I w ρ (.bool b) c := by
  simp only [Cell.okWide, Cell.ok, hu] at h
  cases c <;> simp only at h
  all_goals first | exact h.elim | skip
  exact ⟨_, .bool _ _⟩

theorem word_arg {I : Nat → Prop} {ρ : Ren} {t u : TypeId} {fs : Array Field} {v : Value} (hs : P.underlying t = some (.struct fs)) (hct : P.cellTypes P.depth t = some [u, u, u, u]) (hn : P.cellsOf t = 4) (hu : P.underlying u = some (.int .u64)) (h : Value.okWide P w r base t v) :
    ∃ x : W4, VRel I w ρ x.v v := by
  obtain ⟨l, rfl, hl, hc⟩ := cells_okWide hs hct hn h
  obtain ⟨c0, e0, k0⟩ := hc 0 u rfl
  obtain ⟨c1, e1, k1⟩ := hc 1 u rfl
  obtain ⟨c2, e2, k2⟩ := hc 2 u rfl
  obtain ⟨c3, e3, k3⟩ := hc 3 u rfl
  obtain ⟨x0, r0⟩ := cell_u64 (I := I) (ρ := ρ) hu k0
  obtain ⟨x1, r1⟩ := cell_u64 (I := I) (ρ := ρ) hu k1
  obtain ⟨x2, r2⟩ := cell_u64 (I := I) (ρ := ρ) hu k2
  obtain ⟨x3, r3⟩ := cell_u64 (I := I) (ρ := ρ) hu k3
  match l, hl with
  | [a, b, c, d], _ =>
    simp at e0 e1 e2 e3
    subst e0 e1 e2 e3
    exact ⟨⟨x0, x1, x2, x3⟩, .agg _ _ _ (.cons _ _ _ _ _ r0 (.cons _ _ _ _ _ r1 (.cons _ _ _ _ _ r2 (.cons _ _ _ _ _ r3 (.nil _)))))⟩
end
end Go.Lh
