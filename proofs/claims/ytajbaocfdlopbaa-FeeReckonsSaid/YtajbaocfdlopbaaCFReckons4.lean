/- The functions that this law reaches: what each comes to. -/
import Derived.Test.YtajbaocfdlopbaaCFReckons3
set_option linter.unusedSimpArgs false
set_option linter.unusedVariables false
section
open Go Go.Lh
namespace Go.Proofs.Ytajbaocfdlopbaa.K
noncomputable section
set_option maxRecDepth 100000
structure AXr where
  a : Nat → List (BitVec 8)
  m : Nat → Nat
def axFr (x : AXr) : Nat → Nat → V := fun i j => match j with
  | 0 => .str (x.a i)
  | _ + 1 => .isl 4 (x.m i) (fun _ _ => .any)
section
variable {H : Type} {enc : TypeId × Value → H} {w : World}
theorem wordX_TR : ∀ {H : Type} {enc : TypeId × Value → H} {w : World},
  TR enc Pr w 0 (fun (x : Nat) => true) true 24
    (fun (p : BitVec 64 × BitVec 64 × BitVec 64 × BitVec 64 × Unit) =>
      [V.u64 p.fst] ++ ([V.u64 p.snd.fst] ++ ([V.u64 p.snd.snd.fst] ++ ([V.u64 p.snd.snd.snd.fst] ++ []))))
    fun (p : BitVec 64 × BitVec 64 × BitVec 64 × BitVec 64 × Unit) => True ∧ True ∧ True ∧ True ∧ True := by
  intro H enc w
  have h := TR.struct (enc := enc) (P := Pr) (w := w) (base := 0) (spare := fun _ => true) (held := true) (T := 4) Go.Proofs.Try.underlying24 (l := [_, _, _, _]) rfl (by kernel_rfl) (TRF.cons' 22 1 (by rfl) (by rfl) (by kernel_rfl) (TR.u64 (by kernel_rfl)) (TRF.cons' 22 1 (by rfl) (by rfl) (by kernel_rfl) (TR.u64 (by kernel_rfl)) (TRF.cons' 22 1 (by rfl) (by rfl) (by kernel_rfl) (TR.u64 (by kernel_rfl)) (TRF.cons' 22 1 (by rfl) (by rfl) (by kernel_rfl) (TR.u64 (by kernel_rfl)) (TRF.nil 4)))))
  exact h
theorem accX_TR : ∀ {H : Type} {enc : TypeId × Value → H} {w : World},
  TR enc Pr w 0 (fun (x : Nat) => true) true 74
    (fun (p : List (BitVec 8) × Nat × Unit) => [V.str p.fst] ++ ([V.isl 4 p.snd.fst fun (x x_1 : Nat) => V.any] ++ []))
    fun (p : List (BitVec 8) × Nat × Unit) =>
    p.fst.length < 9223372036854775808 ∧ p.snd.fst < 9223372036854775808 ∧ True := by
  intro H enc w
  have h := TR.struct (enc := enc) (P := Pr) (w := w) (base := 0) (spare := fun _ => true) (held := true) (T := 2) Go.Proofs.Try.underlying74 (l := [_, _]) rfl (by kernel_rfl) (TRF.cons' 9 1 (by rfl) (by rfl) (by kernel_rfl) (TR.str (by kernel_rfl)) (TRF.cons' 66 1 (by rfl) (by rfl) (by kernel_rfl) (TR.rows (e := 24) 4 (by kernel_rfl) (by kernel_rfl) (by decide) wordX_TR) (TRF.nil 2)))
  exact h
theorem txX_TR : ∀ {H : Type} {enc : TypeId × Value → H} {w : World},
  TR enc Pr w 0 (fun (x : Nat) => true) true 60
    (fun
        (p :
          Int ×
            List (BitVec 8) ×
              List (BitVec 8) ×
                BitVec 64 ×
                  BitVec 64 ×
                    (BitVec 64 × BitVec 64 × BitVec 64 × BitVec 64 × Unit) ×
                      (BitVec 64 × BitVec 64 × BitVec 64 × BitVec 64 × Unit) ×
                        (BitVec 64 × BitVec 64 × BitVec 64 × BitVec 64 × Unit) ×
                          List (BitVec 8) × (Nat × AXr) × Unit) =>
      [V.int IntKind.i64 p.fst] ++
        ([V.str p.snd.fst] ++
          ([V.str p.snd.snd.fst] ++
            ([V.u64 p.snd.snd.snd.fst] ++
              ([V.u64 p.snd.snd.snd.snd.fst] ++
                ([V.u64 p.snd.snd.snd.snd.snd.fst.fst] ++
                    ([V.u64 p.snd.snd.snd.snd.snd.fst.snd.fst] ++
                      ([V.u64 p.snd.snd.snd.snd.snd.fst.snd.snd.fst] ++
                        ([V.u64 p.snd.snd.snd.snd.snd.fst.snd.snd.snd.fst] ++ []))) ++
                  ([V.u64 p.snd.snd.snd.snd.snd.snd.fst.fst] ++
                      ([V.u64 p.snd.snd.snd.snd.snd.snd.fst.snd.fst] ++
                        ([V.u64 p.snd.snd.snd.snd.snd.snd.fst.snd.snd.fst] ++
                          ([V.u64 p.snd.snd.snd.snd.snd.snd.fst.snd.snd.snd.fst] ++ []))) ++
                    ([V.u64 p.snd.snd.snd.snd.snd.snd.snd.fst.fst] ++
                        ([V.u64 p.snd.snd.snd.snd.snd.snd.snd.fst.snd.fst] ++
                          ([V.u64 p.snd.snd.snd.snd.snd.snd.snd.fst.snd.snd.fst] ++
                            ([V.u64 p.snd.snd.snd.snd.snd.snd.snd.fst.snd.snd.snd.fst] ++ []))) ++
                      ([V.str p.snd.snd.snd.snd.snd.snd.snd.snd.fst] ++
                        ([V.isl 2 p.snd.snd.snd.snd.snd.snd.snd.snd.snd.fst.fst
                              (axFr p.snd.snd.snd.snd.snd.snd.snd.snd.snd.fst.snd)] ++
                          []))))))))))
    fun
      (p :
        Int ×
          List (BitVec 8) ×
            List (BitVec 8) ×
              BitVec 64 ×
                BitVec 64 ×
                  (BitVec 64 × BitVec 64 × BitVec 64 × BitVec 64 × Unit) ×
                    (BitVec 64 × BitVec 64 × BitVec 64 × BitVec 64 × Unit) ×
                      (BitVec 64 × BitVec 64 × BitVec 64 × BitVec 64 × Unit) × List (BitVec 8) × (Nat × AXr) × Unit) =>
    (p.fst < 9223372036854775808 ∧ -9223372036854775808 ≤ p.fst) ∧
      p.snd.fst.length < 9223372036854775808 ∧
        p.snd.snd.fst.length < 9223372036854775808 ∧
          True ∧
            True ∧
              (True ∧ True ∧ True ∧ True ∧ True) ∧
                (True ∧ True ∧ True ∧ True ∧ True) ∧
                  (True ∧ True ∧ True ∧ True ∧ True) ∧
                    p.snd.snd.snd.snd.snd.snd.snd.snd.fst.length < 9223372036854775808 ∧
                      (p.snd.snd.snd.snd.snd.snd.snd.snd.snd.fst.fst < 9223372036854775808 ∧
                          ∃ (A : Nat → List (BitVec 8) × Nat × Unit),
                            { a := fun (i : Nat) => (A i).fst, m := fun (i : Nat) => (A i).snd.fst } =
                                p.snd.snd.snd.snd.snd.snd.snd.snd.snd.fst.snd ∧
                              ∀ (i : Nat),
                                i < p.snd.snd.snd.snd.snd.snd.snd.snd.snd.fst.fst →
                                  (A i).fst.length < 9223372036854775808 ∧ (A i).snd.fst < 9223372036854775808 ∧ True) ∧
                        True := by
  intro H enc w
  have h := TR.struct (enc := enc) (P := Pr) (w := w) (base := 0) (spare := fun _ => true) (held := true) (T := 19) Go.Proofs.Try.underlying60 (l := [_, _, _, _, _, _, _, _, _, _]) rfl (by kernel_rfl) (TRF.cons' 3 1 (by rfl) (by rfl) (by kernel_rfl) (TR.i64 (by kernel_rfl)) (TRF.cons' 9 1 (by rfl) (by rfl) (by kernel_rfl) (TR.str (by kernel_rfl)) (TRF.cons' 9 1 (by rfl) (by rfl) (by kernel_rfl) (TR.str (by kernel_rfl)) (TRF.cons' 22 1 (by rfl) (by rfl) (by kernel_rfl) (TR.u64 (by kernel_rfl)) (TRF.cons' 22 1 (by rfl) (by rfl) (by kernel_rfl) (TR.u64 (by kernel_rfl)) (TRF.cons' 24 4 (by rfl) (by rfl) (by kernel_rfl) (wordX_TR) (TRF.cons' 24 4 (by rfl) (by rfl) (by kernel_rfl) (wordX_TR) (TRF.cons' 24 4 (by rfl) (by rfl) (by kernel_rfl) (wordX_TR) (TRF.cons' 9 1 (by rfl) (by rfl) (by kernel_rfl) (TR.str (by kernel_rfl)) (TRF.cons' 58 1 (by rfl) (by rfl) (by kernel_rfl) (TR.sliceAs (e := 74) 2 (fun A => (⟨fun i => (A i).1, fun i => (A i).2.1⟩ : AXr)) axFr (fun A i j hj => by match j, hj with | 0, _ => rfl | 1, _ => rfl) (by kernel_rfl) (by kernel_rfl) (by decide) accX_TR) (TRF.nil 19)))))))))))
  exact h
theorem txX_arg {r : Reach} {b0 : Nat} {v : Value} {d : DataW H} {p : List MemPlace} (hok : Value.okWide Pr w r b0 60 v) (hr : DataW.Trod enc Pr w 0 (fun _ => true) true 60 v d p) :
    ∃ (k : Int) (s1 s2 : List (BitVec 8)) (n g : BitVec 64) (p t q : W4) (d : List (BitVec 8)) (ln : Nat) (f : Nat → Nat → V), (∀ ρ, VRel (Old w) w ρ (.agg [.int .i64 k, .str s1, .str s2, .u64 n, .u64 g, .u64 p.a, .u64 p.b, .u64 p.c, .u64 p.d, .u64 t.a, .u64 t.b, .u64 t.c, .u64 t.d, .u64 q.a, .u64 q.b, .u64 q.c, .u64 q.d, .str d, .isl 2 ln f]) v) := by
  obtain ⟨a, ha, hq⟩ := TR.arg_struct Go.Proofs.Try.underlying60 txX_TR hok hr
  obtain ⟨k, s1, s2, n, g, ⟨p0, p1, p2, p3, _⟩, ⟨t0, t1, t2, t3, _⟩, ⟨v0, v1, v2, v3, _⟩, d, ⟨ln, f⟩, _⟩ := a
  exact ⟨k, s1, s2, n, g, ⟨p0, p1, p2, p3⟩, ⟨t0, t1, t2, t3⟩, ⟨v0, v1, v2, v3⟩, d, ln, _, fun ρ => ha ρ⟩
end
end
end Go.Proofs.Ytajbaocfdlopbaa.K
end
