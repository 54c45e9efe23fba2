/- The law BloomAdds returns true for all texts, blooms and logs. (The frame: the guide's own template, turned to arguments of any kind.) -/
import Derived.Test.YtklgiongdiojcaaRows
import Derived.Test.YtklgiongdiojcaaCBAdds3
import Derived.Below
import Derived.WalkKit
import Derived.ProofKit
import Derived.OpenShut
import Derived.ShutString
import Derived.ChangeOld
import Derived.SizedLaws
namespace Go.Proofs.Ytklgiongdiojcaa.bloomAdds
open Go.ChangeShapes Go.WideShapes Go.ChangeAt Go.RowKit
open Go.ChangeMaps (open_string shut_string)

theorem own : ownKnob Try.prog.godebug = none := by kernel_rfl
theorem laidOut : laidOutB Try.prog = true := by kernel_rfl

set_option maxRecDepth 100000 in
theorem walk {H : Type} {enc : TypeId × Value → H} {base : Nat} (v0 v1 v2 v3 v4 v5 : Value) (w : World) (h0 : Value.okWide Try.prog w .any base 9 v0) (h1 : Value.okWide Try.prog w .any base 9 v1) (h2 : Value.okWide Try.prog w .any base 4 v2) (h3 : Value.okWide Try.prog w .any base 9 v3) (h4 : Value.okWide Try.prog w .any base 9 v4) (h5 : Value.okWide Try.prog w .any base 29 v5)
    {d0 : DataW H} {p0 : List MemPlace} (k0 : DataW.Trod enc Try.prog w 0 (fun _ => true) true 9 v0 d0 p0) {d1 : DataW H} {p1 : List MemPlace} (k1 : DataW.Trod enc Try.prog w 0 (fun _ => true) true 9 v1 d1 p1) {d2 : DataW H} {p2 : List MemPlace} (k2 : DataW.Trod enc Try.prog w 0 (fun _ => true) true 4 v2 d2 p2) {d3 : DataW H} {p3 : List MemPlace} (k3 : DataW.Trod enc Try.prog w 0 (fun _ => true) true 9 v3 d3 p3) {d4 : DataW H} {p4 : List MemPlace} (k4 : DataW.Trod enc Try.prog w 0 (fun _ => true) true 9 v4 d4 p4) {d5 : DataW H} {p5 : List MemPlace} (k5 : DataW.Trod enc Try.prog w 0 (fun _ => true) true 29 v5 d5 p5)
    (z0 : Lh.Zd Try.prog 9 d0) (z1 : Lh.Zd Try.prog 9 d1) (z2 : Lh.Zd Try.prog 4 d2) (z3 : Lh.Zd Try.prog 9 d3) (z4 : Lh.Zd Try.prog 9 d4) (z5 : Lh.Zd Try.prog 29 d5) :
    Calls Try.prog 5 #[v0, v1, v2, v3, v4, v5] w fun e w' => e = .returned (.bool true) ∧ Below w.heap.size w w' := by
  obtain ⟨a0, rfl, rfl, rfl, w0⟩ := open_string Try.underlying9 h0 k0
  obtain ⟨a1, rfl, rfl, rfl, w1⟩ := open_string Try.underlying9 h1 k1
  obtain ⟨a2, rfl, rfl, rfl⟩ := open_bool Try.underlying4 h2 k2
  obtain ⟨a3, rfl, rfl, rfl, w3⟩ := open_string Try.underlying9 h3 k3
  obtain ⟨a4, rfl, rfl, rfl, w4⟩ := open_string Try.underlying9 h4 k4
  obtain ⟨n, x, hx, hf⟩ := K.logs_arg h5 k5 z5
  have l0 : (Lh.bytesOf a0).length ≤ 140737488351232 := by unfold Lh.bytesOf; rw [List.length_map]; exact z0 _ (by simp [DataW.weights])
  have l1 : (Lh.bytesOf a1).length ≤ 140737488351232 := by unfold Lh.bytesOf; rw [List.length_map]; exact z1 _ (by simp [DataW.weights])
  exact Lh.LFn.law (K.badds_fn (Lh.bytesOf a0) (Lh.bytesOf a1) (Lh.bytesOf a3) (Lh.bytesOf a4) a2 n (K.lgF x) l0 l1 hf) w (.cons _ _ _ _ _ (.str _ _) (.cons _ _ _ _ _ (.str _ _) (.cons _ _ _ _ _ (.bool _ _) (.cons _ _ _ _ _ (.str _ _) (.cons _ _ _ _ _ (.str _ _) (.cons _ _ _ _ _ (hx _) (.nil _)))))))

set_option maxRecDepth 100000 in
theorem lifted (os : Os) (started : os.Started) (H : Type) (enc : TypeId × Value → H) :
    ReturnsInHanded {} Try.checked os 5 .any (Rows.bloomAddsSpec.pre6 enc Try.prog Try.f5 Rows.bloomAddsRow.domain false) (Rows.bloomAddsSpec.post enc Try.prog Try.f5 false true false false) := by
  refine returnsInHanded_of_change_sized (C := Try.checked) own started (by kernel_rfl) Try.func5
    (ChangeSpec.witness6 (enc := enc) (C := Try.checked) false ⟨#[], #[.string ByteArray.empty, .string ByteArray.empty, .bool false, .string ByteArray.empty, .string ByteArray.empty, .slice none 0 0], []⟩ 8 (by kernel_rfl) (by kernel_rfl) (by kernel_rfl) (by kernel_rfl)) ?_
  intro W base args ds gs before hval0 hW hcnd hz _
  have hval : ∀ (j : Nat) t v, Try.f5.params[j]? = some t → args[j]? = some v → Value.okWide Try.prog W .any base t v := hval0
  have hW' := hW
  obtain ⟨p, q, hA0, hV, rfl, hfz, hnd⟩ := hW
  have hA : DataW.TrodAll enc Try.prog W 0 (fun _ => true) true Try.f5.params.toList args.toList ds p := hA0
  rw [Try.params5] at hA hval
  obtain ⟨v0, vs0, d0, ds0, p0, q0, hargs, rfl, rfl, h0, r0⟩ := trodAll_cons hA
  obtain ⟨v1, vs1, d1, ds1, p1, q1, rfl, rfl, rfl, h1, r1⟩ := trodAll_cons r0
  obtain ⟨v2, vs2, d2, ds2, p2, q2, rfl, rfl, rfl, h2, r2⟩ := trodAll_cons r1
  obtain ⟨v3, vs3, d3, ds3, p3, q3, rfl, rfl, rfl, h3, r3⟩ := trodAll_cons r2
  obtain ⟨v4, vs4, d4, ds4, p4, q4, rfl, rfl, rfl, h4, r4⟩ := trodAll_cons r3
  obtain ⟨v5, vs5, d5, ds5, p5, q5, rfl, rfl, rfl, h5, r5⟩ := trodAll_cons r4
  obtain ⟨rfl, rfl, rfl⟩ := trodAll_nil r5
  obtain rfl : args = #[v0, v1, v2, v3, v4, v5] := by cases args; simp_all
  obtain ⟨rfl, rfl⟩ := trodVars_none hV
  have lt0 : ∀ x ∈ p0, x.block < W.heap.size := by obtain ⟨m, hm⟩ := h0; exact DataW.trod_lt m _ _ _ hm
  have lt1 : ∀ x ∈ p1, x.block < W.heap.size := by obtain ⟨m, hm⟩ := h1; exact DataW.trod_lt m _ _ _ hm
  have lt2 : ∀ x ∈ p2, x.block < W.heap.size := by obtain ⟨m, hm⟩ := h2; exact DataW.trod_lt m _ _ _ hm
  have lt3 : ∀ x ∈ p3, x.block < W.heap.size := by obtain ⟨m, hm⟩ := h3; exact DataW.trod_lt m _ _ _ hm
  have lt4 : ∀ x ∈ p4, x.block < W.heap.size := by obtain ⟨m, hm⟩ := h4; exact DataW.trod_lt m _ _ _ hm
  have lt5 : ∀ x ∈ p5, x.block < W.heap.size := by obtain ⟨m, hm⟩ := h5; exact DataW.trod_lt m _ _ _ hm
  have y0 : Lh.Zd Try.prog 9 d0 := Lh.Zd.of_each (j := 0) hz (by rw [Try.params5]; rfl) rfl
  have y1 : Lh.Zd Try.prog 9 d1 := Lh.Zd.of_each (j := 1) hz (by rw [Try.params5]; rfl) rfl
  have y2 : Lh.Zd Try.prog 4 d2 := Lh.Zd.of_each (j := 2) hz (by rw [Try.params5]; rfl) rfl
  have y3 : Lh.Zd Try.prog 9 d3 := Lh.Zd.of_each (j := 3) hz (by rw [Try.params5]; rfl) rfl
  have y4 : Lh.Zd Try.prog 9 d4 := Lh.Zd.of_each (j := 4) hz (by rw [Try.params5]; rfl) rfl
  have y5 : Lh.Zd Try.prog 29 d5 := Lh.Zd.of_each (j := 5) hz (by rw [Try.params5]; rfl) rfl
  refine (walk v0 v1 v2 v3 v4 v5 W (hval 0 9 v0 rfl rfl) (hval 1 9 v1 rfl rfl) (hval 2 4 v2 rfl rfl) (hval 3 9 v3 rfl rfl) (hval 4 9 v4 rfl rfl) (hval 5 29 v5 rfl rfl) h0 h1 h2 h3 h4 h5 y0 y1 y2 y3 y4 y5).mono fun e W' ⟨he, bel⟩ => ?_
  subst he
  exact ⟨_, rfl, _, _, _, [], _, [], hW', trodAll_mk1 (shut_bool Try.underlying4 _), (trodAll_cons_mk (Below.trod laidOut (by kernel_rfl) (of_decide_eq_true (by kernel_rfl)) h0 bel lt0) (trodAll_cons_mk (Below.trod laidOut (by kernel_rfl) (of_decide_eq_true (by kernel_rfl)) h1 bel lt1) (trodAll_cons_mk (Below.trod laidOut (by kernel_rfl) (of_decide_eq_true (by kernel_rfl)) h2 bel lt2) (trodAll_cons_mk (Below.trod laidOut (by kernel_rfl) (of_decide_eq_true (by kernel_rfl)) h3 bel lt3) (trodAll_cons_mk (Below.trod laidOut (by kernel_rfl) (of_decide_eq_true (by kernel_rfl)) h4 bel lt4) (trodAll_cons_mk (Below.trod laidOut (by kernel_rfl) (of_decide_eq_true (by kernel_rfl)) h5 bel lt5) trodAll_mk0)))))), rfl, bel.frame _, fun h => by cases h⟩

theorem over : Rows.bloomAddsRow.holds Try.pinned (OpenSpec.ofChange Rows.bloomAddsSpec) :=
  OpenClaim.holds_of_wide 5 Try.f5 rfl rfl rfl rfl rfl rfl rfl ⟨rfl, rfl, rfl, rfl, rfl⟩ rfl rfl rfl rfl rfl (by kernel_rfl) Try.func5 (by kernel_rfl)
    (of_decide_eq_true (by kernel_rfl)) (by unfold Func.isWrapper; first | (rw [if_pos (by decide +kernel)]; kernel_rfl) | (rw [if_neg (by decide +kernel)]; exact ⟨rfl, rfl⟩))
    (fun os started H enc _ => lifted os started H enc)

theorem proved : Rows.BloomAddsSaid := over
#print axioms proved
end Go.Proofs.Ytklgiongdiojcaa.bloomAdds
