/- What any base, any transaction come to, by both: the law. (The frame: the guide's own template, turned to arguments of any kind.) -/
import Derived.Test.YtajbaocfdlopbaaRows
import Derived.Test.YtajbaocfdlopbaaCFReckons4
import Derived.Below
import Derived.WalkKit
import Derived.ProofKit
import Derived.OpenShut
import Derived.ShutString
import Derived.ChangeOld
namespace Go.Proofs.Ytajbaocfdlopbaa.feeReckons
open Go.ChangeShapes Go.WideShapes Go.ChangeAt Go.RowKit
open Go.ChangeMaps (open_string shut_string)

theorem own : ownKnob Try.prog.godebug = none := by kernel_rfl
theorem laidOut : laidOutB Try.prog = true := by kernel_rfl

set_option maxRecDepth 100000 in
theorem w_types : Try.prog.cellTypes Try.prog.depth 24 = some [22, 22, 22, 22] := by kernel_rfl
theorem w_cells : Try.prog.cellsOf 24 = 4 := by kernel_rfl

set_option maxRecDepth 100000 in
theorem walk {H : Type} {enc : TypeId × Value → H} {base : Nat} (v0 v1 v2 v3 v4 : Value) (w : World) (h0 : Value.okWide Try.prog w .any base 24 v0) (h1 : Value.okWide Try.prog w .any base 22 v1) (h2 : Value.okWide Try.prog w .any base 22 v2) (h3 : Value.okWide Try.prog w .any base 60 v3) (h4 : Value.okWide Try.prog w .any base 4 v4)
    {d0 : DataW H} {p0 : List MemPlace} (k0 : DataW.Trod enc Try.prog w 0 (fun _ => true) true 24 v0 d0 p0) {d1 : DataW H} {p1 : List MemPlace} (k1 : DataW.Trod enc Try.prog w 0 (fun _ => true) true 22 v1 d1 p1) {d2 : DataW H} {p2 : List MemPlace} (k2 : DataW.Trod enc Try.prog w 0 (fun _ => true) true 22 v2 d2 p2) {d3 : DataW H} {p3 : List MemPlace} (k3 : DataW.Trod enc Try.prog w 0 (fun _ => true) true 60 v3 d3 p3) {d4 : DataW H} {p4 : List MemPlace} (k4 : DataW.Trod enc Try.prog w 0 (fun _ => true) true 4 v4 d4 p4) :
    Calls Try.prog 16 #[v0, v1, v2, v3, v4] w fun e w' => e = .returned (.bool true) ∧ Below w.heap.size w w' := by
  obtain ⟨x0, r0⟩ := Lh.word_arg (I := Lh.Old w) (ρ := fun _ => none) Try.underlying24 w_types w_cells Try.underlying22 h0
  obtain ⟨a1, rfl, rfl, rfl, w1⟩ := open_int Try.underlying22 h1 k1
  obtain ⟨a2, rfl, rfl, rfl, w2⟩ := open_int Try.underlying22 h2 k2
  obtain ⟨k, s1, s2, n, g, p, t, q, d, ln, f, r3⟩ := K.txX_arg h3 k3
  obtain ⟨a4, rfl, rfl, rfl⟩ := open_bool Try.underlying4 h4 k4
  exact Lh.LFn.law (K.feeReckons_fn x0 (BitVec.ofInt 64 a1) (BitVec.ofInt 64 a2) k s1 s2 d n g p t q ln f a4) w (.cons _ _ _ _ _ r0 (.cons _ _ _ _ _ (Lh.vu64 w1) (.cons _ _ _ _ _ (Lh.vu64 w2) (.cons _ _ _ _ _ (r3 _) (.cons _ _ _ _ _ (.bool _ _) (.nil _))))))

set_option maxRecDepth 100000 in
theorem lifted (os : Os) (started : os.Started) (H : Type) (enc : TypeId × Value → H) :
    ReturnsInHanded {} Try.checked os 16 .any (Rows.feeReckonsSpec.pre6 enc Try.prog Try.f16 Rows.feeReckonsRow.domain false) (Rows.feeReckonsSpec.post enc Try.prog Try.f16 false true false false) := by
  refine returnsInHanded_of_change (C := Try.checked) own started (by kernel_rfl) Try.func16
    (ChangeSpec.witness6 (enc := enc) (C := Try.checked) false ⟨#[], #[.agg #[.int .u64 0, .int .u64 0, .int .u64 0, .int .u64 0], .int .u64 0, .int .u64 0, .agg #[.int .i64 0, .string ByteArray.empty, .string ByteArray.empty, .int .u64 0, .int .u64 0, .int .u64 0, .int .u64 0, .int .u64 0, .int .u64 0, .int .u64 0, .int .u64 0, .int .u64 0, .int .u64 0, .int .u64 0, .int .u64 0, .int .u64 0, .int .u64 0, .string ByteArray.empty, .slice none 0 0], .bool false], []⟩ 8 (by kernel_rfl) (by kernel_rfl) (by kernel_rfl) (by kernel_rfl)) ?_
  intro W base args ds gs before hval0 hW hcnd _
  have hval : ∀ (j : Nat) t v, Try.f16.params[j]? = some t → args[j]? = some v → Value.okWide Try.prog W .any base t v := hval0
  have hW' := hW
  obtain ⟨p, q, hA0, hV, rfl, hfz, hnd⟩ := hW
  have hA : DataW.TrodAll enc Try.prog W 0 (fun _ => true) true Try.f16.params.toList args.toList ds p := hA0
  rw [Try.params16] at hA hval
  obtain ⟨v0, vs0, d0, ds0, p0, q0, hargs, rfl, rfl, h0, r0⟩ := trodAll_cons hA
  obtain ⟨v1, vs1, d1, ds1, p1, q1, rfl, rfl, rfl, h1, r1⟩ := trodAll_cons r0
  obtain ⟨v2, vs2, d2, ds2, p2, q2, rfl, rfl, rfl, h2, r2⟩ := trodAll_cons r1
  obtain ⟨v3, vs3, d3, ds3, p3, q3, rfl, rfl, rfl, h3, r3⟩ := trodAll_cons r2
  obtain ⟨v4, vs4, d4, ds4, p4, q4, rfl, rfl, rfl, h4, r4⟩ := trodAll_cons r3
  obtain ⟨rfl, rfl, rfl⟩ := trodAll_nil r4
  obtain rfl : args = #[v0, v1, v2, v3, v4] := by cases args; simp_all
  obtain ⟨rfl, rfl⟩ := trodVars_none hV
  have lt0 : ∀ x ∈ p0, x.block < W.heap.size := by obtain ⟨m, hm⟩ := h0; exact DataW.trod_lt m _ _ _ hm
  have lt1 : ∀ x ∈ p1, x.block < W.heap.size := by obtain ⟨m, hm⟩ := h1; exact DataW.trod_lt m _ _ _ hm
  have lt2 : ∀ x ∈ p2, x.block < W.heap.size := by obtain ⟨m, hm⟩ := h2; exact DataW.trod_lt m _ _ _ hm
  have lt3 : ∀ x ∈ p3, x.block < W.heap.size := by obtain ⟨m, hm⟩ := h3; exact DataW.trod_lt m _ _ _ hm
  have lt4 : ∀ x ∈ p4, x.block < W.heap.size := by obtain ⟨m, hm⟩ := h4; exact DataW.trod_lt m _ _ _ hm
  refine (walk v0 v1 v2 v3 v4 W (hval 0 24 v0 rfl rfl) (hval 1 22 v1 rfl rfl) (hval 2 22 v2 rfl rfl) (hval 3 60 v3 rfl rfl) (hval 4 4 v4 rfl rfl) h0 h1 h2 h3 h4).mono fun e W' ⟨he, bel⟩ => ?_
  subst he
  exact ⟨_, rfl, _, _, _, [], _, [], hW', trodAll_mk1 (shut_bool Try.underlying4 _), (trodAll_cons_mk (Below.trod laidOut (by kernel_rfl) (of_decide_eq_true (by kernel_rfl)) h0 bel lt0) (trodAll_cons_mk (Below.trod laidOut (by kernel_rfl) (of_decide_eq_true (by kernel_rfl)) h1 bel lt1) (trodAll_cons_mk (Below.trod laidOut (by kernel_rfl) (of_decide_eq_true (by kernel_rfl)) h2 bel lt2) (trodAll_cons_mk (Below.trod laidOut (by kernel_rfl) (of_decide_eq_true (by kernel_rfl)) h3 bel lt3) (trodAll_cons_mk (Below.trod laidOut (by kernel_rfl) (of_decide_eq_true (by kernel_rfl)) h4 bel lt4) trodAll_mk0))))), rfl, bel.frame _, fun h => by cases h⟩

theorem over : Rows.feeReckonsRow.holds Try.pinned (OpenSpec.ofChange Rows.feeReckonsSpec) :=
  OpenClaim.holds_of_wide 16 Try.f16 rfl rfl rfl rfl rfl rfl rfl ⟨rfl, rfl, rfl, rfl, rfl⟩ rfl rfl rfl rfl rfl (by kernel_rfl) Try.func16 (by kernel_rfl)
    (of_decide_eq_true (by kernel_rfl)) (by unfold Func.isWrapper; first | (rw [if_pos (by decide +kernel)]; kernel_rfl) | (rw [if_neg (by decide +kernel)]; exact ⟨rfl, rfl⟩))
    (fun os started H enc _ => lifted os started H enc)

theorem proved : Rows.FeeReckonsSaid := over
#print axioms proved
end Go.Proofs.Ytajbaocfdlopbaa.feeReckons
