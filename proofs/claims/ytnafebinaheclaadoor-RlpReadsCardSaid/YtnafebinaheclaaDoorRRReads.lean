/- What is read, and what is none, is what the document says: the law RlpReads returns true for all bytes and parts. (The frame: the guide's own templates, turned to arguments of any kind; the card by the builder's one call.) -/
import Derived.Test.YtnafebinaheclaaDoorRows
import Derived.Test.YtnafebinaheclaaDoorCards
import Derived.Test.YtnafebinaheclaaDoorTie
import Derived.Test.YtnafebinaheclaaDoorCRReads3
import Derived.Below
import Derived.WalkKit
import Derived.ProofKit
import Derived.OpenShut
import Derived.ShutString
import Derived.ChangeOld
import Derived.SizedLaws
import Derived.LaidMore
import Derived.Lay
import Derived.SevenTiedAt
import Derived.Stop.Joined
namespace Go.Proofs.YtnafebinaheclaaDoor.rlpReads
open Go.ChangeShapes Go.WideShapes Go.ChangeAt Go.RowKit
open Go.ChangeMaps (open_string shut_string)

theorem own : ownKnob Tryd.prog.godebug = none := by kernel_rfl
theorem laidOut : laidOutB Tryd.prog = true := by kernel_rfl

set_option maxRecDepth 100000 in
theorem walk {H : Type} {enc : TypeId × Value → H} {base : Nat} (v0 v1 v2 v3 v4 v5 : Value) (w : World) (h0 : Value.okWide Tryd.prog w .any base 9 v0) (h1 : Value.okWide Tryd.prog w .any base 4 v1) (h2 : Value.okWide Tryd.prog w .any base 22 v2) (h3 : Value.okWide Tryd.prog w .any base 3 v3) (h4 : Value.okWide Tryd.prog w .any base 5 v4) (h5 : Value.okWide Tryd.prog w .any base 9 v5)
    {d0 : DataW H} {p0 : List MemPlace} (k0 : DataW.Trod enc Tryd.prog w 0 (fun _ => true) true 9 v0 d0 p0) {d1 : DataW H} {p1 : List MemPlace} (k1 : DataW.Trod enc Tryd.prog w 0 (fun _ => true) true 4 v1 d1 p1) {d2 : DataW H} {p2 : List MemPlace} (k2 : DataW.Trod enc Tryd.prog w 0 (fun _ => true) true 22 v2 d2 p2) {d3 : DataW H} {p3 : List MemPlace} (k3 : DataW.Trod enc Tryd.prog w 0 (fun _ => true) true 3 v3 d3 p3) {d4 : DataW H} {p4 : List MemPlace} (k4 : DataW.Trod enc Tryd.prog w 0 (fun _ => true) true 5 v4 d4 p4) {d5 : DataW H} {p5 : List MemPlace} (k5 : DataW.Trod enc Tryd.prog w 0 (fun _ => true) true 9 v5 d5 p5) {gs : List (DataW H)} (sz : (DataW.weightsEach Tryd.prog (Tryd.f4.params.toList ++ (Rows.rlpReadsSpec).plain.varTypes Tryd.prog) ([d0, d1, d2, d3, d4, d5] ++ gs)).all (· ≤ reachBytes) = true) :
    Calls Tryd.prog 4 #[v0, v1, v2, v3, v4, v5] w fun e w' => e = .returned (.bool true) ∧ Below w.heap.size w w' := by
  obtain ⟨s0, r0, l0⟩ := Lh.str_arg' Tryd.underlying9 h0
  obtain ⟨a1, rfl, rfl, rfl⟩ := open_bool Tryd.underlying4 h1 k1
  obtain ⟨n, x, hx⟩ := K.parts_arg h2 k2
  obtain ⟨a3, rfl, rfl, rfl, w3⟩ := open_int Tryd.underlying3 h3 k3
  have h3w : -9223372036854775808 ≤ a3 ∧ a3 ≤ 9223372036854775807 := by
    have w3 := w3
    simp only [Lit.wf, IntKind.min, IntKind.max, IntKind.signed, IntKind.bits, Bool.and_eq_true, decide_eq_true_eq] at w3
    simp at w3
    omega
  obtain ⟨a4, rfl, rfl, rfl, w4⟩ := open_int Tryd.underlying5 h4 k4
  obtain ⟨a5, rfl, rfl, rfl, w5⟩ := open_string Tryd.underlying9 h5 k5
  have z5 := Lh.Zd.of_each sz (j := 5) (t := 9) (by rw [Tryd.params4]; rfl) rfl
  have l5 : (Lh.bytesOf a5).length ≤ 4611686018427387904 := by
    unfold Lh.bytesOf
    rw [List.length_map]
    exact Nat.le_trans (z5 _ (by simp [DataW.weights])) (by decide)
  exact Lh.LFn.law (K.rlpReads_fn s0 (Lh.bytesOf a5) a1 n x a3 (BitVec.ofInt 8 a4) h3w l5) w (.cons _ _ _ _ _ (r0 _) (.cons _ _ _ _ _ (.bool _ _) (.cons _ _ _ _ _ (hx _) (.cons _ _ _ _ _ (.int _ _ _ rfl) (.cons _ _ _ _ _ (Lh.vu8 w4) (.cons _ _ _ _ _ (.str _ _) (.nil _)))))))

set_option maxRecDepth 100000 in
theorem lifted (os : Os) (started : os.Started) (H : Type) (enc : TypeId × Value → H) :
    ReturnsInHanded {} Tryd.checked os 4 .any (fun w args => (Rows.rlpReadsSpec.pre enc Tryd.prog Tryd.f4 Rows.rlpReadsRow.domain false w args ∧ laidMetH Tryd.prog Rows.rlpReadsRow.laid w) ∧ sizedMet enc Tryd.prog Tryd.f4 (OpenSpec.ofChange Rows.rlpReadsSpec) false w args)
      (Rows.rlpReadsSpec.post enc Tryd.prog Tryd.f4 false true false false) := by
  refine returnsInHanded_of_change_and (C := Tryd.checked) (X := fun w _ => laidMetH Tryd.prog Rows.rlpReadsRow.laid w) (fun _ _ _ hh h => h.of_heap hh) own started (by kernel_rfl) Tryd.func4
    (ChangeSpec.witness_shaped (enc := enc) (C := Tryd.checked) (os := os) (X := fun w _ => laidMetH Tryd.prog Rows.rlpReadsRow.laid w) false (World.laidAll Tryd.prog os Rows.rlpReadsRow.laid) #[.string ByteArray.empty, .bool false, .slice none 0 0, .int .i64 0, .int .u8 0, .string ByteArray.empty] 8 (World.laidAll_os _ _ _)
      (World.shaped_of_ZipB (by kernel_rfl) (by kernel_rfl)) (by kernel_rfl) (by kernel_rfl) (by kernel_rfl)
      (by rw [MakeChecks.laidMetH_plain _ _ _ (by kernel_rfl)]; exact laidMet_laidAll _ (by kernel_rfl) (by kernel_rfl))) ?_
  intro W base args ds gs before hval0 hW hcnd hz hL _
  have hval : ∀ (j : Nat) t v, Tryd.f4.params[j]? = some t → args[j]? = some v → Value.okWide Tryd.prog W .any base t v := hval0
  have hW' := hW
  obtain ⟨p, q, hA0, hV, rfl, hfz, hnd⟩ := hW
  have hA : DataW.TrodAll enc Tryd.prog W 0 (fun _ => true) true Tryd.f4.params.toList args.toList ds p := hA0
  rw [Tryd.params4] at hA hval
  obtain ⟨v0, vs0, d0, ds0, p0, q0, hargs, rfl, rfl, h0, r0⟩ := trodAll_cons hA
  obtain ⟨v1, vs1, d1, ds1, p1, q1, rfl, rfl, rfl, h1, r1⟩ := trodAll_cons r0
  obtain ⟨v2, vs2, d2, ds2, p2, q2, rfl, rfl, rfl, h2, r2⟩ := trodAll_cons r1
  obtain ⟨v3, vs3, d3, ds3, p3, q3, rfl, rfl, rfl, h3, r3⟩ := trodAll_cons r2
  obtain ⟨v4, vs4, d4, ds4, p4, q4, rfl, rfl, rfl, h4, r4⟩ := trodAll_cons r3
  obtain ⟨v5, vs5, d5, ds5, p5, q5, rfl, rfl, rfl, h5, r5⟩ := trodAll_cons r4
  obtain ⟨rfl, rfl, rfl⟩ := trodAll_nil r5
  obtain rfl : args = #[v0, v1, v2, v3, v4, v5] := by cases args; simp_all
  obtain ⟨rfl, rfl⟩ := trodVars_none hV
  have lt0 : ∀ x ∈ p0, x.block < W.heap.size := by obtain ⟨m, hm⟩ := h0; exact DataW.trod_lt m _ _ _ hm
  have lt1 : ∀ x ∈ p1, x.block < W.heap.size := by obtain ⟨m, hm⟩ := h1; exact DataW.trod_lt m _ _ _ hm
  have lt2 : ∀ x ∈ p2, x.block < W.heap.size := by obtain ⟨m, hm⟩ := h2; exact DataW.trod_lt m _ _ _ hm
  have lt3 : ∀ x ∈ p3, x.block < W.heap.size := by obtain ⟨m, hm⟩ := h3; exact DataW.trod_lt m _ _ _ hm
  have lt4 : ∀ x ∈ p4, x.block < W.heap.size := by obtain ⟨m, hm⟩ := h4; exact DataW.trod_lt m _ _ _ hm
  have lt5 : ∀ x ∈ p5, x.block < W.heap.size := by obtain ⟨m, hm⟩ := h5; exact DataW.trod_lt m _ _ _ hm
  refine (walk v0 v1 v2 v3 v4 v5 W (hval 0 9 v0 rfl rfl) (hval 1 4 v1 rfl rfl) (hval 2 22 v2 rfl rfl) (hval 3 3 v3 rfl rfl) (hval 4 5 v4 rfl rfl) (hval 5 9 v5 rfl rfl) h0 h1 h2 h3 h4 h5 hz).mono fun e W' ⟨he, bel⟩ => ?_
  subst he
  exact ⟨_, rfl, _, _, _, [], _, [], hW', trodAll_mk1 (shut_bool Tryd.underlying4 _), (trodAll_cons_mk (Below.trod laidOut (by kernel_rfl) (of_decide_eq_true (by kernel_rfl)) h0 bel lt0) (trodAll_cons_mk (Below.trod laidOut (by kernel_rfl) (of_decide_eq_true (by kernel_rfl)) h1 bel lt1) (trodAll_cons_mk (Below.trod laidOut (by kernel_rfl) (of_decide_eq_true (by kernel_rfl)) h2 bel lt2) (trodAll_cons_mk (Below.trod laidOut (by kernel_rfl) (of_decide_eq_true (by kernel_rfl)) h3 bel lt3) (trodAll_cons_mk (Below.trod laidOut (by kernel_rfl) (of_decide_eq_true (by kernel_rfl)) h4 bel lt4) (trodAll_cons_mk (Below.trod laidOut (by kernel_rfl) (of_decide_eq_true (by kernel_rfl)) h5 bel lt5) trodAll_mk0)))))), rfl, bel.frame _, fun h => by cases h⟩

theorem over : Rows.rlpReadsRow.holds Tryd.pinned (OpenSpec.ofChange Rows.rlpReadsSpec) :=
  OpenClaim.holds_of_wide 4 Tryd.f4 rfl rfl rfl rfl rfl rfl rfl ⟨rfl, rfl, rfl, rfl, rfl⟩ rfl rfl rfl rfl rfl (by kernel_rfl) Tryd.func4 (by kernel_rfl)
    (of_decide_eq_true (by kernel_rfl)) (by unfold Func.isWrapper; first | (rw [if_pos (by decide +kernel)]; kernel_rfl) | (rw [if_neg (by decide +kernel)]; exact ⟨rfl, rfl⟩))
    (fun os started H enc _ => lifted os started H enc)

theorem proved : Rows.RlpReadsCardSaid :=
  Claim7.holds_tied_plain_at .later [] [.data, .pinned] true (true, "9ff402f1bc92674684905864ccca8e63b8015376d44cc63d123eafe644928dd7") true over (fun _ h => by cases h) (by kernel_rfl) (fun _ h => by cases h) rlpReads_row_tie rfl ⟨rfl, rfl⟩ (by kernel_rfl) rfl
    (fun f fn hf hfn => by
      obtain rfl : f = 4 := Option.some.inj ((show Tryd.prog.funcNamed "stithy/stithylaw04.RlpReads" = some 4 by kernel_rfl).symm.trans hf) |>.symm
      obtain rfl : fn = Tryd.f4 := (Option.some.inj (Tryd.func4.symm.trans hfn)).symm
      exact ⟨by kernel_rfl, fun j t ht => by
        rw [Tryd.params4] at ht
        have hm : t ∈ [9, 4, 22, 3, 5, 9] := by simpa using Array.mem_of_getElem? ht
        have hall : ([9, 4, 22, 3, 5, 9].all fun u => !Tryd.prog.wantsStandIn u) = true := by kernel_rfl
        exact (show Tryd.prog.wantsStandIn t = false by simpa using List.all_eq_true.1 hall t hm)⟩)
    (by kernel_rfl)
#print axioms proved
end Go.Proofs.YtnafebinaheclaaDoor.rlpReads
