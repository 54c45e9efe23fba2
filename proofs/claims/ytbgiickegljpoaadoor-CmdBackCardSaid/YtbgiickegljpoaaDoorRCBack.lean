/- Commands that are encoded and read back: the law CmdBack returns true for all numbers, words, texts and bytes. (The frame: the guide's own templates, turned to arguments of any kind; the card by the builder's one call.) -/
import Derived.Test.YtbgiickegljpoaaDoorRows
import Derived.Test.YtbgiickegljpoaaDoorCards
import Derived.Test.YtbgiickegljpoaaDoorTie
import Derived.Test.YtbgiickegljpoaaDoorCCBack3
import Derived.Below
import Derived.WalkKit
import Derived.ProofKit
import Derived.OpenShut
import Derived.ShutString
import Derived.ChangeOld
import Derived.SizedLaws
import Derived.LaidMore
import Derived.Lay
import Derived.SevenTiedAt
import Derived.Stop.Joined
namespace Go.Proofs.YtbgiickegljpoaaDoor.cmdBack
open Go.ChangeShapes Go.WideShapes Go.ChangeAt Go.RowKit
open Go.ChangeMaps (open_string shut_string)
theorem own : ownKnob Tryd.prog.godebug = none := by kernel_rfl
theorem laidOut : laidOutB Tryd.prog = true := by kernel_rfl
set_option maxRecDepth 100000 in
theorem w_types : Tryd.prog.cellTypes Tryd.prog.depth 24 = some [22, 22, 22, 22] := by kernel_rfl
theorem w_cells : Tryd.prog.cellsOf 24 = 4 := by kernel_rfl
set_option maxRecDepth 100000 in
theorem walk {H : Type} {enc : TypeId × Value → H} {base : Nat} (v0 v1 v2 v3 v4 v5 : Value) (w : World) (h0 : Value.okWide Tryd.prog w .any base 5 v0) (h1 : Value.okWide Tryd.prog w .any base 22 v1) (h2 : Value.okWide Tryd.prog w .any base 24 v2) (h3 : Value.okWide Tryd.prog w .any base 24 v3) (h4 : Value.okWide Tryd.prog w .any base 9 v4) (h5 : Value.okWide Tryd.prog w .any base 9 v5)
    {d0 : DataW H} {p0 : List MemPlace} (k0 : DataW.Trod enc Tryd.prog w 0 (fun _ => true) true 5 v0 d0 p0) {d1 : DataW H} {p1 : List MemPlace} (k1 : DataW.Trod enc Tryd.prog w 0 (fun _ => true) true 22 v1 d1 p1) {d2 : DataW H} {p2 : List MemPlace} (k2 : DataW.Trod enc Tryd.prog w 0 (fun _ => true) true 24 v2 d2 p2) {d3 : DataW H} {p3 : List MemPlace} (k3 : DataW.Trod enc Tryd.prog w 0 (fun _ => true) true 24 v3 d3 p3) {d4 : DataW H} {p4 : List MemPlace} (k4 : DataW.Trod enc Tryd.prog w 0 (fun _ => true) true 9 v4 d4 p4) {d5 : DataW H} {p5 : List MemPlace} (k5 : DataW.Trod enc Tryd.prog w 0 (fun _ => true) true 9 v5 d5 p5) :
    Calls Tryd.prog 3 #[v0, v1, v2, v3, v4, v5] w fun e w' => e = .returned (.bool true) ∧ Below w.heap.size w w' := by
  obtain ⟨a0, rfl, rfl, rfl, w0⟩ := open_int Tryd.underlying5 h0 k0
  obtain ⟨a1, rfl, rfl, rfl, w1⟩ := open_int Tryd.underlying22 h1 k1
  obtain ⟨x2, r2⟩ := Lh.word_arg (I := Lh.Old w) (ρ := fun _ => none) Tryd.underlying24 w_types w_cells Tryd.underlying22 h2
  obtain ⟨x3, r3⟩ := Lh.word_arg (I := Lh.Old w) (ρ := fun _ => none) Tryd.underlying24 w_types w_cells Tryd.underlying22 h3
  obtain ⟨a4, rfl, rfl, rfl, w4⟩ := open_string Tryd.underlying9 h4 k4
  obtain ⟨a5, rfl, rfl, rfl, w5⟩ := open_string Tryd.underlying9 h5 k5
  exact Lh.LFn.law (K.cmdBack_fn (BitVec.ofInt 8 a0) (BitVec.ofInt 64 a1) x2 x3 (Lh.bytesOf a4) (Lh.bytesOf a5)) w (.cons _ _ _ _ _ (Lh.vu8 w0) (.cons _ _ _ _ _ (Lh.vu64 w1) (.cons _ _ _ _ _ r2 (.cons _ _ _ _ _ r3 (.cons _ _ _ _ _ (.str _ _) (.cons _ _ _ _ _ (.str _ _) (.nil _)))))))
set_option maxRecDepth 100000 in
theorem lifted (os : Os) (started : os.Started) (H : Type) (enc : TypeId × Value → H) :
    ReturnsInHanded {} Tryd.checked os 3 .any (fun w args => (Rows.cmdBackSpec.pre enc Tryd.prog Tryd.f3 Rows.cmdBackRow.domain false w args ∧ laidMetH Tryd.prog Rows.cmdBackRow.laid w) ∧ sizedMet enc Tryd.prog Tryd.f3 (OpenSpec.ofChange Rows.cmdBackSpec) false w args)
      (Rows.cmdBackSpec.post enc Tryd.prog Tryd.f3 false true false false) := by
  refine returnsInHanded_of_change_and (C := Tryd.checked) (X := fun w _ => laidMetH Tryd.prog Rows.cmdBackRow.laid w) (fun _ _ _ hh h => h.of_heap hh) own started (by kernel_rfl) Tryd.func3
    (ChangeSpec.witness_shaped (enc := enc) (C := Tryd.checked) (os := os) (X := fun w _ => laidMetH Tryd.prog Rows.cmdBackRow.laid w) false (World.laidAll Tryd.prog os Rows.cmdBackRow.laid) #[.int .u8 0, .int .u64 0, .agg #[.int .u64 0, .int .u64 0, .int .u64 0, .int .u64 0], .agg #[.int .u64 0, .int .u64 0, .int .u64 0, .int .u64 0], .string (ByteArray.mk #[]), .string (ByteArray.mk #[])] 8 (World.laidAll_os _ _ _)
      (World.shaped_of_ZipB (by kernel_rfl) (by kernel_rfl)) (by kernel_rfl) (by kernel_rfl) (by kernel_rfl)
      (by rw [MakeChecks.laidMetH_plain _ _ _ (by kernel_rfl)]; exact laidMet_laidAll _ (by kernel_rfl) (by kernel_rfl))) ?_
  intro W base args ds gs before hval0 hW hcnd hz hL _
  have hval : ∀ (j : Nat) t v, Tryd.f3.params[j]? = some t → args[j]? = some v → Value.okWide Tryd.prog W .any base t v := hval0
  have hW' := hW
  obtain ⟨p, q, hA0, hV, rfl, hfz, hnd⟩ := hW
  have hA : DataW.TrodAll enc Tryd.prog W 0 (fun _ => true) true Tryd.f3.params.toList args.toList ds p := hA0
  rw [Tryd.params3] at hA hval
  obtain ⟨v0, vs0, d0, ds0, p0, q0, hargs, rfl, rfl, h0, r0⟩ := trodAll_cons hA
  obtain ⟨v1, vs1, d1, ds1, p1, q1, rfl, rfl, rfl, h1, r1⟩ := trodAll_cons r0
  obtain ⟨v2, vs2, d2, ds2, p2, q2, rfl, rfl, rfl, h2, r2⟩ := trodAll_cons r1
  obtain ⟨v3, vs3, d3, ds3, p3, q3, rfl, rfl, rfl, h3, r3⟩ := trodAll_cons r2
  obtain ⟨v4, vs4, d4, ds4, p4, q4, rfl, rfl, rfl, h4, r4⟩ := trodAll_cons r3
  obtain ⟨v5, vs5, d5, ds5, p5, q5, rfl, rfl, rfl, h5, r5⟩ := trodAll_cons r4
  obtain ⟨rfl, rfl, rfl⟩ := trodAll_nil r5
  obtain rfl : args = #[v0, v1, v2, v3, v4, v5] := by cases args; simp_all
  obtain ⟨rfl, rfl⟩ := trodVars_none hV
  have lt0 : ∀ x ∈ p0, x.block < W.heap.size := by obtain ⟨m, hm⟩ := h0; exact DataW.trod_lt m _ _ _ hm
  have lt1 : ∀ x ∈ p1, x.block < W.heap.size := by obtain ⟨m, hm⟩ := h1; exact DataW.trod_lt m _ _ _ hm
  have lt2 : ∀ x ∈ p2, x.block < W.heap.size := by obtain ⟨m, hm⟩ := h2; exact DataW.trod_lt m _ _ _ hm
  have lt3 : ∀ x ∈ p3, x.block < W.heap.size := by obtain ⟨m, hm⟩ := h3; exact DataW.trod_lt m _ _ _ hm
  have lt4 : ∀ x ∈ p4, x.block < W.heap.size := by obtain ⟨m, hm⟩ := h4; exact DataW.trod_lt m _ _ _ hm
  have lt5 : ∀ x ∈ p5, x.block < W.heap.size := by obtain ⟨m, hm⟩ := h5; exact DataW.trod_lt m _ _ _ hm
  refine (walk v0 v1 v2 v3 v4 v5 W (hval 0 5 v0 rfl rfl) (hval 1 22 v1 rfl rfl) (hval 2 24 v2 rfl rfl) (hval 3 24 v3 rfl rfl) (hval 4 9 v4 rfl rfl) (hval 5 9 v5 rfl rfl) h0 h1 h2 h3 h4 h5).mono fun e W' ⟨he, bel⟩ => ?_
  subst he
  exact ⟨_, rfl, _, _, _, [], _, [], hW', trodAll_mk1 (shut_bool Tryd.underlying4 _), (trodAll_cons_mk (Below.trod laidOut (by kernel_rfl) (of_decide_eq_true (by kernel_rfl)) h0 bel lt0) (trodAll_cons_mk (Below.trod laidOut (by kernel_rfl) (of_decide_eq_true (by kernel_rfl)) h1 bel lt1) (trodAll_cons_mk (Below.trod laidOut (by kernel_rfl) (of_decide_eq_true (by kernel_rfl)) h2 bel lt2) (trodAll_cons_mk (Below.trod laidOut (by kernel_rfl) (of_decide_eq_true (by kernel_rfl)) h3 bel lt3) (trodAll_cons_mk (Below.trod laidOut (by kernel_rfl) (of_decide_eq_true (by kernel_rfl)) h4 bel lt4) (trodAll_cons_mk (Below.trod laidOut (by kernel_rfl) (of_decide_eq_true (by kernel_rfl)) h5 bel lt5) trodAll_mk0)))))), rfl, bel.frame _, fun h => by cases h⟩
theorem over : Rows.cmdBackRow.holds Tryd.pinned (OpenSpec.ofChange Rows.cmdBackSpec) :=
  OpenClaim.holds_of_wide 3 Tryd.f3 rfl rfl rfl rfl rfl rfl rfl ⟨rfl, rfl, rfl, rfl, rfl⟩ rfl rfl rfl rfl rfl (by kernel_rfl) Tryd.func3 (by kernel_rfl)
    (of_decide_eq_true (by kernel_rfl)) (by unfold Func.isWrapper; first | (rw [if_pos (by decide +kernel)]; kernel_rfl) | (rw [if_neg (by decide +kernel)]; exact ⟨rfl, rfl⟩))
    (fun os started H enc _ => lifted os started H enc)
theorem proved : Rows.CmdBackCardSaid :=
  Claim7.holds_tied_plain_at .later [] [.data, .pinned] true (true, "709fa687fac9ab55cf8ddbce30696cd4fdd584a8dcf634c943159b4e4001d0fa") true over (fun _ h => by cases h) (by kernel_rfl) (fun _ h => by cases h) cmdBack_row_tie rfl ⟨rfl, rfl⟩ (by kernel_rfl) rfl
    (fun f fn hf hfn => by
      obtain rfl : f = 3 := Option.some.inj ((show Tryd.prog.funcNamed "stithy/stithylaw21.CmdBack" = some 3 by kernel_rfl).symm.trans hf) |>.symm
      obtain rfl : fn = Tryd.f3 := (Option.some.inj (Tryd.func3.symm.trans hfn)).symm
      exact ⟨by kernel_rfl, fun j t ht => by
        rw [Tryd.params3] at ht
        have hm : t ∈ [5, 22, 24, 24, 9, 9] := by simpa using Array.mem_of_getElem? ht
        have hall : ([5, 22, 24, 24, 9, 9].all fun u => !Tryd.prog.wantsStandIn u) = true := by kernel_rfl
        exact (show Tryd.prog.wantsStandIn t = false by simpa using List.all_eq_true.1 hall t hm)⟩)
    (by kernel_rfl)
#print axioms proved
end Go.Proofs.YtbgiickegljpoaaDoor.cmdBack
