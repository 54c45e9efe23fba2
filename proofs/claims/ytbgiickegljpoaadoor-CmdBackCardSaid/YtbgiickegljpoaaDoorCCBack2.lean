/- The functions that this law reaches: what each comes to. -/
import Derived.Test.YtbgiickegljpoaaDoorCCBack1
set_option linter.unusedSimpArgs false
set_option linter.unusedVariables false
section
open Go Go.Lh
namespace Go.Proofs.YtbgiickegljpoaaDoor.K
noncomputable section
set_option maxRecDepth 100000
def lwC (w : Nat → W4) : Nat → List V
  | 0 => []
  | k + 1 => lwC w k ++ [.bool false, .str (w k).bytes, .nilSl]
theorem lwC_len (w : Nat → W4) : ∀ k, (lwC w k).length = k * 3
  | 0 => rfl
  | k + 1 => by rw [lwC, List.length_append, lwC_len w k, Nat.succ_mul]; rfl
theorem lwC_clo (w : Nat → W4) : ∀ k v, v ∈ lwC w k → v.clo = true
  | k + 1, v, h => by
    rw [lwC] at h
    rcases List.mem_append.1 h with h | h
    · exact lwC_clo w k v h
    · simp only [List.mem_cons, List.not_mem_nil, or_false] at h
      rcases h with rfl | rfl | rfl <;> rfl
theorem lwC_at (w : Nat → W4) : ∀ (n i j : Nat), i < n → j < 3 → (lwC w n).getD (i * 3 + j) .any = ((fun k => [.bool false, .str (w k).bytes, .nilSl] : Nat → List V) i).getD j .any
  | n + 1, i, j, hi, hj => by
    rw [lwC, List.getD_eq_getElem?_getD]
    rcases Nat.lt_or_ge i n with h | h
    · rw [List.getElem?_append_left (by rw [lwC_len]; omega), ← List.getD_eq_getElem?_getD]
      exact lwC_at w n i j h hj
    · have : i = n := by omega
      subst this
      rw [List.getElem?_append_right (by rw [lwC_len]; omega), lwC_len, Nat.add_sub_cancel_left, ← List.getD_eq_getElem?_getD]
def lwR (n : Nat) (w : Nat → W4) : V := match n with
  | 0 => .agg [.bool true, .str [], .nilSl]
  | k + 1 => .agg [.bool true, .str [], .isl 3 (k + 1) (frzC (lwC w (k + 1)) 0 3)]
def lw_S (n : Nat) (w : Nat → W4) (k : Nat) : Fr × Heap := match k with
  | 0 => ([(1,.fn 60 [] []),(4,.ptr 0 0),(5,.ptr 1 0),(9,.isl 4 n (wF w)),(10,.int .i64 n),(11,.int .i64 0)], [.vals [.bool false,.str [],.nilSl],.vals [.bool true,.str [],.nilSl]])
  | k + 1 => ([(1,.fn 60 [] []),(4,.ptr 0 0),(5,.ptr 1 0),(9,.isl 4 n (wF w)),(10,.int .i64 n),(11,.int .i64 (k + 1 : Nat))], [.vals [.bool false,.str [],.nilSl],.vals [.bool true,.str [],.sl 2 0 3 (k + 1) none],.vals (lwC w (k + 1))])
theorem lw_clo {ts rd : List Nat} {x : Nat} {b0 b1 : Blk} {cs : List V} (hrd : ∀ i, rd[i]? = some x → i = 2) (hc : ∀ v, v ∈ cs → v.clo = true) : Tell.clo ⟨ts, rd, [x]⟩ [b0, b1, .vals cs] := by
  intro k i b hk hm hb cs' e
  have hm := (memN_iff i [x]).1 hm
  rw [List.mem_singleton] at hm
  subst hm
  have := hrd k hk
  subst this
  simp at hb; subst hb; cases e; exact hc
theorem lw_fn (n : Nat) (w : Nat → W4) (hn : n ≤ most40) : LFn Pr 59 [.isl 4 n (wF w), .fn 60 [] []] [] (.ret (lwR n w)) [] := by
  rw [m40] at hn
  refine fnR (r := (.ret (lwR n w), [])) (fn := Go.Proofs.Tryd.f59) (by kernel_rfl) (by kernel_rfl) (by kernel_rfl) ?_
  refine Runs.cutF (L := noLoopsT) 1 Olw_sound mixed (by kernel_rfl) noLoops_all (by kernel_rfl) Loose.fin Carries.rfl (lw0_x n w) ?_
  refine wp_chk_true.2 (wp_leaf.2 ⟨clo_nil, .inl ⟨_, _, rfl, ?_⟩⟩)
  have e : dropSeq 1 (bodyOf Go.Proofs.Tryd.f59) = .seq (takeSeq 0 (dropSeq 1 lwB)) (dropSeq 2 lwB) := by kernel_rfl
  rw [e]
  refine Runs.seqT ?_
  refine Runs.cutF (L := noLoopsT) 0 Olw_sound mixed (by kernel_rfl) noLoops_all (by kernel_rfl) (Loose.seq Loose.fin) (Carries.seq Carries.rfl) (lw1_x n w) ?_
  refine wp_chk_true.2 (wp_leaf.2 ⟨clo_nil, .inl ⟨_, _, rfl, ?_⟩⟩)
  have e : dropSeq 0 (takeSeq 0 (dropSeq 1 lwB)) = .block 0 (.loop (Go.Lh.loopBody Go.Proofs.Tryd.f59 0)) := by kernel_rfl
  rw [e]
  refine Runs.loopT (lw_S n w) (fun i => n - i) (fun i => i ≤ n) ?_ (a0 := 0) (Nat.zero_le _)
  intro k hk
  match k, hk with
  | 0, hk =>
    refine Runs.lastF (L := noLoopsT) Olw_sound mixed noLoops_all (by kernel_rfl) (Loose.rnd (Loose.seq Loose.fin)) (Carries.rnd (Carries.seq Carries.rfl)) (lwa_x n w) ?_
    refine wp_chk_true.2 (wp_br.2 ⟨fun h => ?_, fun h => wp_leaf.2 ⟨clo_nil, .inr (.inl ⟨_, _, _, rfl, .inr (.inl ⟨rfl, ?_⟩)⟩)⟩⟩)
    · have h := of_decide_eq_true h
      have hlt : 0 < n := by omega
      refine wp_chk.2 ⟨?_, wp_leaf.2 ⟨lw_clo (by intro i hi; match i, hi with | 0, hi => simp at hi | 1, hi => simp at hi | 2, _ => rfl | i + 3, hi => simp at hi) (lwC_clo w 1), .inl ⟨_, _, rfl, .inl ⟨rfl, 1, hlt, by show n - 1 < n - 0; omega, .refl⟩⟩⟩⟩
      rw [decide_eq_true (show (0 : Int) < (n : Int) by omega), decide_eq_true hlt]; rfl
    · have h := of_decide_eq_false h
      have h0 : n = 0 := by omega
      subst h0
      show Runs Pr _ _ (dropSeq 2 lwB) _ _ _
      refine Runs.lastF (L := noLoopsT) Olw_sound mixed noLoops_all (by kernel_rfl) Loose.fin Carries.rfl (lwc_x 0 w) ?_
      exact wp_chk_true.2 (wp_leaf.2 ⟨trivial, .inr (.inr rfl)⟩)
  | k + 1, hk =>
    obtain ⟨c, cs, ec⟩ : ∃ c cs, lwC w (k + 1) = c :: cs := by
      cases h : lwC w (k + 1) with
      | nil => have := lwC_len w (k + 1); rw [h] at this; simp at this
      | cons c cs => exact ⟨c, cs, rfl⟩
    have hlen : (c :: cs).length = (k + 1) * 3 := by rw [← ec, lwC_len]
    have htk : List.take ((k + 1) * 3) (c :: cs) = lwC w (k + 1) := by rw [← hlen, List.take_length, ec]
    have hS : lw_S n w (k + 1) = ([(1,.fn 60 [] []),(4,.ptr 0 0),(5,.ptr 1 0),(9,.isl 4 n (wF w)),(10,.int .i64 n),(11,.int .i64 (k + 1 : Nat))], [.vals [.bool false,.str [],.nilSl],.vals [.bool true,.str [],.sl 2 0 3 (k + 1) none],.vals (c :: cs)]) := by rw [← ec]; rfl
    rw [hS]
    refine Runs.lastF (L := noLoopsT) Olw_sound mixed noLoops_all (by kernel_rfl) (Loose.rnd (Loose.seq Loose.fin)) (Carries.rnd (Carries.seq Carries.rfl)) (lwb_x n w k c cs) ?_
    rw [htk]
    refine wp_chk_true.2 (wp_br.2 ⟨fun h => ?_, fun h => wp_leaf.2 ⟨lw_clo (by intro i hi; match i, hi with | 0, hi => simp at hi | 1, hi => simp at hi | 2, _ => rfl | i + 3, hi => simp at hi) (by rw [← ec]; exact lwC_clo w (k + 1)), .inr (.inl ⟨_, _, _, rfl, .inr (.inl ⟨rfl, ?_⟩)⟩)⟩⟩)
    · have h := of_decide_eq_true h
      have hlt : k + 1 < n := by omega
      refine wp_chk.2 ⟨?_, wp_leaf.2 ⟨lw_clo (by intro i hi; match i, hi with | 0, hi => simp at hi | 1, hi => simp at hi | 2, _ => rfl | i + 3, hi => simp at hi) (lwC_clo w (k + 2)), .inl ⟨_, _, rfl, .inl ⟨rfl, k + 2, hlt, by show n - (k + 2) < n - (k + 1); omega, ?_⟩⟩⟩⟩
      · rw [hlen]
        have e1 : ∀ x : List B, (List.take 3 (setCells (List.replicate 1 [V.bool false, V.str (bytesOf (ByteArray.mk #[])), V.nilSl]).flatten 0 [V.bool false, V.str x, V.nilSl])).all V.one = true := fun x => rfl
        rw [e1, decide_eq_true h, decide_eq_true hlt]
        simp only [Bool.and_eq_true, Bool.and_true, Bool.true_and, decide_eq_true_eq]; omega
      · rw [show (((k + 1 : Nat) : Int) + 1) = ((k + 2 : Nat) : Int) by omega, wrapI_nat (by omega)]
        exact .refl
    · have h := of_decide_eq_false h
      have h0 : n = k + 1 := by omega
      subst h0
      show Runs Pr _ _ (dropSeq 2 lwB) _ _ _
      rw [← ec]
      refine Runs.two (T := Olw) (fuel := 100) (on := [4]) (fr3 := [(4,.ptr 0 0)]) (h3 := [.vals [.bool true,.str [],.isl 3 (k + 1) (frzC (lwC w (k + 1)) 0 3)]]) 1 Olw_sound mixed (by kernel_rfl) (by kernel_rfl)
        (Tr.is_pr (lwd_x (k + 1) (lwC w (k + 1)))) (.inr ⟨2, lwC w (k + 1), rfl, lwC_clo w _, rfl, rfl⟩) (Tr.is_pr (lwe_x (k + 1) (frzC (lwC w (k + 1)) 0 3))) ?_
      refine Runs.lastF (L := noLoopsT) Olw_sound mixed noLoops_all (by kernel_rfl) Loose.fin Carries.rfl (lwf_x (k + 1) (frzC (lwC w (k + 1)) 0 3)) ?_
      exact wp_chk_true.2 (wp_leaf.2 ⟨trivial, .inr (.inr rfl)⟩)
end
end Go.Proofs.YtbgiickegljpoaaDoor.K
end
section
open Go Go.Lh
namespace Go.Proofs.YtbgiickegljpoaaDoor.K
noncomputable section
set_option maxRecDepth 100000
def uOfV : V → BitVec 64 | .u64 n => n | _ => 0
def rdw (F : Nat → Nat → V) : Nat → W4 := fun i => ⟨uOfV (F i 0), uOfV (F i 1), uOfV (F i 2), uOfV (F i 3)⟩
def wTs (n : Nat) (w : Nat → W4) : List (List B) := (List.range n).map fun i => (w i).bytes
def lwQ (n : Nat) (w : Nat → W4) : RW := rowT (wTs n w)
theorem lw_wk (n : Nat) (w : Nat → W4) : (lwR n w).Wk (lsV n (lwQ n w)) := by
  cases n with
  | zero => exact .agg3 (.refl _) (.refl _) (.nil _ _)
  | succ k =>
    refine wk_ls fun i hi => ?_
    have e : ∀ j, j < 3 → frzC (lwC w (k + 1)) 0 3 i j = ([.bool false, .str (w i).bytes, .nilSl] : List V).getD j .any := by
      intro j hj
      unfold frzC
      rw [Nat.zero_add]
      exact lwC_at w _ i j hi hj
    have e2 : (wTs (k + 1) w).getD i [] = (w i).bytes := by
      unfold wTs
      rw [List.getD_eq_getElem?_getD, List.getElem?_map, List.getElem?_range hi]; rfl
    refine ⟨?_, ?_, ?_⟩
    · rw [e 0 (by decide)]; exact .refl _
    · rw [e 1 (by decide)]
      show V.Wk (.str (w i).bytes) (.str ((wTs (k + 1) w).getD i []))
      rw [e2]; exact .refl _
    · rw [e 2 (by decide)]; exact .nil _ _
def lw_read : List V → Heap → Option (Nat × (Nat → Nat → V)) := fun a h => match a, h with
  | [.isl 4 n F, .fn f [] []], [] => if Nat.beq f 60 then some (n, F) else none
  | _, _ => none
def lwP (a : Nat × (Nat → Nat → V)) : Prop := a.2 = wF (rdw a.2) ∧ a.1 ≤ most40
def lwPB (a : Nat × (Nat → Nat → V)) : Bool := @decide (lwP a) (Classical.propDecidable _)
def lw_f (a : Nat × (Nat → Nat → V)) : Tr (Fin × Heap) := .chk (lwPB a) (.leaf (.ret (.agg [.bool true, .str [], .isl 3 a.1 (rwF (lwQ a.1 (rdw a.2)))]), []))
theorem lw_ok : ∀ args h r, ((ctT lw_read lw_f) args h).is r → LFn Pr 59 args h r.1 r.2 := by
  refine ctT_ok (fun a => [.isl 4 a.1 a.2, .fn 60 [] []]) (fun _ => []) ?_ (fun a r h => ?_)
  · intro args h a e
    unfold lw_read at e
    split at e
    · split at e
      · rename_i hf
        have hf := Nat.eq_of_beq_eq_true hf
        cases e; exact ⟨by rw [hf], rfl⟩
      · cases e
    · cases e
  · obtain ⟨n, F⟩ := a
    rw [lw_f, Tr.is_chk, Tr.is_leaf] at h
    obtain ⟨h1, rfl⟩ := h
    obtain ⟨h2, h3⟩ : lwP (n, F) := @of_decide_eq_true _ (Classical.propDecidable _) h1
    simp only at h2 h3
    have H := LFn.wkRet (lw_fn n (rdw F) h3) (lw_wk n (rdw F))
    rw [← h2] at H
    exact H
def acQ (a : List B) (m : Nat) (g : Nat → Nat → V) : RW := ⟨fun i => match i with | 0 => false | _ + 1 => true, fun i => match i with | 0 => a | _ + 1 => [], fun i => match i with | 0 => 0 | _ + 1 => m, fun i => match i with | 0 => fun _ _ => .any | _ + 1 => g⟩
theorem lp_x (a : List B) (m : Nat) (g : Nat → Nat → V) : Tr.prune (Tr.Sh.any)
 (execBF Pr OA noLoopsT (100 : Nat) Go.Proofs.Tryd.f16 [V.sl (0 : Nat) (0 : Nat) (3 : Nat) (2 : Nat) none]
 [Blk.vals [V.bool false, V.str a, V.nilSl, V.bool true, V.str [], V.isl (3 : Nat) m g]]) =
 Tr.chk true
 (Tr.leaf
 (Fin.ret
 (V.agg [V.bool true, V.str (bytesOf (ByteArray.mk #[])), V.sl (1 : Nat) (0 : Nat) (3 : Nat) (2 : Nat) none]),
 [Blk.vals [V.bool false, V.str a, V.nilSl, V.bool true, V.str [], V.isl (3 : Nat) m g],
 Blk.vals [V.bool false, V.str a, V.nilSl, V.bool true, V.str [], V.isl (3 : Nat) m g]])) := by kernel_rfl
theorem lp_fn (a : List B) (m : Nat) (g : Nat → Nat → V) : LFn Pr 16 [.sl 0 0 3 2 none] [.vals [.bool false, .str a, .nilSl, .bool true, .str [], .isl 3 m g]] (.ret (lsV 2 (acQ a m g))) [.vals [.bool false, .str a, .nilSl, .bool true, .str [], .isl 3 m g]] := by
  have h := fnT (f := 16) (fin := .ret (V.agg [V.bool true, V.str [], V.sl 1 0 3 2 none])) (h' := [Blk.vals [.bool false, .str a, .nilSl, .bool true, .str [], .isl 3 m g], Blk.vals [.bool false, .str a, .nilSl, .bool true, .str [], .isl 3 m g]]) OA_sound mixed (by kernel_rfl) LoopsOk.noneT (lp_x a m g) (tr1 rfl rfl)
  have h2 := h.frz (i := 1) (r := (.ret (.agg [.bool true, .str [], .isl 3 2 (frzC [V.bool false, V.str a, V.nilSl, V.bool true, V.str [], V.isl 3 m g] 0 3)]), [.vals [.bool false, .str a, .nilSl, .bool true, .str [], .isl 3 m g]])) rfl (by intro v hv; simp at hv; rcases hv with rfl | rfl | rfl | rfl | rfl | rfl <;> rfl) (by kernel_rfl)
  refine LFn.wkRet h2 (wk_ls fun i hi => ?_)
  have : i = 0 ∨ i = 1 := by omega
  rcases this with rfl | rfl
  · exact ⟨.refl _, .refl _, .nil _ _⟩
  · exact ⟨.refl _, .refl _, .refl _⟩
structure LP where
  a : List B
  m : Nat
  g : Nat → Nat → V
  cap : Option Nat
def lp_read : List V → Heap → Option LP := fun a h => match a, h with
  | [.sl 0 0 3 2 cap], [.vals [.bool false, .str a, .nilSl, .bool true, .str [], .isl 3 m g]] => some ⟨a, m, g, cap⟩
  | _, _ => none
def lp_f (a : LP) : Tr (Fin × Heap) := .leaf (.ret (.agg [.bool true, .str [], .isl 3 2 (rwF (acQ a.a a.m a.g))]), [.vals [.bool false, .str a.a, .nilSl, .bool true, .str [], .isl 3 a.m a.g]])
theorem lp_ok : ∀ args h r, ((ctT lp_read lp_f) args h).is r → LFn Pr 16 args h r.1 r.2 := by
  intro args h r hr
  unfold ctT at hr
  split at hr
  · rename_i a e
    rw [lp_f, Tr.is_leaf] at hr
    subst hr
    unfold lp_read at e
    split at e <;> cases e
    exact LFn.wkArgs (lp_fn _ _ _) (fun I w ρ us h => sl_none h)
  · exact (Tr.is_no.1 hr).elim
def KE1 : KnownT := [(59, ctT lw_read lw_f), (16, ctT lp_read lp_f)]
theorem KE1_ok : KOkT Pr KE1 := KOkT.cons (Enters.of (fn := Go.Proofs.Tryd.f59) (by kernel_rfl) (by kernel_rfl)) lw_ok (KOkT.cons (Enters.of (fn := Go.Proofs.Tryd.f16) (by kernel_rfl) (by kernel_rfl)) lp_ok KOkT.nil)
def OE1 : OrcT := autoT Pr ext KE1 [14] 3
theorem OE1_sound : OrcSound Pr OE1.o := autoT_sound mixed ext_ok KE1_ok (by kernel_rfl) 3
theorem e1_x (a : List B) (m : Nat) (w : Nat → W4) : Tr.prune (Tr.Sh.any)
 (execBF Pr OE1 noLoopsT (100 : Nat) Go.Proofs.Tryd.f58 [V.agg [V.str a, V.isl (4 : Nat) m (wF w)]] []) =
 Tr.chk (lwPB (m, wF w) && true && true)
 (Tr.leaf
 (Fin.ret (V.agg [V.bool true, V.str [], V.isl (3 : Nat) (2 : Nat) (rwF (acQ a m (rwF (lwQ m (rdw (wF w))))))]),
 [])) := by kernel_rfl
end
end Go.Proofs.YtbgiickegljpoaaDoor.K
end
section
open Go Go.Lh
namespace Go.Proofs.YtbgiickegljpoaaDoor.K
noncomputable section
set_option maxRecDepth 100000
theorem e1_fn (a : List B) (m : Nat) (w : Nat → W4) (hm : m ≤ most40) : LFn Pr 58 [.agg [.str a, .isl 4 m (wF w)]] [] (.ret (lsV 2 (acQ a m (rwF (lwQ m w))))) [] := by
  refine fnT OE1_sound mixed (by kernel_rfl) LoopsOk.noneT (e1_x a m w) ?_
  have e : lwPB (m, wF w) = true := @decide_eq_true _ (Classical.propDecidable _) ⟨rfl, hm⟩
  rw [e]
  exact wp_chk_true.2 (wp_leaf.2 rfl)
structure E1 where
  a : List B
  m : Nat
  F : Nat → Nat → V
def e1_read : List V → Heap → Option E1 := fun a h => match a, h with
  | [.agg [.str a, .isl 4 m F]], [] => some ⟨a, m, F⟩
  | _, _ => none
def acV (a : List B) (m : Nat) (w : Nat → W4) : V := .isl 3 2 (rwF (acQ a m (rwF (lwQ m w))))
def e1_f (a : E1) : Tr (Fin × Heap) := .chk (lwPB (a.m, a.F)) (.leaf (.ret (.agg [.bool true, .str [], acV a.a a.m (rdw a.F)]), []))
theorem e1_ok : ∀ args h r, ((ctT e1_read e1_f) args h).is r → LFn Pr 58 args h r.1 r.2 := by
  refine ctT_ok (fun a => [.agg [.str a.a, .isl 4 a.m a.F]]) (fun _ => []) ?_ (fun a r h => ?_)
  · intro args h a e
    unfold e1_read at e
    split at e <;> cases e <;> exact ⟨rfl, rfl⟩
  · obtain ⟨a, m, F⟩ := a
    rw [e1_f, Tr.is_chk, Tr.is_leaf] at h
    obtain ⟨h1, rfl⟩ := h
    obtain ⟨h2, h3⟩ : lwP (m, F) := @of_decide_eq_true _ (Classical.propDecidable _) h1
    simp only at h2 h3
    have H := e1_fn a m (rdw F) h3
    rw [← h2] at H
    exact H
def KLa : KnownT := [(58, ctT e1_read e1_f)]
theorem KLa_ok : KOkT Pr KLa := KOkT.cons (Enters.of (fn := Go.Proofs.Tryd.f58) (by kernel_rfl) (by kernel_rfl)) e1_ok KOkT.nil
def Ola : OrcT := autoT Pr ext KLa [] 3
theorem Ola_sound : OrcSound Pr Ola.o := autoT_sound mixed ext_ok KLa_ok (by kernel_rfl) 3
def laB : Code := bodyOf Go.Proofs.Tryd.f57
def laE : X × Fr × Heap → Tr (Fin × Heap) := endT Pr Go.Proofs.Tryd.f57 0
theorem la0_x (n : Nat) (w : AW) : Tr.prune (Tr.Sh.any)
 (execBYF Pr Ola noLoopsT (100 : Nat) (0 : Nat)
 (Tell.mk [(0 : Nat), (1 : Nat), (4 : Nat), (5 : Nat)] [(0 : Nat), (1 : Nat)] []) (Tell.mk [] [] []) laE
 (takeSeq (1 : Nat) laB) [((0 : Nat), V.isl (2 : Nat) n (aF w)), ((1 : Nat), V.fn (58 : FuncId) [] [])] []) =
 Tr.chk true
 (Tr.leaf
 (Sum.inr
 (X.normal,
 [((0 : Nat), V.isl (2 : Nat) n (aF w)), ((1 : Nat), V.fn (58 : Nat) [] []),
 ((4 : Nat), V.ptr (0 : Nat) (0 : Nat)), ((5 : Nat), V.ptr (1 : Nat) (0 : Nat))],
 [Blk.vals [V.bool false, V.str (bytesOf (ByteArray.mk #[])), V.nilSl],
 Blk.vals [V.bool true, V.str (bytesOf (ByteArray.mk #[])), V.nilSl]]))) := by kernel_rfl
theorem la1_x (n : Nat) (w : AW) : Tr.prune (Tr.Sh.any)
 (execBYF Pr Ola noLoopsT (100 : Nat) (0 : Nat)
 (Tell.mk [(1 : Nat), (4 : Nat), (5 : Nat), (9 : Nat), (10 : Nat), (11 : Nat)] [(0 : Nat), (1 : Nat)] [])
 (Tell.mk [] [] []) laE (takeSeq (0 : Nat) (takeSeq (0 : Nat) (dropSeq (1 : Nat) laB)))
 [((0 : Nat), V.isl (2 : Nat) n (aF w)), ((1 : Nat), V.fn (58 : FuncId) [] []), ((4 : Nat), V.ptr (0 : Nat) (0 : Nat)),
 ((5 : Nat), V.ptr (1 : Nat) (0 : Nat))]
 [Blk.vals [V.bool false, V.str [], V.nilSl], Blk.vals [V.bool true, V.str [], V.nilSl]]) =
 Tr.chk true
 (Tr.leaf
 (Sum.inr
 (X.normal,
 [((1 : Nat), V.fn (58 : Nat) [] []), ((4 : Nat), V.ptr (0 : Nat) (0 : Nat)),
 ((5 : Nat), V.ptr (1 : Nat) (0 : Nat)), ((9 : Nat), V.isl (2 : Nat) n (aF w)),
 ((10 : Nat), V.int IntKind.i64 (↑n : Int)), ((11 : Nat), V.int IntKind.i64 (0 : Int))],
 [Blk.vals [V.bool false, V.str [], V.nilSl], Blk.vals [V.bool true, V.str [], V.nilSl]]))) := by kernel_rfl
theorem laa_x (n : Nat) (w : AW) : Tr.prune (Tr.Sh.any.both Tr.Sh.any)
 (execBYF Pr Ola noLoopsT (100 : Nat) (0 : Nat)
 (Tell.mk [(1 : Nat), (4 : Nat), (5 : Nat), (9 : Nat), (10 : Nat), (11 : Nat)] [(0 : Nat), (1 : Nat), (4 : Nat)]
 [(4 : Nat)])
 (Tell.mk [(4 : Nat), (5 : Nat)] [(0 : Nat), (1 : Nat)] []) laE (loopBody Go.Proofs.Tryd.f57 (0 : Nat))
 [((1 : Nat), V.fn (58 : FuncId) [] []), ((4 : Nat), V.ptr (0 : Nat) (0 : Nat)),
 ((5 : Nat), V.ptr (1 : Nat) (0 : Nat)), ((9 : Nat), V.isl (2 : Nat) n (aF w)),
 ((10 : Nat), V.int IntKind.i64 (↑n : Int)), ((11 : Nat), V.int IntKind.i64 (0 : Int))]
 [Blk.vals [V.bool false, V.str [], V.nilSl], Blk.vals [V.bool true, V.str [], V.nilSl]]) =
 Tr.chk true
 (Tr.br (decide ((0 : Int) < (↑n : Int)))
 (Tr.chk
 (decide ((0 : Int) < (↑n : Int)) && (decide ((0 : Nat) < n) && true && true) &&
 (lwPB (w.m (0 : Nat), wF (w.w (0 : Nat))) && true) &&
 true)
 (Tr.leaf
 (Sum.inr
 (X.normal,
 [((1 : Nat), V.fn (58 : Nat) [] []), ((4 : Nat), V.ptr (0 : Nat) (0 : Nat)),
 ((5 : Nat), V.ptr (1 : Nat) (0 : Nat)), ((9 : Nat), V.isl (2 : Nat) n (aF w)),
 ((10 : Nat), V.int IntKind.i64 (↑n : Int)), ((11 : Nat), V.int IntKind.i64 (1 : Int))],
 [Blk.vals [V.bool false, V.str [], V.nilSl],
 Blk.vals [V.bool true, V.str [], V.sl (2 : Nat) (0 : Nat) (3 : Nat) (1 : Nat) none],
 Blk.vals
 [V.bool true, V.str [],
 V.isl (3 : Nat) (2 : Nat)
 (rwF
 (acQ (w.a (0 : Nat)) (w.m (0 : Nat))
 (rwF (lwQ (w.m (0 : Nat)) (rdw (wF (w.w (0 : Nat))))))))]]))))
 (Tr.leaf
 (Sum.inr
 (X.exit (0 : Nat), [((4 : Nat), V.ptr (0 : Nat) (0 : Nat)), ((5 : Nat), V.ptr (1 : Nat) (0 : Nat))],
 [Blk.vals [V.bool false, V.str [], V.nilSl], Blk.vals [V.bool true, V.str [], V.nilSl]])))) := by kernel_rfl
theorem lab_x (n : Nat) (w : AW) (k : Nat) (c : V) (cs : List V) : Tr.prune (Tr.Sh.any.both Tr.Sh.any)
 (execBYF Pr Ola noLoopsT (100 : Nat) (0 : Nat)
 (Tell.mk [(1 : Nat), (4 : Nat), (5 : Nat), (9 : Nat), (10 : Nat), (11 : Nat)] [(0 : Nat), (1 : Nat), (5 : Nat)]
 [(5 : Nat)])
 (Tell.mk [(4 : Nat), (5 : Nat)] [(0 : Nat), (1 : Nat), (2 : Nat)] [(2 : Nat)]) laE
 (loopBody Go.Proofs.Tryd.f57 (0 : Nat))
 [((1 : Nat), V.fn (58 : FuncId) [] []), ((4 : Nat), V.ptr (0 : Nat) (0 : Nat)),
 ((5 : Nat), V.ptr (1 : Nat) (0 : Nat)), ((9 : Nat), V.isl (2 : Nat) n (aF w)),
 ((10 : Nat), V.int IntKind.i64 (↑n : Int)), ((11 : Nat), V.int IntKind.i64 (↑(k + (1 : Nat)) : Int))]
 [Blk.vals [V.bool false, V.str [], V.nilSl],
 Blk.vals [V.bool true, V.str [], V.sl (2 : Nat) (0 : Nat) (3 : Nat) (k + (1 : Nat)) none], Blk.vals (c :: cs)]) =
 Tr.chk true
 (Tr.br (decide ((↑(k + (1 : Nat)) : Int) < (↑n : Int)))
 (Tr.chk
 (decide ((↑(k + (1 : Nat)) : Int) < (↑n : Int)) && (decide (k + (1 : Nat) < n) && true && true) &&
 (lwPB (w.m (k + (1 : Nat)), wF (w.w (k + (1 : Nat)))) &&
 (decide ((0 : Nat) + (k + (1 : Nat)) * (3 : Nat) ≤ (c :: cs).length) &&
 (decide (k + (1 : Nat) + (1 : Nat) ≤ (281474976710656 : Nat)) &&
 decide
 (((2 : Nat) * (k + (1 : Nat) + (1 : Nat)) + (1024 : Nat)) * (48 : Nat) ≤
 (281474976710656 : Nat)) &&
 true) &&
 (List.take (3 : Nat)
 (setCells
 (List.replicate (1 : Nat) [V.bool false, V.str (bytesOf (ByteArray.mk #[])), V.nilSl]).flatten
 (0 : Nat)
 [V.bool true, V.str [],
 V.isl (3 : Nat) (2 : Nat)
 (rwF
 (acQ (w.a (k + (1 : Nat))) (w.m (k + (1 : Nat)))
 (rwF (lwQ (w.m (k + (1 : Nat))) (rdw (wF (w.w (k + (1 : Nat)))))))))])).all
 V.one &&
 true)) &&
 true)
 (Tr.leaf
 (Sum.inr
 (X.normal,
 [((1 : Nat), V.fn (58 : Nat) [] []), ((4 : Nat), V.ptr (0 : Nat) (0 : Nat)),
 ((5 : Nat), V.ptr (1 : Nat) (0 : Nat)), ((9 : Nat), V.isl (2 : Nat) n (aF w)),
 ((10 : Nat), V.int IntKind.i64 (↑n : Int)),
 ((11 : Nat), V.int IntKind.i64 (wrapI IntKind.i64 ((↑(k + (1 : Nat)) : Int) + (1 : Int))))],
 [Blk.vals [V.bool false, V.str [], V.nilSl],
 Blk.vals [V.bool true, V.str [], V.sl (2 : Nat) (0 : Nat) (3 : Nat) (k + (1 : Nat) + (1 : Nat)) none],
 Blk.vals
 (List.take ((k + 1) * 3) (c :: cs) ++ [.bool true, .str [], acV (w.a (k + 1)) (w.m (k + 1)) (rdw (wF (w.w (k + 1))))])]))))
 (Tr.leaf
 (Sum.inr
 (X.exit (0 : Nat), [((4 : Nat), V.ptr (0 : Nat) (0 : Nat)), ((5 : Nat), V.ptr (1 : Nat) (0 : Nat))],
 [Blk.vals [V.bool false, V.str [], V.nilSl],
 Blk.vals [V.bool true, V.str [], V.sl (2 : Nat) (0 : Nat) (3 : Nat) (k + (1 : Nat)) none],
 Blk.vals (c :: cs)])))) := by kernel_rfl
theorem lac_x (n : Nat) (w : AW) : Tr.prune (Tr.Sh.any)
 (execBYF Pr Ola noLoopsT (100 : Nat) (0 : Nat) (Tell.mk [(4 : Nat)] [(0 : Nat)] []) (Tell.mk [] [] []) laE
 (dropSeq (2 : Nat) laB) [((4 : Nat), V.ptr (0 : Nat) (0 : Nat)), ((5 : Nat), V.ptr (1 : Nat) (0 : Nat))]
 [Blk.vals [V.bool false, V.str [], V.nilSl], Blk.vals [V.bool true, V.str [], V.nilSl]]) =
 Tr.chk true (Tr.leaf (Sum.inl (Fin.ret (V.agg [V.bool true, V.str [], V.nilSl]), []))) := by kernel_rfl
theorem lad_x (n : Nat) (cs : List V) : Tr.prune (Tr.Sh.any)
 (execB Pr Ola noLoopsT (100 : Nat) (partA (1 : Nat) (dropSeq (2 : Nat) laB))
 [((4 : Nat), V.ptr (0 : Nat) (0 : Nat)), ((5 : Nat), V.ptr (1 : Nat) (0 : Nat))]
 [Blk.vals [V.bool false, V.str [], V.nilSl],
 Blk.vals [V.bool true, V.str [], V.sl (2 : Nat) (0 : Nat) (3 : Nat) n none], Blk.vals cs]) =
 Tr.chk true
 (Tr.leaf
 (X.normal,
 [((4 : Nat), V.ptr (0 : Nat) (0 : Nat)), ((5 : Nat), V.ptr (1 : Nat) (0 : Nat)),
 ((24 : Nat), V.agg [V.bool true, V.str [], V.sl (2 : Nat) (0 : Nat) (3 : Nat) n none])],
 [Blk.vals [V.bool false, V.str [], V.nilSl],
 Blk.vals [V.bool true, V.str [], V.sl (2 : Nat) (0 : Nat) (3 : Nat) n none], Blk.vals cs])) := by kernel_rfl
theorem lae_x (n : Nat) (F : Nat → Nat → V) : Tr.prune (Tr.Sh.any)
 (execBN Pr Ola noLoopsT (100 : Nat) (0 : Nat) [(4 : Nat)] [] (partB (1 : Nat) (dropSeq (2 : Nat) laB))
 [((4 : Nat), V.ptr (0 : Nat) (0 : Nat)), ((5 : Nat), V.ptr (1 : Nat) (0 : Nat)),
 ((24 : Nat), V.agg [V.bool true, V.str [], V.isl (3 : Nat) n F])]
 [Blk.vals [V.bool false, V.str [], V.nilSl],
 Blk.vals [V.bool true, V.str [], V.sl (2 : Nat) (0 : Nat) (3 : Nat) n none], Blk.dead]) =
 Tr.chk true
 (Tr.leaf
 (X.normal, [((4 : Nat), V.ptr (0 : Nat) (0 : Nat))],
 [Blk.vals [V.bool true, V.str [], V.isl (3 : Nat) n F]])) := by kernel_rfl
theorem laf_x (n : Nat) (F : Nat → Nat → V) : Tr.prune (Tr.Sh.any)
 (execBYF Pr Ola noLoopsT (100 : Nat) (0 : Nat) (Tell.mk [(4 : Nat)] [(0 : Nat)] []) (Tell.mk [] [] []) laE
 (tailC (dropSeq (2 : Nat) laB)) [((4 : Nat), V.ptr (0 : Nat) (0 : Nat))]
 [Blk.vals [V.bool true, V.str [], V.isl (3 : Nat) n F]]) =
 Tr.chk true (Tr.leaf (Sum.inl (Fin.ret (V.agg [V.bool true, V.str [], V.isl (3 : Nat) n F]), []))) := by kernel_rfl
end
end Go.Proofs.YtbgiickegljpoaaDoor.K
end
section
open Go Go.Lh
namespace Go.Proofs.YtbgiickegljpoaaDoor.K
noncomputable section
set_option maxRecDepth 100000
def laC (w : AW) : Nat → List V
  | 0 => []
  | k + 1 => laC w k ++ [.bool true, .str [], acV (w.a k) (w.m k) (w.w k)]
theorem laC_len (w : AW) : ∀ k, (laC w k).length = k * 3
  | 0 => rfl
  | k + 1 => by rw [laC, List.length_append, laC_len w k, Nat.succ_mul]; rfl
theorem laC_clo (w : AW) : ∀ k v, v ∈ laC w k → v.clo = true
  | k + 1, v, h => by
    rw [laC] at h
    rcases List.mem_append.1 h with h | h
    · exact laC_clo w k v h
    · simp only [List.mem_cons, List.not_mem_nil, or_false] at h
      rcases h with rfl | rfl | rfl <;> rfl
theorem laC_at (w : AW) : ∀ (n i j : Nat), i < n → j < 3 → (laC w n).getD (i * 3 + j) .any = ((fun k => [.bool true, .str [], acV (w.a k) (w.m k) (w.w k)] : Nat → List V) i).getD j .any
  | n + 1, i, j, hi, hj => by
    rw [laC, List.getD_eq_getElem?_getD]
    rcases Nat.lt_or_ge i n with h | h
    · rw [List.getElem?_append_left (by rw [laC_len]; omega), ← List.getD_eq_getElem?_getD]
      exact laC_at w n i j h hj
    · have : i = n := by omega
      subst this
      rw [List.getElem?_append_right (by rw [laC_len]; omega), laC_len, Nat.add_sub_cancel_left, ← List.getD_eq_getElem?_getD]
def laR (n : Nat) (w : AW) : V := match n with
  | 0 => .agg [.bool true, .str [], .nilSl]
  | k + 1 => .agg [.bool true, .str [], .isl 3 (k + 1) (frzC (laC w (k + 1)) 0 3)]
def la_S (n : Nat) (w : AW) (k : Nat) : Fr × Heap := match k with
  | 0 => ([(1,.fn 58 [] []),(4,.ptr 0 0),(5,.ptr 1 0),(9,.isl 2 n (aF w)),(10,.int .i64 n),(11,.int .i64 0)], [.vals [.bool false,.str [],.nilSl],.vals [.bool true,.str [],.nilSl]])
  | k + 1 => ([(1,.fn 58 [] []),(4,.ptr 0 0),(5,.ptr 1 0),(9,.isl 2 n (aF w)),(10,.int .i64 n),(11,.int .i64 (k + 1 : Nat))], [.vals [.bool false,.str [],.nilSl],.vals [.bool true,.str [],.sl 2 0 3 (k + 1) none],.vals (laC w (k + 1))])
theorem la_clo {ts rd : List Nat} {x : Nat} {b0 b1 : Blk} {cs : List V} (hrd : ∀ i, rd[i]? = some x → i = 2) (hc : ∀ v, v ∈ cs → v.clo = true) : Tell.clo ⟨ts, rd, [x]⟩ [b0, b1, .vals cs] := by
  intro k i b hk hm hb cs' e
  have hm := (memN_iff i [x]).1 hm
  rw [List.mem_singleton] at hm
  subst hm
  have := hrd k hk
  subst this
  simp at hb; subst hb; cases e; exact hc
theorem la_fn (n : Nat) (w : AW) (hn : n ≤ most40) (hm : ∀ i, i < n → w.m i ≤ most40) : LFn Pr 57 [.isl 2 n (aF w), .fn 58 [] []] [] (.ret (laR n w)) [] := by
  rw [m40] at hn
  refine fnR (r := (.ret (laR n w), [])) (fn := Go.Proofs.Tryd.f57) (by kernel_rfl) (by kernel_rfl) (by kernel_rfl) ?_
  refine Runs.cutF (L := noLoopsT) 1 Ola_sound mixed (by kernel_rfl) noLoops_all (by kernel_rfl) Loose.fin Carries.rfl (la0_x n w) ?_
  refine wp_chk_true.2 (wp_leaf.2 ⟨clo_nil, .inl ⟨_, _, rfl, ?_⟩⟩)
  have e : dropSeq 1 (bodyOf Go.Proofs.Tryd.f57) = .seq (takeSeq 0 (dropSeq 1 laB)) (dropSeq 2 laB) := by kernel_rfl
  rw [e]
  refine Runs.seqT ?_
  refine Runs.cutF (L := noLoopsT) 0 Ola_sound mixed (by kernel_rfl) noLoops_all (by kernel_rfl) (Loose.seq Loose.fin) (Carries.seq Carries.rfl) (la1_x n w) ?_
  refine wp_chk_true.2 (wp_leaf.2 ⟨clo_nil, .inl ⟨_, _, rfl, ?_⟩⟩)
  have e : dropSeq 0 (takeSeq 0 (dropSeq 1 laB)) = .block 0 (.loop (Go.Lh.loopBody Go.Proofs.Tryd.f57 0)) := by kernel_rfl
  rw [e]
  refine Runs.loopT (la_S n w) (fun i => n - i) (fun i => i ≤ n) ?_ (a0 := 0) (Nat.zero_le _)
  intro k hk
  match k, hk with
  | 0, hk =>
    refine Runs.lastF (L := noLoopsT) Ola_sound mixed noLoops_all (by kernel_rfl) (Loose.rnd (Loose.seq Loose.fin)) (Carries.rnd (Carries.seq Carries.rfl)) (laa_x n w) ?_
    refine wp_chk_true.2 (wp_br.2 ⟨fun h => ?_, fun h => wp_leaf.2 ⟨clo_nil, .inr (.inl ⟨_, _, _, rfl, .inr (.inl ⟨rfl, ?_⟩)⟩)⟩⟩)
    · have h := of_decide_eq_true h
      have hlt : 0 < n := by omega
      refine wp_chk.2 ⟨?_, wp_leaf.2 ⟨la_clo (by intro i hi; match i, hi with | 0, hi => simp at hi | 1, hi => simp at hi | 2, _ => rfl | i + 3, hi => simp at hi) (laC_clo w 1), .inl ⟨_, _, rfl, .inl ⟨rfl, 1, hlt, by show n - 1 < n - 0; omega, .refl⟩⟩⟩⟩
      have e9 : lwPB (w.m 0, wF (w.w 0)) = true := @decide_eq_true _ (Classical.propDecidable _) ⟨rfl, hm 0 hlt⟩
      rw [decide_eq_true (show (0 : Int) < (n : Int) by omega), decide_eq_true hlt, e9]; rfl
    · have h := of_decide_eq_false h
      have h0 : n = 0 := by omega
      subst h0
      show Runs Pr _ _ (dropSeq 2 laB) _ _ _
      refine Runs.lastF (L := noLoopsT) Ola_sound mixed noLoops_all (by kernel_rfl) Loose.fin Carries.rfl (lac_x 0 w) ?_
      exact wp_chk_true.2 (wp_leaf.2 ⟨trivial, .inr (.inr rfl)⟩)
  | k + 1, hk =>
    obtain ⟨c, cs, ec⟩ : ∃ c cs, laC w (k + 1) = c :: cs := by
      cases h : laC w (k + 1) with
      | nil => have := laC_len w (k + 1); rw [h] at this; simp at this
      | cons c cs => exact ⟨c, cs, rfl⟩
    have hlen : (c :: cs).length = (k + 1) * 3 := by rw [← ec, laC_len]
    have htk : List.take ((k + 1) * 3) (c :: cs) = laC w (k + 1) := by rw [← hlen, List.take_length, ec]
    have hS : la_S n w (k + 1) = ([(1,.fn 58 [] []),(4,.ptr 0 0),(5,.ptr 1 0),(9,.isl 2 n (aF w)),(10,.int .i64 n),(11,.int .i64 (k + 1 : Nat))], [.vals [.bool false,.str [],.nilSl],.vals [.bool true,.str [],.sl 2 0 3 (k + 1) none],.vals (c :: cs)]) := by rw [← ec]; rfl
    rw [hS]
    refine Runs.lastF (L := noLoopsT) Ola_sound mixed noLoops_all (by kernel_rfl) (Loose.rnd (Loose.seq Loose.fin)) (Carries.rnd (Carries.seq Carries.rfl)) (lab_x n w k c cs) ?_
    rw [htk]
    refine wp_chk_true.2 (wp_br.2 ⟨fun h => ?_, fun h => wp_leaf.2 ⟨la_clo (by intro i hi; match i, hi with | 0, hi => simp at hi | 1, hi => simp at hi | 2, _ => rfl | i + 3, hi => simp at hi) (by rw [← ec]; exact laC_clo w (k + 1)), .inr (.inl ⟨_, _, _, rfl, .inr (.inl ⟨rfl, ?_⟩)⟩)⟩⟩)
    · have h := of_decide_eq_true h
      have hlt : k + 1 < n := by omega
      refine wp_chk.2 ⟨?_, wp_leaf.2 ⟨la_clo (by intro i hi; match i, hi with | 0, hi => simp at hi | 1, hi => simp at hi | 2, _ => rfl | i + 3, hi => simp at hi) (laC_clo w (k + 2)), .inl ⟨_, _, rfl, .inl ⟨rfl, k + 2, hlt, by show n - (k + 2) < n - (k + 1); omega, ?_⟩⟩⟩⟩
      · rw [hlen]
        have e9 : lwPB (w.m (k + 1), wF (w.w (k + 1))) = true := @decide_eq_true _ (Classical.propDecidable _) ⟨rfl, hm (k + 1) hlt⟩
        have e1 : ∀ x : V, V.one x = true → (List.take 3 (setCells (List.replicate 1 [V.bool false, V.str (bytesOf (ByteArray.mk #[])), V.nilSl]).flatten 0 [V.bool true, V.str [], x])).all V.one = true := fun x hx => by
          show (true && (true && (V.one x && true))) = true
          rw [hx]; rfl
        rw [e1 _ rfl, decide_eq_true h, decide_eq_true hlt, e9]
        simp only [Bool.and_eq_true, Bool.and_true, Bool.true_and, decide_eq_true_eq]; omega
      · rw [show (((k + 1 : Nat) : Int) + 1) = ((k + 2 : Nat) : Int) by omega, wrapI_nat (by omega)]
        exact .refl
    · have h := of_decide_eq_false h
      have h0 : n = k + 1 := by omega
      subst h0
      show Runs Pr _ _ (dropSeq 2 laB) _ _ _
      rw [← ec]
      refine Runs.two (T := Ola) (fuel := 100) (on := [4]) (fr3 := [(4,.ptr 0 0)]) (h3 := [.vals [.bool true,.str [],.isl 3 (k + 1) (frzC (laC w (k + 1)) 0 3)]]) 1 Ola_sound mixed (by kernel_rfl) (by kernel_rfl)
        (Tr.is_pr (lad_x (k + 1) (laC w (k + 1)))) (.inr ⟨2, laC w (k + 1), rfl, laC_clo w _, rfl, rfl⟩) (Tr.is_pr (lae_x (k + 1) (frzC (laC w (k + 1)) 0 3))) ?_
      refine Runs.lastF (L := noLoopsT) Ola_sound mixed noLoops_all (by kernel_rfl) Loose.fin Carries.rfl (laf_x (k + 1) (frzC (laC w (k + 1)) 0 3)) ?_
      exact wp_chk_true.2 (wp_leaf.2 ⟨trivial, .inr (.inr rfl)⟩)
end
end Go.Proofs.YtbgiickegljpoaaDoor.K
end
section
open Go Go.Lh
namespace Go.Proofs.YtbgiickegljpoaaDoor.K
noncomputable section
set_option maxRecDepth 100000
def rda (F : Nat → Nat → V) : AW := ⟨fun i => sOfV (F i 0), fun i => mOfV (F i 1), fun i => rdw (gOfV (F i 1))⟩
def cmT (tk : Int) (tf tt : List B) (tn tg : BitVec 64) (tp ti tv : W4) (td : List B) (an : Nat) (af : AW) : CM := ⟨[], [], 0, W4.zero, W4.zero, [], tk, tf, tt, tn, tg, tp, ti, tv, td, an, af⟩
def tx_read : List V → Heap → Option (CM × (Nat → Nat → V)) := fun a h => match a, h with
  | [.agg [.int .i64 tk, .str tf, .str tt, .u64 tn, .u64 tg, .u64 pa, .u64 pb, .u64 pc, .u64 pd, .u64 ia, .u64 ib, .u64 ic, .u64 id, .u64 wa, .u64 wb, .u64 wc, .u64 wd, .str td, .isl 2 n F]], [] =>
    some (cmT tk tf tt tn tg ⟨pa, pb, pc, pd⟩ ⟨ia, ib, ic, id⟩ ⟨wa, wb, wc, wd⟩ td n (rda F), F)
  | _, _ => none
def txP0 (a : CM × (Nat → Nat → V)) : Prop := a.2 = aF a.1.af ∧ a.1.an ≤ most40
def txB0 (a : CM × (Nat → Nat → V)) : Bool := @decide (txP0 a) (Classical.propDecidable _)
theorem txB0_t {c : CM} (h : c.an ≤ most40) : txB0 (c, aF c.af) = true := @decide_eq_true _ (Classical.propDecidable _) ⟨rfl, h⟩
theorem tx_args {args : List V} {h : Heap} {a : CM × (Nat → Nat → V)} (e : tx_read args h = some a) (hp : a.2 = aF a.1.af) : args = [.agg a.1.tx] ∧ h = [] := by
  unfold tx_read at e
  split at e <;> cases e
  simp only [cmT] at hp
  refine ⟨?_, rfl⟩
  rw [hp]
  rfl
def rt_f (a : CM × (Nat → Nat → V)) : Tr (Fin × Heap) := .chk (txB0 a) (.leaf (.ret (.bool (rgtB a.1)), []))
theorem rt_ok : ∀ args h r, ((ctT tx_read rt_f) args h).is r → LFn Pr 56 args h r.1 r.2 := by
  intro args h r hr
  unfold ctT at hr
  split at hr
  · rename_i a e
    rw [rt_f, Tr.is_chk, Tr.is_leaf] at hr
    obtain ⟨h1, rfl⟩ := hr
    obtain ⟨h2, h3⟩ : txP0 a := @of_decide_eq_true _ (Classical.propDecidable _) h1
    obtain ⟨rfl, rfl⟩ := tx_args e h2
    exact right_fn a.1 h3
  · exact (Tr.is_no.1 hr).elim
def laQ (q : AW) : RW := ⟨fun _ => true, fun _ => [], fun _ => 2, fun i => rwF (acQ (q.a i) (q.m i) (rwF (lwQ (q.m i) (q.w i))))⟩
theorem la_wk (n : Nat) (q : AW) : (laR n q).Wk (lsV n (laQ q)) := by
  cases n with
  | zero => exact .agg3 (.refl _) (.refl _) (.nil _ _)
  | succ k =>
    refine wk_ls fun i hi => ?_
    have e : ∀ j, j < 3 → frzC (laC q (k + 1)) 0 3 i j = ([.bool true, .str [], acV (q.a i) (q.m i) (q.w i)] : List V).getD j .any := by
      intro j hj
      unfold frzC
      rw [Nat.zero_add]
      exact laC_at q _ i j hi hj
    refine ⟨?_, ?_, ?_⟩
    · rw [e 0 (by decide)]; exact .refl _
    · rw [e 1 (by decide)]; exact .refl _
    · rw [e 2 (by decide)]; exact .refl _
def la_read : List V → Heap → Option (Nat × (Nat → Nat → V)) := fun a h => match a, h with
  | [.isl 2 n F, .fn f [] []], [] => if Nat.beq f 58 then some (n, F) else none
  | _, _ => none
def laP (a : Nat × (Nat → Nat → V)) : Prop := a.2 = aF (rda a.2) ∧ a.1 ≤ most40 ∧ ∀ i, i < a.1 → (rda a.2).m i ≤ most40
def laPB (a : Nat × (Nat → Nat → V)) : Bool := @decide (laP a) (Classical.propDecidable _)
def la_f (a : Nat × (Nat → Nat → V)) : Tr (Fin × Heap) := .chk (laPB a) (.leaf (.ret (.agg [.bool true, .str [], .isl 3 a.1 (rwF (laQ (rda a.2)))]), []))
theorem la_ok : ∀ args h r, ((ctT la_read la_f) args h).is r → LFn Pr 57 args h r.1 r.2 := by
  refine ctT_ok (fun a => [.isl 2 a.1 a.2, .fn 58 [] []]) (fun _ => []) ?_ (fun a r h => ?_)
  · intro args h a e
    unfold la_read at e
    split at e
    · split at e
      · rename_i hf
        have hf := Nat.eq_of_beq_eq_true hf
        cases e; exact ⟨by rw [hf], rfl⟩
      · cases e
    · cases e
  · obtain ⟨n, F⟩ := a
    rw [la_f, Tr.is_chk, Tr.is_leaf] at h
    obtain ⟨h1, rfl⟩ := h
    obtain ⟨h2, h3, h4⟩ : laP (n, F) := @of_decide_eq_true _ (Classical.propDecidable _) h1
    simp only at h2 h3 h4
    have H := LFn.wkRet (la_fn n (rda F) h3 h4) (la_wk n (rda F))
    rw [← h2] at H
    exact H
def q10 (ss : List (List B)) (m : Nat) (g : Nat → Nat → V) : RW := ⟨fun i => Nat.beq i 9, fun i => ss.getD i [], fun i => bif Nat.beq i 9 then m else 0, fun i => bif Nat.beq i 9 then g else fun _ _ => .any⟩
def c10 (s0 s1 s2 s3 s4 s5 s6 s7 s8 : List B) (m : Nat) (g : Nat → Nat → V) : List V := [.bool false, .str s0, .nilSl, .bool false, .str s1, .nilSl, .bool false, .str s2, .nilSl, .bool false, .str s3, .nilSl, .bool false, .str s4, .nilSl, .bool false, .str s5, .nilSl, .bool false, .str s6, .nilSl, .bool false, .str s7, .nilSl, .bool false, .str s8, .nilSl, .bool true, .str [], .isl 3 m g]
theorem l10_x (s0 : List B) (s1 : List B) (s2 : List B) (s3 : List B) (s4 : List B) (s5 : List B) (s6 : List B) (s7 : List B) (s8 : List B) (m : Nat) (g : Nat → Nat → V) : Tr.prune (Tr.Sh.any)
 (execBF Pr OA noLoopsT (100 : Nat) Go.Proofs.Tryd.f16 [V.sl (0 : Nat) (0 : Nat) (3 : Nat) (10 : Nat) none]
 [Blk.vals (c10 s0 s1 s2 s3 s4 s5 s6 s7 s8 m g)]) =
 Tr.chk true
 (Tr.leaf
 (Fin.ret
 (V.agg [V.bool true, V.str (bytesOf (ByteArray.mk #[])), V.sl (1 : Nat) (0 : Nat) (3 : Nat) (10 : Nat) none]),
 [Blk.vals
 [V.bool false, V.str s0, V.nilSl, V.bool false, V.str s1, V.nilSl, V.bool false, V.str s2, V.nilSl,
 V.bool false, V.str s3, V.nilSl, V.bool false, V.str s4, V.nilSl, V.bool false, V.str s5, V.nilSl,
 V.bool false, V.str s6, V.nilSl, V.bool false, V.str s7, V.nilSl, V.bool false, V.str s8, V.nilSl,
 V.bool true, V.str [], V.isl (3 : Nat) m g],
 Blk.vals
 [V.bool false, V.str s0, V.nilSl, V.bool false, V.str s1, V.nilSl, V.bool false, V.str s2, V.nilSl,
 V.bool false, V.str s3, V.nilSl, V.bool false, V.str s4, V.nilSl, V.bool false, V.str s5, V.nilSl,
 V.bool false, V.str s6, V.nilSl, V.bool false, V.str s7, V.nilSl, V.bool false, V.str s8, V.nilSl,
 V.bool true, V.str [], V.isl (3 : Nat) m g]])) := by kernel_rfl
theorem l10_fn (s0 s1 s2 s3 s4 s5 s6 s7 s8 : List B) (m : Nat) (g : Nat → Nat → V) : LFn Pr 16 [.sl 0 0 3 10 none] [.vals (c10 s0 s1 s2 s3 s4 s5 s6 s7 s8 m g)] (.ret (lsV 10 (q10 [s0, s1, s2, s3, s4, s5, s6, s7, s8] m g))) [.vals (c10 s0 s1 s2 s3 s4 s5 s6 s7 s8 m g)] := by
  have h := fnT (f := 16) (fin := .ret (V.agg [V.bool true, V.str [], V.sl 1 0 3 10 none])) (h' := [Blk.vals (c10 s0 s1 s2 s3 s4 s5 s6 s7 s8 m g), Blk.vals (c10 s0 s1 s2 s3 s4 s5 s6 s7 s8 m g)]) OA_sound mixed (by kernel_rfl) LoopsOk.noneT (l10_x s0 s1 s2 s3 s4 s5 s6 s7 s8 m g) (tr1 rfl rfl)
  have hc : ∀ v, v ∈ c10 s0 s1 s2 s3 s4 s5 s6 s7 s8 m g → v.clo = true := by
    have : (c10 s0 s1 s2 s3 s4 s5 s6 s7 s8 m g).all V.clo = true := rfl
    exact List.all_eq_true.1 this
  have h2 := h.frz (i := 1) (r := (.ret (.agg [.bool true, .str [], .isl 3 10 (frzC (c10 s0 s1 s2 s3 s4 s5 s6 s7 s8 m g) 0 3)]), [.vals (c10 s0 s1 s2 s3 s4 s5 s6 s7 s8 m g)])) rfl hc (by kernel_rfl)
  refine LFn.wkRet h2 (wk_ls fun i hi => ?_)
  match i, hi with
  | 0, _ => exact ⟨.refl _, .refl _, .nil _ _⟩
  | 1, _ => exact ⟨.refl _, .refl _, .nil _ _⟩
  | 2, _ => exact ⟨.refl _, .refl _, .nil _ _⟩
  | 3, _ => exact ⟨.refl _, .refl _, .nil _ _⟩
  | 4, _ => exact ⟨.refl _, .refl _, .nil _ _⟩
  | 5, _ => exact ⟨.refl _, .refl _, .nil _ _⟩
  | 6, _ => exact ⟨.refl _, .refl _, .nil _ _⟩
  | 7, _ => exact ⟨.refl _, .refl _, .nil _ _⟩
  | 8, _ => exact ⟨.refl _, .refl _, .nil _ _⟩
  | 9, _ => exact ⟨.refl _, .refl _, .refl _⟩
structure L10 where
  s0 : List B
  s1 : List B
  s2 : List B
  s3 : List B
  s4 : List B
  s5 : List B
  s6 : List B
  s7 : List B
  s8 : List B
  m : Nat
  g : Nat → Nat → V
  cap : Option Nat
def L10.cs (a : L10) : List V := c10 a.s0 a.s1 a.s2 a.s3 a.s4 a.s5 a.s6 a.s7 a.s8 a.m a.g
def l10_read : List V → Heap → Option L10 := fun a h => match a, h with
  | [.sl 0 0 3 10 cap], [.vals [.bool false, .str s0, .nilSl, .bool false, .str s1, .nilSl, .bool false, .str s2, .nilSl, .bool false, .str s3, .nilSl, .bool false, .str s4, .nilSl, .bool false, .str s5, .nilSl, .bool false, .str s6, .nilSl, .bool false, .str s7, .nilSl, .bool false, .str s8, .nilSl, .bool true, .str [], .isl 3 m g]] => some ⟨s0, s1, s2, s3, s4, s5, s6, s7, s8, m, g, cap⟩
  | _, _ => none
def l10_f (a : L10) : Tr (Fin × Heap) := .leaf (.ret (.agg [.bool true, .str [], .isl 3 10 (rwF (q10 [a.s0, a.s1, a.s2, a.s3, a.s4, a.s5, a.s6, a.s7, a.s8] a.m a.g))]), [.vals a.cs])
theorem l10_ok : ∀ args h r, ((ctT l10_read l10_f) args h).is r → LFn Pr 16 args h r.1 r.2 := by
  intro args h r hr
  unfold ctT at hr
  split at hr
  · rename_i a e
    rw [l10_f, Tr.is_leaf] at hr
    subst hr
    unfold l10_read at e
    split at e <;> cases e
    exact LFn.wkArgs (l10_fn _ _ _ _ _ _ _ _ _ _ _) (fun I w ρ us h => sl_none h)
  · exact (Tr.is_no.1 hr).elim
def KTE : KnownT := (56, ctT tx_read rt_f) :: (57, ctT la_read la_f) :: (16, ctT l10_read l10_f) :: (15, ctT en_read en_f) :: (42, old bytes_g) :: KR5
theorem KTE_ok : KOkT Pr KTE := KOkT.cons (Enters.of (fn := Go.Proofs.Tryd.f56) (by kernel_rfl) (by kernel_rfl)) rt_ok (KOkT.cons (Enters.of (fn := Go.Proofs.Tryd.f57) (by kernel_rfl) (by kernel_rfl)) la_ok (KOkT.cons (Enters.of (fn := Go.Proofs.Tryd.f16) (by kernel_rfl) (by kernel_rfl)) l10_ok (KOkT.cons (Enters.of (fn := Go.Proofs.Tryd.f15) (by kernel_rfl) (by kernel_rfl)) en_ok (KOkT.cons bytes_en (old_ok (ctW_ok bytes_fn)) KR5_ok))))
def OTE : OrcT := autoT Pr ext KTE [60,14,41] 3
theorem OTE_sound : OrcSound Pr OTE.o := autoT_sound mixed ext_ok KTE_ok (by kernel_rfl) 3
theorem te_x (c : CM) : Tr.prune (Tr.Sh.any.both Tr.Sh.any)
 (execBF Pr OTE noLoopsT (100 : Nat) Go.Proofs.Tryd.f43 [V.agg c.tx] []) =
 Tr.chk (txB0 (cmT c.tk c.tf c.tt c.tn c.tg c.tp c.ti c.tv c.td c.an (rda (aF c.af)), aF c.af) && true)
 (Tr.br (!rgtB (cmT c.tk c.tf c.tt c.tn c.tg c.tp c.ti c.tv c.td c.an (rda (aF c.af))))
 (Tr.chk true (Tr.leaf (Fin.ret (V.tup [V.str (bytesOf (ByteArray.mk #[])), V.bool false]), [])))
 (Tr.chk
 (laPB (c.an, aF c.af) && true &&
 (okVB
 (V.agg
 [V.bool true, V.str [],
 V.isl (3 : Nat) (10 : Nat)
 (rwF
 (q10
 [numB (BitVec.ofInt (64 : Nat) c.tk), c.tf, numB c.tn, c.tp.bytes, c.ti.bytes, numB c.tg, c.tt,
 c.tv.bytes, c.td]
 c.an (rwF (laQ (rda (aF c.af))))))]) &&
 true) &&
 true)
 (Tr.leaf
 (Fin.ret
 (V.tup
 [V.str
 (encV
 (V.agg
 [V.bool true, V.str [],
 V.isl (3 : Nat) (10 : Nat)
 (rwF
 (q10
 [numB (BitVec.ofInt (64 : Nat) c.tk), c.tf, numB c.tn, c.tp.bytes, c.ti.bytes, numB c.tg,
 c.tt, c.tv.bytes, c.td]
 c.an (rwF (laQ (rda (aF c.af))))))])),
 V.bool true]),
 [])))) := by kernel_rfl
end
end Go.Proofs.YtbgiickegljpoaaDoor.K
end
section
open Go Go.Lh
namespace Go.Proofs.YtbgiickegljpoaaDoor.K
noncomputable section
set_option maxRecDepth 100000
theorem foldB_toNat : ∀ (s : List B) (n : BitVec 64) (k : Nat), n.toNat < 256 ^ k → k + s.length ≤ 8 → (foldB n s).toNat = n.toNat * 256 ^ s.length + beN s
  | [], n, k, _, _ => by simp [foldB, beN]
  | b :: r, n, k, hn, hk => by
    have h8 : 256 ^ (k + 1) ≤ 256 ^ 8 := Nat.pow_le_pow_right (by decide) (by simp only [List.length_cons] at hk; omega)
    have h64 : (256 : Nat) ^ 8 = 2 ^ 64 := by decide
    have hb := b.isLt
    have hs : n.toNat * 256 + b.toNat < 256 ^ (k + 1) := by rw [Nat.pow_succ]; omega
    have e : (n <<< 8 ||| b.setWidth 64).toNat = n.toNat * 256 + b.toNat := by
      rw [byte_step, BitVec.toNat_add, BitVec.toNat_mul, BitVec.toNat_setWidth, c256]
      have : b.toNat % 2 ^ 64 = b.toNat := Nat.mod_eq_of_lt (by omega)
      rw [this, Nat.mod_eq_of_lt (a := n.toNat * 256) (by omega), Nat.mod_eq_of_lt (by omega)]
    have ih := foldB_toNat r (n <<< 8 ||| b.setWidth 64) (k + 1) (by rw [e]; exact hs) (by simp only [List.length_cons] at hk; omega)
    have e2 : foldB n (b :: r) = foldB (n <<< 8 ||| b.setWidth 64) r := rfl
    rw [e2, ih, e, beN, List.length_cons, Nat.pow_succ, Nat.add_mul, Nat.mul_assoc, Nat.mul_comm 256, Nat.add_assoc]
theorem valB_toNat {s : List B} (h : s.length ≤ 8) : (valB s).toNat = beN s := by
  rw [valB_eq, foldB_toNat s 0 0 (by decide) (by omega)]
  simp
theorem beN_trL : ∀ s : List B, beN (trL 0 s) = beN s
  | [] => rfl
  | x :: r => by
    rw [trL]
    split
    · rename_i h
      rw [beN_trL r, beN, h]; simp
    · rfl
theorem trL_head : ∀ s : List B, ((trL 0 s).take 1 == [0#8]) = false
  | [] => rfl
  | x :: r => by
    rw [trL]
    split
    · exact trL_head r
    · rename_i h
      show ([x] == [0#8]) = false
      simpa using h
theorem trL_self {s : List B} (h : (s.take 1 == [0#8]) = false) : trL 0 s = s := by
  cases s with
  | nil => rfl
  | cons x r =>
    rw [trL, if_neg]
    rintro rfl
    cases h
theorem noLead_inj {s t : List B} (hs : (s.take 1 == [0#8]) = false) (ht : (t.take 1 == [0#8]) = false) (h : beN s = beN t) : s = t := by
  refine beN_inj ?_ h
  have e : ∀ k, s.length ≤ k ↔ t.length ≤ k := by
    intro k
    have a := trL_le s k
    have b := trL_le t k
    rw [trL_self hs] at a
    rw [trL_self ht] at b
    rw [a, b, h]
  have h1 := (e t.length).2 (Nat.le_refl _)
  have h2 := (e s.length).1 (Nat.le_refl _)
  omega
theorem beN_numB (n : BitVec 64) : beN (numB n) = n.toNat := by
  rw [numB_eq]
  have h := beN_trL (be8 n)
  rw [show (0#8 : B) = 0 from rfl, h, ← beK_8]
  have : (256 : Nat) ^ 8 = 2 ^ 64 := by decide
  exact beN_beK 8 n (by rw [this]; exact n.isLt)
theorem numB_small (n : BitVec 64) : smallB false (numB n) = true := by
  have h := numB_len n
  have h2 : ((numB n).take 1 == [0#8]) = false := by rw [numB_eq]; exact trL_head _
  unfold smallB
  rw [decide_eq_true h, h2]; rfl
theorem smallB_iff {s : List B} (h : smallB false s = true) : s.length ≤ 8 ∧ (s.take 1 == [0#8]) = false := by
  unfold smallB at h
  simp only [Bool.and_eq_true, Bool.not_eq_true', decide_eq_true_eq] at h
  exact ⟨h.1.2, h.2⟩
theorem smallN_val {s : List B} (h : smallB false s = true) : (smallN false s).toNat = beN s := by
  unfold smallN
  rw [if_pos h, valB_toNat (smallB_iff h).1]
theorem smallN_numB (n : BitVec 64) : smallN false (numB n) = n := by
  apply BitVec.eq_of_toNat_eq
  rw [smallN_val (numB_small n), beN_numB]
theorem numB_smallN {s : List B} (h : smallB false s = true) : numB (smallN false s) = s := by
  refine noLead_inj (smallB_iff (numB_small _)).2 (smallB_iff h).2 ?_
  rw [beN_numB, smallN_val h]
end
end Go.Proofs.YtbgiickegljpoaaDoor.K
end
section
open Go Go.Lh
namespace Go.Proofs.YtbgiickegljpoaaDoor.K
noncomputable section
set_option maxRecDepth 100000
theorem numB_le (n : BitVec 64) (k : Nat) : (numB n).length ≤ k ↔ n.toNat < 256 ^ k := by
  rw [numB_eq]
  have h := trL_le (be8 n) k
  have : (256 : Nat) ^ 8 = 2 ^ 64 := by decide
  rw [← beK_8, beN_beK 8 n (by rw [this]; exact n.isLt), beK_8] at h
  exact h
theorem enc_lst (l : List It) : enc (.lst l) = headO 192#8 (encs l).length ++ encs l := by rw [enc]
theorem enc_txt_eq (s : List B) : enc (.txt s) = if s.length = 1 ∧ s.getD 0 0 < 128#8 then s else headO 128#8 s.length ++ s := by rw [enc]
theorem encs_cons (x : It) (r : List It) : encs (x :: r) = enc x ++ encs r := by rw [encs]
theorem encs_nil : encs [] = [] := by rw [encs]
theorem byte_add {b base : B} {k : Nat} (hk : base.toNat + k < 256) (hb : b.toNat = base.toNat + k) : base + BitVec.ofNat 8 k = b := by
  apply BitVec.eq_of_toNat_eq
  rw [BitVec.toNat_add, BitVec.toNat_ofNat, hb]
  omega
theorem mnF_back {b base : B} {k n : Nat} {s r : List B} (hb : b.toNat = base.toNat + k) (h : mnF k s = some (n, r)) : headO base n ++ r = b :: s := by
  have hlt := b.isLt
  unfold mnF at h
  rw [headO_eq]
  unfold headB
  split at h
  · rename_i hk
    cases h
    rw [if_pos hk, byte_add (by omega) hb]; rfl
  · rename_i hk
    split at h
    · rename_i hc
      obtain ⟨c1, c2, c3, c4⟩ := hc
      cases h
      rw [if_neg (by omega), BitVec.ofNat_toNat, BitVec.setWidth_eq, numB_smallN c2, List.length_take, Nat.min_eq_left c1, BitVec.add_assoc]
      have e : (55#8 + BitVec.ofNat 8 (k - 55)) = BitVec.ofNat 8 k := by
        apply BitVec.eq_of_toNat_eq
        rw [BitVec.toNat_add, BitVec.toNat_ofNat, BitVec.toNat_ofNat, BitVec.toNat_ofNat]
        omega
      rw [e, byte_add (by omega) hb, List.cons_append, List.take_append_drop]
    · cases h
theorem tkF_back {k : Nat} {s : List B} {q : List B × List B} (h : tkF k s = some q) : q.1 ++ q.2 = s ∧ q.1.length = k := by
  unfold tkF at h
  split at h
  · rename_i hk
    cases h
    exact ⟨List.take_append_drop k s, by rw [List.length_take]; omega⟩
  · cases h
theorem manyD_back {dec : List B → Option (It × List B)} (hd : ∀ s x r, dec s = some (x, r) → enc x ++ r = s) : ∀ (n : Nat) (t : List B) (l : List It), manyD dec n t = some l → encs l = t
  | n, [], l, h => by
    rw [manyD.eq_def] at h
    cases h; exact encs_nil
  | 0, b :: t, l, h => by rw [manyD] at h; cases h
  | n + 1, b :: t, l, h => by
    rw [manyD] at h
    cases hx : dec (b :: t) with
    | none => rw [hx] at h; cases h
    | some p =>
      obtain ⟨x, q⟩ := p
      rw [hx] at h
      simp only at h
      rw [Option.map_eq_some_iff] at h
      obtain ⟨l', hl, rfl⟩ := h
      rw [encs_cons, manyD_back hd n q l' hl, hd _ _ _ hx]
theorem itF_back : ∀ (f : Nat) (s : List B) (x : It) (r : List B), itF f s = some (x, r) → enc x ++ r = s
  | 0, s, x, r, h => by cases s <;> cases h
  | f + 1, [], x, r, h => by cases h
  | f + 1, b :: s, x, r, h => by
    have hb := b.isLt
    rw [itF] at h
    split at h
    · rename_i hlt
      cases h
      rw [enc_txt_eq, if_pos ⟨rfl, hlt⟩]; rfl
    · rename_i hlt
      rw [BitVec.lt_def, c128] at hlt
      split at h
      · rename_i hlt2
        rw [BitVec.lt_def, c192] at hlt2
        rw [Option.bind_eq_some_iff] at h
        obtain ⟨⟨n, r1⟩, hp, h⟩ := h
        rw [Option.bind_eq_some_iff] at h
        obtain ⟨⟨t, r2⟩, hq, h⟩ := h
        obtain ⟨q1, q2⟩ := tkF_back hq
        simp only at q1 q2
        split at h
        · rename_i hc
          cases h
          have hm := mnF_back (b := b) (base := 128#8) (by rw [c128]; omega) hp
          have hne : ¬ (t.length = 1 ∧ t.getD 0 0 < 128#8) := by
            rintro ⟨a1, a2⟩
            rw [BitVec.lt_def, c128] at a2
            rcases hc with hc | hc | hc
            · exact hc a1
            · have hc : 128#8 ≤ t.getD 0 0 := hc
              rw [BitVec.le_def, c128] at hc; omega
            · rw [← q2, a1] at hm
              rw [headO_eq] at hm
              unfold headB at hm
              rw [if_pos (by decide)] at hm
              have hm' : (128#8 + BitVec.ofNat 8 1) :: ([] ++ r1) = b :: s := hm
              have := List.head_eq_of_cons_eq hm'
              exact hc (by rw [← this]; decide)
          rw [enc_txt_eq, if_neg hne, q2, List.append_assoc, q1, hm]
        · cases h
      · rename_i hlt2
        rw [BitVec.lt_def, c192] at hlt2
        rw [Option.bind_eq_some_iff] at h
        obtain ⟨⟨n, r1⟩, hp, h⟩ := h
        rw [Option.bind_eq_some_iff] at h
        obtain ⟨⟨t, r2⟩, hq, h⟩ := h
        obtain ⟨q1, q2⟩ := tkF_back hq
        simp only at q1 q2 h
        rw [Option.map_eq_some_iff] at h
        obtain ⟨l, hl, h⟩ := h
        cases h
        have hm := mnF_back (b := b) (base := 192#8) (by rw [c192]; omega) hp
        rw [enc_lst, manyD_back (itF_back f) _ _ _ hl, q2, List.append_assoc, q1, hm]
theorem head_fwd (base : B) (n : Nat) (hn : n ≤ 65536) (hbase : base.toNat ≤ 192) : ∃ b h k, headO base n = b :: h ∧ b.toNat = base.toNat + k ∧ k < 64 ∧ ∀ r, mnF k (h ++ r) = some (n, r) := by
  rw [headO_eq]
  unfold headB
  by_cases h1 : n ≤ 55
  · rw [if_pos h1]
    refine ⟨_, [], n, rfl, ?_, by omega, fun r => ?_⟩
    · rw [BitVec.toNat_add, BitVec.toNat_ofNat]; omega
    · unfold mnF; rw [if_pos h1]; rfl
  · rw [if_neg h1]
    have hv : (BitVec.ofNat 64 n).toNat = n := by rw [BitVec.toNat_ofNat]; exact Nat.mod_eq_of_lt (by omega)
    have hl := numB_len (BitVec.ofNat 64 n)
    have a0 := numB_le (BitVec.ofNat 64 n) 0
    rw [hv, show (256 : Nat) ^ 0 = 1 from rfl] at a0
    refine ⟨_, numB (BitVec.ofNat 64 n), 55 + (numB (BitVec.ofNat 64 n)).length, rfl, ?_, by omega, fun r => ?_⟩
    · rw [BitVec.toNat_add, BitVec.toNat_add, BitVec.toNat_ofNat, BitVec.toNat_ofNat]; omega
    · unfold mnF
      rw [if_neg (by omega), Nat.add_sub_cancel_left, List.take_left, List.drop_left, smallN_numB, hv, if_pos ⟨by simp, numB_small _, by omega, hn⟩]
theorem tkF_fwd (t r : List B) : tkF t.length (t ++ r) = some (t, r) := by
  unfold tkF
  rw [if_pos (by simp), List.take_left, List.drop_left]
theorem itF_head {f n : Nat} {r : List B} (b : B) (h : List B) (k : Nat) (hb : b.toNat = 192 + k) (hm : ∀ r, mnF k (h ++ r) = some (n, r)) (t : List B) (hn : n = t.length) :
    itF (f + 1) (b :: (h ++ (t ++ r))) = (manyD (itF f) t.length t).map fun l => (.lst l, r) := by
  have hlt := b.isLt
  rw [itF, if_neg (by rw [BitVec.lt_def, c128]; omega), if_neg (by rw [BitVec.lt_def, c192]; omega), hb, Nat.add_sub_cancel_left, hm, Option.bind_some, hn]
  simp only
  rw [tkF_fwd, Option.bind_some]
mutual
theorem itF_fwd : ∀ (x : It) (f : Nat) (r : List B), x.dep + 1 ≤ f → (enc x).length ≤ 65536 → itF f (enc x ++ r) = some (x, r)
  | .txt s, f + 1, r, _, hl => by
    rw [enc_txt_eq] at hl ⊢
    by_cases hc : s.length = 1 ∧ s.getD 0 0 < 128#8
    · rw [if_pos hc]
      obtain ⟨h1, h2⟩ := hc
      match s, h1, h2 with
      | [b], _, h2 =>
        have h2 : b < 128#8 := h2
        rw [List.cons_append, List.nil_append, itF, if_pos h2]
    · rw [if_neg hc] at hl ⊢
      rw [List.length_append] at hl
      obtain ⟨b, h, k, e, hb, hk, hm⟩ := head_fwd 128#8 s.length (by omega) (by decide)
      rw [c128] at hb
      rw [e, List.append_assoc, List.cons_append, itF, if_neg (by rw [BitVec.lt_def, c128]; omega), if_pos (by rw [BitVec.lt_def, c192]; omega), hb, Nat.add_sub_cancel_left, hm, Option.bind_some]
      simp only
      rw [tkF_fwd, Option.bind_some]
      simp only
      rw [if_pos]
      by_cases h1 : s.length = 1
      · right; left
        have : ¬ s.getD 0 0 < 128#8 := fun h => hc ⟨h1, h⟩
        rw [BitVec.lt_def] at this
        show 128#8 ≤ s.getD 0 0
        rw [BitVec.le_def]; omega
      · exact .inl h1
  | .lst l, f + 1, r, hd, hl => by
    rw [enc_lst] at hl ⊢
    rw [List.length_append] at hl
    rw [It.dep] at hd
    obtain ⟨b, h, k, e, hb, hk, hm⟩ := head_fwd 192#8 (encs l).length (by omega) (by decide)
    rw [c192] at hb
    rw [e, List.append_assoc, List.cons_append, itF_head b h k hb hm (encs l) rfl, itsF_fwd l f (by omega) (by omega), Option.map_some]
theorem itsF_fwd : ∀ (l : List It) (f : Nat), It.deps l + 1 ≤ f → (encs l).length ≤ 65536 → manyD (itF f) (encs l).length (encs l) = some l
  | [], f, _, _ => by rw [encs_nil]; rw [manyD.eq_def]
  | x :: l, f, hd, hl => by
    rw [It.deps] at hd
    rw [encs_cons] at hl ⊢
    rw [List.length_append] at hl
    have h1 : x.dep + 1 ≤ f := by have := Nat.le_max_left x.dep (It.deps l); omega
    have h2 : It.deps l + 1 ≤ f := by have := Nat.le_max_right x.dep (It.deps l); omega
    have hx := itF_fwd x f (encs l) h1 (by omega)
    have hr := itsF_fwd l f h2 (by omega)
    have hp := enc_pos x
    cases he : enc x with
    | nil => rw [he] at hp; simp at hp
    | cons b t =>
      rw [he] at hx hl
      rw [List.cons_append, List.length_cons, manyD, ← List.cons_append, hx]
      simp only
      rw [manyD_fuel (itF_len f) _ (encs l).length (encs l) (by rw [List.length_append]; omega) (Nat.le_refl _), hr]; rfl
end
theorem decF_back {s : List B} {x : It} (h : decF s = some x) : enc x = s ∧ s.length ≤ 65536 := by
  unfold decF at h
  split at h
  · rename_i hs
    rw [Option.bind_eq_some_iff] at h
    obtain ⟨⟨y, r⟩, hp, h⟩ := h
    split at h
    · rename_i hr
      cases h
      simp only at hr
      subst hr
      have := itF_back 65 s _ [] hp
      rw [List.append_nil] at this
      exact ⟨this, hs⟩
    · cases h
  · cases h
theorem decF_fwd (x : It) (hd : x.dep ≤ 64) (hl : (enc x).length ≤ 65536) : decF (enc x) = some x := by
  have := itF_fwd x 65 [] (by omega) hl
  rw [List.append_nil] at this
  unfold decF
  rw [if_pos hl, this, Option.bind_some, if_pos rfl]
end
end Go.Proofs.YtbgiickegljpoaaDoor.K
end
section
open Go Go.Lh
namespace Go.Proofs.YtbgiickegljpoaaDoor.K
noncomputable section
set_option maxRecDepth 100000
def acIt (a : List B) (m : Nat) (w : Nat → W4) : It := .lst [.txt a, .lst ((wTs m w).map .txt)]
def acIts (n : Nat) (q : AW) : List It := (List.range n).map fun i => acIt (q.a i) (q.m i) (q.w i)
def txTs (c : CM) : List (List B) := [numB (BitVec.ofInt 64 c.tk), c.tf, numB c.tn, c.tp.bytes, c.ti.bytes, numB c.tg, c.tt, c.tv.bytes, c.td]
def txIt (c : CM) : It := .lst ((txTs c).map .txt ++ [.lst (acIts c.an c.af)])
def txS (c : CM) : List B := @ite _ True (Classical.propDecidable True) (enc (txIt c)) []
theorem txS_eq (c : CM) : txS c = enc (txIt c) := if_pos trivial
theorem is_lsQ {q : RW} {n : Nat} {l : List It} (hn : l.length = n) (h : ∀ i (hi : i < l.length), isIt (q.at i) l[i]) : isIt (.agg [.bool true, .str [], .isl 3 n (rwF q)]) (.lst l) := by
  subst hn; exact .lst q l h
theorem is_txts (xs : List (List B)) : isIt (.agg [.bool true, .str [], .isl 3 xs.length (rwF (rowT xs))]) (.lst (xs.map .txt)) := by
  refine is_lsQ (by simp) fun i hi => ?_
  have hi' : i < xs.length := by simpa using hi
  have e : (rowT xs).at i = .agg [.bool false, .str xs[i], .isl 3 0 (fun _ _ => .any)] := by
    show V.agg [.bool false, .str (xs.getD i []), .isl 3 0 (fun _ _ => .any)] = _
    rw [List.getD_eq_getElem?_getD, List.getElem?_eq_getElem hi']; rfl
  rw [e, List.getElem_map]
  exact .txt _ _
theorem wTs_len (n : Nat) (w : Nat → W4) : (wTs n w).length = n := by simp [wTs]
theorem is_ws (n : Nat) (w : Nat → W4) : isIt (.agg [.bool true, .str [], .isl 3 n (rwF (lwQ n w))]) (.lst ((wTs n w).map .txt)) := by
  have := is_txts (wTs n w)
  rw [wTs_len] at this; exact this
theorem is_ac (a : List B) (m : Nat) (w : Nat → W4) : isIt (.agg [.bool true, .str [], .isl 3 2 (rwF (acQ a m (rwF (lwQ m w))))]) (acIt a m w) := by
  refine is_lsQ rfl fun i hi => ?_
  match i, hi with
  | 0, _ => exact .txt _ _
  | 1, _ => exact is_ws m w
theorem acIts_len (n : Nat) (q : AW) : (acIts n q).length = n := by simp [acIts]
theorem is_acs (n : Nat) (q : AW) : isIt (.agg [.bool true, .str [], .isl 3 n (rwF (laQ q))]) (.lst (acIts n q)) := by
  refine is_lsQ (acIts_len n q) fun i hi => ?_
  have e : (acIts n q)[i] = acIt (q.a i) (q.m i) (q.w i) := by simp [acIts]
  rw [e]
  exact is_ac _ _ _
theorem is_tx (c : CM) : isIt (.agg [.bool true, .str [], .isl 3 10 (rwF (q10 (txTs c) c.an (rwF (laQ c.af))))]) (txIt c) := by
  refine is_lsQ rfl fun i hi => ?_
  match i, hi with
  | 0, _ => exact .txt _ _
  | 1, _ => exact .txt _ _
  | 2, _ => exact .txt _ _
  | 3, _ => exact .txt _ _
  | 4, _ => exact .txt _ _
  | 5, _ => exact .txt _ _
  | 6, _ => exact .txt _ _
  | 7, _ => exact .txt _ _
  | 8, _ => exact .txt _ _
  | 9, _ => exact is_acs c.an c.af
theorem enc_txt_len (s : List B) : (enc (.txt s)).length ≤ s.length + 9 := by
  rw [enc_txt_eq]
  split
  · omega
  · rw [List.length_append]; have := headO_len 128#8 s.length; omega
theorem enc_lst_len (l : List It) : (enc (.lst l)).length ≤ (encs l).length + 9 := by
  rw [enc_lst, List.length_append]
  have := headO_len 192#8 (encs l).length
  omega
theorem encsK_len {k : Nat} : ∀ (l : List It), (∀ x ∈ l, (enc x).length ≤ k) → (encs l).length ≤ l.length * k
  | [], _ => by rw [encs_nil]; exact Nat.zero_le _
  | x :: r, h => by
    rw [encs_cons, List.length_append, List.length_cons, Nat.succ_mul]
    have h1 := h x (by simp)
    have h2 := encsK_len r (fun y hy => h y (by simp [hy]))
    omega
theorem acIt_len {a : List B} {m : Nat} {w : Nat → W4} (ha : a.length = 20) (hm : m ≤ 64) : (enc (acIt a m w)).length ≤ 2680 := by
  have h1 := enc_lst_len [.txt a, .lst ((wTs m w).map .txt)]
  rw [encs_cons, encs_cons, encs_nil, List.length_append, List.append_nil] at h1
  have h2 := enc_txt_len a
  have h3 := enc_lst_len ((wTs m w).map .txt)
  have h4 := encsK_len (k := 41) ((wTs m w).map .txt) (by
    intro x hx
    obtain ⟨s, hs, rfl⟩ := List.mem_map.1 hx
    obtain ⟨i, _, rfl⟩ := List.mem_map.1 hs
    have := enc_txt_len (w i).bytes
    rw [W4.bytes_length] at this; exact this)
  rw [List.length_map, wTs_len] at h4
  unfold acIt
  have : m * 41 ≤ 64 * 41 := Nat.mul_le_mul_right _ hm
  omega
theorem txts_len : ∀ (xs : List (List B)), (encs (xs.map .txt)).length ≤ (xs.map fun x => x.length + 9).sum
  | [] => by rw [List.map_nil, encs_nil]; exact Nat.zero_le _
  | x :: r => by
    rw [List.map_cons, encs_cons, List.length_append, List.map_cons, List.sum_cons]
    have h1 := txts_len r
    have h2 := enc_txt_len x
    omega
theorem numB_len8 (n : BitVec 64) : (numB n).length ≤ 8 := by rw [numB_eq]; exact trL_length _ _
theorem tx_len {c : CM} (h : rgtP c) : (enc (txIt c)).length ≤ 300000 := by
  obtain ⟨h1, ⟨_, _, h2, h3, h4⟩, _, h5, _⟩ := h
  have a1 := enc_lst_len ((txTs c).map .txt ++ [.lst (acIts c.an c.af)])
  rw [encs_append, encs_cons, encs_nil, List.length_append, List.append_nil] at a1
  have a2 := txts_len (txTs c)
  have a3 := enc_lst_len (acIts c.an c.af)
  have a4 := encsK_len (k := 2680) (acIts c.an c.af) (by
    intro x hx
    obtain ⟨i, hi, rfl⟩ := List.mem_map.1 hx
    have hi := List.mem_range.1 hi
    exact acIt_len (h1 i hi).1 (h1 i hi).2)
  rw [acIts_len] at a4
  have : c.an * 2680 ≤ 64 * 2680 := Nat.mul_le_mul_right _ h5
  have b1 := numB_len8 (BitVec.ofInt 64 c.tk)
  have b2 := numB_len8 c.tn
  have b3 := numB_len8 c.tg
  have b4 : c.tt.length ≤ 20 := by rcases h3 with h3 | h3 <;> simp [h3]
  simp only [txTs, List.map_cons, List.map_nil, List.sum_cons, List.sum_nil, W4.bytes_length] at a2
  unfold txIt
  simp only [txTs, List.map_cons, List.map_nil] at a1 ⊢
  omega
theorem te_fn (c : CM) (ha : c.an ≤ most40) : LFn Pr 43 [.agg c.tx] [] (if rgtB c = true then .ret (.tup [.str (txS c), .bool true]) else .ret (.tup [.str [], .bool false])) [] := by
  refine fnT OTE_sound mixed (by kernel_rfl) LoopsOk.noneT (te_x c) ?_
  refine wp_chk.2 ⟨by rw [show txB0 (cmT c.tk c.tf c.tt c.tn c.tg c.tp c.ti c.tv c.td c.an (rda (aF c.af)), aF c.af) = true from @decide_eq_true _ (Classical.propDecidable _) ⟨rfl, ha⟩]; rfl, wp_br.2 ⟨fun h => wp_chk_true.2 (wp_leaf.2 ?_), fun h => ?_⟩⟩
  · have h1 : (!rgtB c) = true := h
    have h2 : rgtB c = false := by cases hx : rgtB c with | true => rw [hx] at h1; cases h1 | false => rfl
    rw [if_neg (by rw [h2]; decide)]; rfl
  · have h1 : (!rgtB c) = false := h
    have h2 : rgtB c = true := by cases hx : rgtB c with | true => rfl | false => rw [hx] at h1; cases h1
    have hp := rgtB_iff.1 h2
    have e1 : laPB (c.an, aF c.af) = true := @decide_eq_true _ (Classical.propDecidable _) ⟨rfl, ha, fun i hi => by have := (hp.1 i hi).2; rw [m40]; show c.af.m i ≤ _; omega⟩
    have hv := encV_eq (v := .agg [.bool true, .str [], .isl 3 10 (rwF (q10 (txTs c) c.an (rwF (laQ c.af))))]) (is_tx c)
    have e2 : okVB (.agg [.bool true, .str [], .isl 3 10 (rwF (q10 (txTs c) c.an (rwF (laQ c.af))))]) = true := by
      refine @decide_eq_true _ (Classical.propDecidable _) ⟨⟨_, is_tx c⟩, ?_⟩
      rw [hv, m40]
      have := tx_len hp; omega
    refine wp_chk.2 ⟨?_, wp_leaf.2 ?_⟩
    · rw [e1]
      show (true && true && (okVB (.agg [.bool true, .str [], .isl 3 10 (rwF (q10 (txTs c) c.an (rwF (laQ c.af))))]) && true) && true) = true
      rw [e2]; rfl
    · rw [if_pos h2, txS_eq, ← hv]; rfl
def te_f (a : CM × (Nat → Nat → V)) : Tr (Fin × Heap) := .chk (txB0 a) (.br (rgtB a.1) (.leaf (.ret (.tup [.str (txS a.1), .bool true]), [])) (.leaf (.ret (.tup [.str [], .bool false]), [])))
theorem te_ok : ∀ args h r, ((ctT tx_read te_f) args h).is r → LFn Pr 43 args h r.1 r.2 := by
  intro args h r hr
  unfold ctT at hr
  split at hr
  · rename_i a e
    rw [te_f, Tr.is_chk, Tr.is_br] at hr
    obtain ⟨h1, hr⟩ := hr
    obtain ⟨h2, h3⟩ : txP0 a := @of_decide_eq_true _ (Classical.propDecidable _) h1
    obtain ⟨rfl, rfl⟩ := tx_args e h2
    have H := te_fn a.1 h3
    split at hr
    · rename_i hh
      rw [Tr.is_leaf] at hr; subst hr
      rw [if_pos hh] at H; exact H
    · rename_i hh
      rw [Tr.is_leaf] at hr; subst hr
      rw [if_neg hh] at H; exact H
  · exact (Tr.is_no.1 hr).elim
end
end Go.Proofs.YtbgiickegljpoaaDoor.K
end
section
open Go Go.Lh
namespace Go.Proofs.YtbgiickegljpoaaDoor.K
noncomputable section
set_option maxRecDepth 100000
def noneV : V := .iface 119 (.agg [])
def ofW (s : List B) : W4 := if s.length ≤ 32 then W4.ofBytes s else W4.zero
def KU : KnownT := (50, small_g) :: (51, ctS ofV) :: []
theorem KU_ok : KOkT Pr KU := KOkT.cons (Enters.of (fn := Go.Proofs.Tryd.f50) (by kernel_rfl) (by kernel_rfl)) small_ok (KOkT.cons of_en (ctS_ok of_fn) KOkT.nil)
def OU : OrcT := autoT Pr ext KU [65,68] 3
theorem OU_sound : OrcSound Pr OU.o := autoT_sound mixed ext_ok KU_ok (by kernel_rfl) 3
theorem sm_x (b : Bool) (s : List B) (m : Nat) (g : Nat → Nat → V) : Tr.prune (Tr.Sh.any.both Tr.Sh.any)
 (execBF Pr OU noLoopsT (100 : Nat) Go.Proofs.Tryd.f67 [V.agg [V.bool b, V.str s, V.isl (3 : Nat) m g]] []) =
 Tr.chk true
 (Tr.br (!smallO b s) (Tr.chk true (Tr.leaf (Fin.pan (V.iface (119 : Nat) (V.agg [])), [])))
 (Tr.chk true (Tr.leaf (Fin.ret (V.u64 (smallN b s)), [])))) := by kernel_rfl
theorem tt_x (b : Bool) (s : List B) (m : Nat) (g : Nat → Nat → V) : Tr.prune (Tr.Sh.any.both Tr.Sh.any)
 (execBF Pr OU noLoopsT (100 : Nat) Go.Proofs.Tryd.f68 [V.agg [V.bool b, V.str s, V.isl (3 : Nat) m g]] []) =
 Tr.chk true
 (Tr.br (!!b) (Tr.chk true (Tr.leaf (Fin.pan (V.iface (119 : Nat) (V.agg [])), [])))
 (Tr.chk true (Tr.leaf (Fin.ret (V.str s), [])))) := by kernel_rfl
theorem wd_x (b : Bool) (s : List B) (m : Nat) (g : Nat → Nat → V) : Tr.prune (Tr.Sh.any.both
 (Tr.Sh.any.both Tr.Sh.any))
 (execBF Pr OU noLoopsT (100 : Nat) Go.Proofs.Tryd.f69 [V.agg [V.bool b, V.str s, V.isl (3 : Nat) m g]] []) =
 Tr.chk true
 (Tr.br (!!b) (Tr.chk true (Tr.leaf (Fin.pan (V.iface (119 : Nat) (V.agg [])), [])))
 (Tr.chk true
 (Tr.br (!(↑s.length : Int) == (32 : Int)) (Tr.chk true (Tr.leaf (Fin.pan (V.iface (119 : Nat) (V.agg [])), [])))
 (Tr.chk true
 (Tr.leaf
 (Fin.ret
 (V.agg
 [V.u64 (if s.length ≤ (32 : Nat) then W4.ofBytes s else W4.zero).a,
 V.u64 (if s.length ≤ (32 : Nat) then W4.ofBytes s else W4.zero).b,
 V.u64 (if s.length ≤ (32 : Nat) then W4.ofBytes s else W4.zero).c,
 V.u64 (if s.length ≤ (32 : Nat) then W4.ofBytes s else W4.zero).d]),
 [])))))) := by kernel_rfl
theorem im_x (b : Bool) (s : List B) (m : Nat) (g : Nat → Nat → V) : Tr.prune (Tr.Sh.any.both Tr.Sh.any)
 (execBF Pr OU noLoopsT (100 : Nat) Go.Proofs.Tryd.f66 [V.agg [V.bool b, V.str s, V.isl (3 : Nat) m g]] []) =
 Tr.chk true
 (Tr.br (!b) (Tr.chk true (Tr.leaf (Fin.pan (V.iface (119 : Nat) (V.agg [])), [])))
 (Tr.chk true (Tr.leaf (Fin.ret (V.isl (3 : Nat) m g), [])))) := by kernel_rfl
end
end Go.Proofs.YtbgiickegljpoaaDoor.K
end
section
open Go Go.Lh
namespace Go.Proofs.YtbgiickegljpoaaDoor.K
noncomputable section
set_option maxRecDepth 100000
def wdW (s : List B) : W4 := @ite _ True (Classical.propDecidable True) (ofW s) W4.zero
theorem wdW_eq (s : List B) : wdW s = ofW s := if_pos trivial
def wdB (b : Bool) (s : List B) : Bool := @decide (b = false ∧ s.length = 32) (Classical.propDecidable _)
theorem wdB_iff {b : Bool} {s : List B} : wdB b s = true ↔ b = false ∧ s.length = 32 := ⟨@of_decide_eq_true _ (Classical.propDecidable _), @decide_eq_true _ (Classical.propDecidable _)⟩
structure IT where
  b : Bool
  s : List B
  m : Nat
  g : Nat → Nat → V
def it_read2 : List V → Heap → Option IT := fun a h => match a, h with
  | [.agg [.bool b, .str s, .isl 3 m g]], [] => some ⟨b, s, m, g⟩
  | _, _ => none
theorem it_args : ∀ {args h a}, it_read2 args h = some a → args = (fun a : IT => [V.agg [.bool a.b, .str a.s, .isl 3 a.m a.g]]) a ∧ h = (fun _ => ([] : Heap)) a := by
  intro args h a e
  unfold it_read2 at e
  split at e <;> cases e <;> exact ⟨rfl, rfl⟩
def sma_f (a : IT) : Tr (Fin × Heap) := .br (smallO a.b a.s) (.leaf (.ret (.u64 (smallN a.b a.s)), [])) (.leaf (.pan noneV, []))
def tta_f (a : IT) : Tr (Fin × Heap) := .br (!a.b) (.leaf (.ret (.str a.s), [])) (.leaf (.pan noneV, []))
def wda_f (a : IT) : Tr (Fin × Heap) := .br (wdB a.b a.s) (.leaf (.ret (.agg [.u64 (wdW a.s).a, .u64 (wdW a.s).b, .u64 (wdW a.s).c, .u64 (wdW a.s).d]), [])) (.leaf (.pan noneV, []))
def ima_f (a : IT) : Tr (Fin × Heap) := .br a.b (.leaf (.ret (.isl 3 a.m a.g), [])) (.leaf (.pan noneV, []))
theorem br_is {b : Bool} {x y r : Fin × Heap} (h : (Tr.br b (.leaf x) (.leaf y)).is r) : r = if b = true then x else y := by
  rw [Tr.is_br] at h
  split at h <;> rename_i hb <;> rw [Tr.is_leaf] at h <;> subst h
  · rw [if_pos hb]
  · rw [if_neg hb]
theorem sma_ok : ∀ args h r, ((ctT it_read2 sma_f) args h).is r → LFn Pr 67 args h r.1 r.2 := by
  refine ctT_ok _ _ (fun _ _ _ => it_args) (fun a r h => ?_)
  have h := br_is h
  subst h
  refine fnT OU_sound mixed (by kernel_rfl) LoopsOk.noneT (sm_x a.b a.s a.m a.g) ?_
  cases hb : smallO a.b a.s with
  | true => exact wp_chk_true.2 (wp_br.2 ⟨fun e => (by cases e), fun _ => wp_chk_true.2 (wp_leaf.2 rfl)⟩)
  | false => exact wp_chk_true.2 (wp_br.2 ⟨fun _ => wp_chk_true.2 (wp_leaf.2 rfl), fun e => by cases e⟩)
theorem tta_ok : ∀ args h r, ((ctT it_read2 tta_f) args h).is r → LFn Pr 68 args h r.1 r.2 := by
  refine ctT_ok _ _ (fun _ _ _ => it_args) (fun a r h => ?_)
  have h := br_is h
  subst h
  refine fnT OU_sound mixed (by kernel_rfl) LoopsOk.noneT (tt_x a.b a.s a.m a.g) ?_
  cases hb : a.b with
  | true => exact wp_chk_true.2 (wp_br.2 ⟨fun _ => wp_chk_true.2 (wp_leaf.2 rfl), fun e => by cases e⟩)
  | false => exact wp_chk_true.2 (wp_br.2 ⟨fun e => (by cases e), fun _ => wp_chk_true.2 (wp_leaf.2 rfl)⟩)
theorem ima_ok : ∀ args h r, ((ctT it_read2 ima_f) args h).is r → LFn Pr 66 args h r.1 r.2 := by
  refine ctT_ok _ _ (fun _ _ _ => it_args) (fun a r h => ?_)
  have h := br_is h
  subst h
  refine fnT OU_sound mixed (by kernel_rfl) LoopsOk.noneT (im_x a.b a.s a.m a.g) ?_
  cases hb : a.b with
  | true => exact wp_chk_true.2 (wp_br.2 ⟨fun e => (by cases e), fun _ => wp_chk_true.2 (wp_leaf.2 rfl)⟩)
  | false => exact wp_chk_true.2 (wp_br.2 ⟨fun _ => wp_chk_true.2 (wp_leaf.2 rfl), fun e => by cases e⟩)
theorem wda_ok : ∀ args h r, ((ctT it_read2 wda_f) args h).is r → LFn Pr 69 args h r.1 r.2 := by
  refine ctT_ok _ _ (fun _ _ _ => it_args) (fun a r h => ?_)
  have h := br_is h
  subst h
  refine fnT OU_sound mixed (by kernel_rfl) LoopsOk.noneT (wd_x a.b a.s a.m a.g) ?_
  have no : ¬ (a.b = false ∧ a.s.length = 32) → (fun r : Fin × Heap => r = ((if wdB a.b a.s = true then (.ret (.agg [.u64 (wdW a.s).a, .u64 (wdW a.s).b, .u64 (wdW a.s).c, .u64 (wdW a.s).d]), []) else (.pan noneV, [])))) (.pan noneV, []) := by
    intro hn
    rw [if_neg (fun e => hn (wdB_iff.1 e))]
  refine wp_chk_true.2 (wp_br.2 ⟨fun e => wp_chk_true.2 (wp_leaf.2 (no ?_)), fun e => wp_chk_true.2 (wp_br.2 ⟨fun e2 => wp_chk_true.2 (wp_leaf.2 (no ?_)), fun e2 => wp_chk_true.2 (wp_leaf.2 ?_)⟩)⟩)
  · rintro ⟨h1, _⟩; rw [h1] at e; cases e
  · rintro ⟨_, h1⟩; rw [h1] at e2; cases e2
  · have h1 : a.b = false := by cases hb : a.b with | true => rw [hb] at e; cases e | false => rfl
    have h2 : a.s.length = 32 := by
      have : (!(((a.s.length : Nat) : Int) == (32 : Int))) = false := e2
      simp at this; omega
    rw [if_pos (wdB_iff.2 ⟨h1, h2⟩), wdW_eq]; rfl
def KD3 : KnownT := (17, ctT dc_read dc_f) :: (56, ctT tx_read rt_f) :: (66, ctT it_read2 ima_f) :: (67, ctT it_read2 sma_f) :: (68, ctT it_read2 tta_f) :: (69, ctT it_read2 wda_f) :: []
theorem KD3_ok : KOkT Pr KD3 := KOkT.cons (Enters.of (fn := Go.Proofs.Tryd.f17) (by kernel_rfl) (by kernel_rfl)) dc_ok (KOkT.cons (Enters.of (fn := Go.Proofs.Tryd.f56) (by kernel_rfl) (by kernel_rfl)) rt_ok (KOkT.cons (Enters.of (fn := Go.Proofs.Tryd.f66) (by kernel_rfl) (by kernel_rfl)) ima_ok (KOkT.cons (Enters.of (fn := Go.Proofs.Tryd.f67) (by kernel_rfl) (by kernel_rfl)) sma_ok (KOkT.cons (Enters.of (fn := Go.Proofs.Tryd.f68) (by kernel_rfl) (by kernel_rfl)) tta_ok (KOkT.cons (Enters.of (fn := Go.Proofs.Tryd.f69) (by kernel_rfl) (by kernel_rfl)) wda_ok KOkT.nil)))))
def OD3 : OrcT := autoT Pr ext KD3 [65] 3
theorem OD3_sound : OrcSound Pr OD3.o := autoT_sound mixed ext_ok KD3_ok (by kernel_rfl) 3
end
end Go.Proofs.YtbgiickegljpoaaDoor.K
end
section
open Go Go.Lh
namespace Go.Proofs.YtbgiickegljpoaaDoor.K
noncomputable section
set_option maxRecDepth 100000
def dB : Code := bodyOf Go.Proofs.Tryd.f52
def dE : X × Fr × Heap → Tr (Fin × Heap) := endD Pr OD3 noLoopsT 100 Go.Proofs.Tryd.f52 Go.Proofs.Tryd.f64 0 [.ptr 0 0, .ptr 1 0]
def CM.txA (c : CM) (ac : V) : List V := [.int .i64 c.tk, .str c.tf, .str c.tt, .u64 c.tn, .u64 c.tg, .u64 c.tp.a, .u64 c.tp.b, .u64 c.tp.c, .u64 c.tp.d, .u64 c.ti.a, .u64 c.ti.b, .u64 c.ti.c, .u64 c.ti.d, .u64 c.tv.a, .u64 c.tv.b, .u64 c.tv.c, .u64 c.tv.d, .str c.td, ac]
def z4 : W4 := W4.mk (BitVec.ofInt 64 0) (BitVec.ofInt 64 0) (BitVec.ofInt 64 0) (BitVec.ofInt 64 0)
def noT : List B := bytesOf (ByteArray.mk #[])
def noA : AW := ⟨fun _ => [], fun _ => 0, fun _ _ => W4.zero⟩
def CM0 (nm : List B) : CM := ⟨nm, noT, BitVec.ofInt 64 0, z4, z4, noT, 0, noT, noT, BitVec.ofInt 64 0, BitVec.ofInt 64 0, z4, z4, z4, noT, 0, noA⟩
def zt : List V := (CM0 noT).txA .nilSl
def nQ : Fin × Heap := (.ret (.tup [.agg zt, .bool false]), [])
def hdB (q : RW) : Bool := (!q.b 1 && true) && ((smallO (q.b 2) (q.s 2) && true) && ((wdB (q.b 3) (q.s 3) && true) && ((wdB (q.b 4) (q.s 4) && true) && ((smallO (q.b 5) (q.s 5) && true) && ((!q.b 6 && true) && ((wdB (q.b 7) (q.s 7) && true) && ((!q.b 8 && true) && true)))))))
def hdC (q : RW) (k : BitVec 64) : CM := { CM0 noT with tk := wrapI .i64 (k.toNat : Int), tf := q.s 1, tt := q.s 6, tn := smallN (q.b 2) (q.s 2), tg := smallN (q.b 5) (q.s 5), tp := wdW (q.s 3), ti := wdW (q.s 4), tv := wdW (q.s 7), td := q.s 8 }
def blkBody : Code → Code
  | .seq (.block _ c) _ => c
  | _ => .skip
def d1 : Code := blkBody (dropSeq 1 (Go.Lh.loopBody Go.Proofs.Tryd.f52 0))
theorem tdp_x (s : List B) : Tr.prune (Tr.Sh.any)
 (preD Pr OD3 noLoopsT (100 : Nat) (0 : Nat) Go.Proofs.Tryd.f52 [V.str s] []) =
 Tr.chk true
 (Tr.leaf
 (((64 : Nat), [V.ptr (0 : Nat) (0 : Nat), V.ptr (1 : Nat) (0 : Nat)]),
 [((0 : Nat), V.str s), ((2 : Nat), V.ptr (0 : Nat) (0 : Nat)), ((3 : Nat), V.ptr (1 : Nat) (0 : Nat)),
 ((14 : Nat), V.fn (64 : Nat) [] [V.ptr (0 : Nat) (0 : Nat), V.ptr (1 : Nat) (0 : Nat)])],
 [Blk.vals
 zt,
 Blk.vals [V.bool false]])) := by kernel_rfl
theorem td0_x (s : List B) : Tr.prune (((Tr.Sh.any.l.both Tr.Sh.any).both Tr.Sh.any.l).r.both
 (Tr.Sh.any.l.both Tr.Sh.any))
 (execBYF Pr OD3 noLoopsT (100 : Nat) (2 : Nat)
 (Tell.mk [(2 : Nat), (3 : Nat), (6 : Nat)] [(0 : Nat), (1 : Nat), (2 : Nat)] []) (Tell.mk [] [] []) dE
 (takeSeq (3 : Nat) (dropSeq (1 : Nat) dB))
 [((0 : Nat), V.str s), ((2 : Nat), V.ptr (0 : Nat) (0 : Nat)), ((3 : Nat), V.ptr (1 : Nat) (0 : Nat)),
 ((14 : Nat), V.fn (64 : FuncId) [] [V.ptr (0 : Nat) (0 : Nat), V.ptr (1 : Nat) (0 : Nat)])]
 [Blk.vals zt, Blk.vals [V.bool false]]) =
 Tr.chk true
 (Tr.br (dcO s)
 (Tr.chk true
 (Tr.br (dcI s).fI.b
 (Tr.chk true
 (Tr.br (!(↑(dcI s).fI.m : Int) == (10 : Int))
 (Tr.chk true
 (Tr.leaf
 (Sum.inl nQ)))
 (Tr.chk true
 (Tr.leaf
 (Sum.inr
 (X.normal,
 [((2 : Nat), V.ptr (0 : Nat) (0 : Nat)), ((3 : Nat), V.ptr (1 : Nat) (0 : Nat)),
 ((6 : Nat), V.isl (3 : Nat) (dcI s).fI.m (dcI s).fI.g)],
 [Blk.vals
 zt,
 Blk.vals [V.bool false],
 Blk.vals
 [V.bool (dcI s).fI.b, V.str (dcI s).fI.s, V.isl (3 : Nat) (dcI s).fI.m (dcI s).fI.g]]))))))
 (Tr.chk true
 (Tr.leaf
 (Sum.inl nQ)))))
 (Tr.chk true
 (Tr.br (!dcE s == (0 : Int))
 (Tr.chk true
 (Tr.leaf
 (Sum.inl nQ)))
 Tr.no))) := by kernel_rfl
theorem td1_x (q : RW) (ds : List V) : Tr.prune ((Tr.Sh.any.l.both Tr.Sh.any).both Tr.Sh.any.l)
 (execBYF Pr OD3 noLoopsT (100 : Nat) (2 : Nat)
 (Tell.mk [(2 : Nat), (3 : Nat), (6 : Nat), (7 : Nat)] [(0 : Nat), (1 : Nat), (2 : Nat)] [(2 : Nat)])
 (Tell.mk [] [] []) dE (takeSeq (1 : Nat) (dropSeq (5 : Nat) dB))
 [((2 : Nat), V.ptr (0 : Nat) (0 : Nat)), ((3 : Nat), V.ptr (1 : Nat) (0 : Nat)),
 ((6 : Nat), V.isl (3 : Nat) (10 : Nat) (rwF q))]
 [Blk.vals zt, Blk.vals [V.bool false], Blk.vals ds]) =
 Tr.chk true
 (Tr.br (smallO (q.b (0 : Nat)) (q.s (0 : Nat)))
 (Tr.chk true
 (Tr.br (!decide (smallN (q.b (0 : Nat)) (q.s (0 : Nat)) ≤ BitVec.ofInt (64 : Nat) (2 : Int)))
 (Tr.chk true
 (Tr.leaf
 (Sum.inl nQ)))
 (Tr.chk true
 (Tr.leaf
 (Sum.inr
 (X.normal,
 [((2 : Nat), V.ptr (0 : Nat) (0 : Nat)), ((3 : Nat), V.ptr (1 : Nat) (0 : Nat)),
 ((6 : Nat), V.isl (3 : Nat) (10 : Nat) (rwF q)),
 ((7 : Nat), V.u64 (smallN (q.b (0 : Nat)) (q.s (0 : Nat))))],
 [Blk.vals
 zt,
 Blk.vals [V.bool false], Blk.vals ds]))))))
 (Tr.chk true
 (Tr.leaf
 (Sum.inl nQ)))) := by kernel_rfl
theorem td2_x (q : RW) (k : BitVec 64) (ds : List V) : Tr.prune (Tr.Sh.any.both Tr.Sh.any.l)
 ((regQT Pr OD3 (119 : Nat) (headOps (dropSeq (7 : Nat) dB))
 [((2 : Nat), V.ptr (0 : Nat) (0 : Nat)), ((3 : Nat), V.ptr (1 : Nat) (0 : Nat)),
 ((6 : Nat), V.isl (3 : Nat) (10 : Nat) (rwF q)), ((7 : Nat), V.u64 k)]
 [Blk.vals zt, Blk.vals [V.bool false], Blk.vals ds]).bind
 (endF (2 : Nat) (Tell.mk [(2 : Nat), (3 : Nat), (6 : Nat)] [(0 : Nat), (1 : Nat), (2 : Nat)] [(2 : Nat)])
 (Tell.mk [] [] []) dE)) =
 Tr.chk true
 (Tr.br
 (hdB q)
 (Tr.chk true
 (Tr.leaf
 (Sum.inr
 (X.normal,
 [((2 : Nat), V.ptr (0 : Nat) (0 : Nat)), ((3 : Nat), V.ptr (1 : Nat) (0 : Nat)),
 ((6 : Nat), V.isl (3 : Nat) (10 : Nat) (rwF q))],
 [Blk.vals
 ((hdC q k).txA .nilSl),
 Blk.vals [V.bool false], Blk.vals ds]))))
 (Tr.chk true
 (Tr.leaf
 (Sum.inl nQ)))) := by kernel_rfl
theorem td3_x (c : CM) (q : RW) (ds : List V) : Tr.prune (Tr.Sh.any.both Tr.Sh.any.l)
 (execBYF Pr OD3 noLoopsT (100 : Nat) (2 : Nat)
 (Tell.mk [(2 : Nat), (3 : Nat), (74 : Nat), (75 : Nat), (76 : Nat)] [(0 : Nat), (1 : Nat), (2 : Nat)] [(2 : Nat)])
 (Tell.mk [] [] []) dE (takeSeq (0 : Nat) (takeSeq (0 : Nat) (dropSeq (8 : Nat) dB)))
 [((2 : Nat), V.ptr (0 : Nat) (0 : Nat)), ((3 : Nat), V.ptr (1 : Nat) (0 : Nat)),
 ((6 : Nat), V.isl (3 : Nat) (10 : Nat) (rwF q))]
 [Blk.vals (c.txA V.nilSl), Blk.vals [V.bool false], Blk.vals ds]) =
 Tr.chk true
 (Tr.br (q.b (9 : Nat))
 (Tr.chk true
 (Tr.leaf
 (Sum.inr
 (X.normal,
 [((2 : Nat), V.ptr (0 : Nat) (0 : Nat)), ((3 : Nat), V.ptr (1 : Nat) (0 : Nat)),
 ((74 : Nat), V.isl (3 : Nat) (q.m (9 : Nat)) (q.g (9 : Nat))),
 ((75 : Nat), V.int IntKind.i64 (↑(q.m (9 : Nat)) : Int)), ((76 : Nat), V.int IntKind.i64 (0 : Int))],
 [Blk.vals
 (c.txA (V.nilSl)),
 Blk.vals [V.bool false], Blk.vals ds]))))
 (Tr.chk true
 (Tr.leaf
 (Sum.inl nQ)))) := by kernel_rfl
theorem td4_v (ac : V) (hac : ac = .nilSl ∨ ∃ n, ac = .sl 2 0 2 n none) (c : CM) (r : RW) (n : Nat) (i : Nat) (ds : List V) : Tr.prune (Tr.Sh.any.both Tr.Sh.any)
 (execBYF Pr OD3 noLoopsT (100 : Nat) (2 : Nat)
 (Tell.mk [(2 : Nat), (3 : Nat), (74 : Nat), (75 : Nat), (76 : Nat)] [(0 : Nat), (1 : Nat), (2 : Nat)] [(2 : Nat)])
 (Tell.mk [(2 : Nat), (3 : Nat)] [(0 : Nat), (1 : Nat), (2 : Nat)] [(2 : Nat)]) dE
 (takeSeq (1 : Nat) (loopBody Go.Proofs.Tryd.f52 (0 : Nat)))
 [((2 : Nat), V.ptr (0 : Nat) (0 : Nat)), ((3 : Nat), V.ptr (1 : Nat) (0 : Nat)),
 ((74 : Nat), V.isl (3 : Nat) n (rwF r)), ((75 : Nat), V.int IntKind.i64 (↑n : Int)),
 ((76 : Nat), V.int IntKind.i64 (↑i : Int))]
 [Blk.vals (c.txA (ac)), Blk.vals [V.bool false], Blk.vals ds]) =
 Tr.chk true
 (Tr.br (decide ((↑i : Int) < (↑n : Int)))
 (Tr.leaf
 (Sum.inr
 (X.normal,
 [((2 : Nat), V.ptr (0 : Nat) (0 : Nat)), ((3 : Nat), V.ptr (1 : Nat) (0 : Nat)),
 ((74 : Nat), V.isl (3 : Nat) n (rwF r)), ((75 : Nat), V.int IntKind.i64 (↑n : Int)),
 ((76 : Nat), V.int IntKind.i64 (↑i : Int))],
 [Blk.vals
 (c.txA (ac)),
 Blk.vals [V.bool false], Blk.vals ds])))
 (Tr.leaf
 (Sum.inr
 (X.exit (0 : Nat), [((2 : Nat), V.ptr (0 : Nat) (0 : Nat)), ((3 : Nat), V.ptr (1 : Nat) (0 : Nat))],
 [Blk.vals
 (c.txA (ac)),
 Blk.vals [V.bool false], Blk.vals ds])))) := by rcases hac with rfl | ⟨n, rfl⟩ <;> kernel_rfl
theorem td5_v (ac : V) (hac : ac = .nilSl ∨ ∃ n, ac = .sl 2 0 2 n none) (c : CM) (r : RW) (n : Nat) (i : Nat) (ds : List V) : Tr.prune (Tr.Sh.any.both Tr.Sh.any.l)
 (execBYF Pr OD3 noLoopsT (100 : Nat) (2 : Nat)
 (Tell.mk [(2 : Nat), (3 : Nat), (10 : Nat), (74 : Nat), (75 : Nat), (76 : Nat)] [(0 : Nat), (1 : Nat), (2 : Nat)]
 [(2 : Nat)])
 (Tell.mk [] [] []) dE (takeSeq (1 : Nat) d1)
 [((2 : Nat), V.ptr (0 : Nat) (0 : Nat)), ((3 : Nat), V.ptr (1 : Nat) (0 : Nat)),
 ((74 : Nat), V.isl (3 : Nat) n (rwF r)), ((75 : Nat), V.int IntKind.i64 (↑n : Int)),
 ((76 : Nat), V.int IntKind.i64 (↑i : Int))]
 [Blk.vals (c.txA (ac)), Blk.vals [V.bool false], Blk.vals ds]) =
 Tr.chk (decide ((↑i : Int) < (↑n : Int)) && (decide (i < n) && true && true) && true)
 (Tr.br (r.b i)
 (Tr.chk true
 (Tr.leaf
 (Sum.inr
 (X.normal,
 [((2 : Nat), V.ptr (0 : Nat) (0 : Nat)), ((3 : Nat), V.ptr (1 : Nat) (0 : Nat)),
 ((10 : Nat), V.isl (3 : Nat) (r.m i) (r.g i)), ((74 : Nat), V.isl (3 : Nat) n (rwF r)),
 ((75 : Nat), V.int IntKind.i64 (↑n : Int)), ((76 : Nat), V.int IntKind.i64 (↑i : Int))],
 [Blk.vals
 (c.txA (ac)),
 Blk.vals [V.bool false], Blk.vals ds]))))
 (Tr.chk true
 (Tr.leaf
 (Sum.inl nQ)))) := by rcases hac with rfl | ⟨n, rfl⟩ <;> kernel_rfl
theorem td6_v (ac : V) (hac : ac = .nilSl ∨ ∃ n, ac = .sl 2 0 2 n none) (c : CM) (r : RW) (n : Nat) (i : Nat) (m : Nat) (g : Nat → Nat → V) (ds : List V) : Tr.prune (Tr.Sh.any.l.both
 Tr.Sh.any)
 (execBYF Pr OD3 noLoopsT (100 : Nat) (2 : Nat)
 (Tell.mk [(2 : Nat), (3 : Nat), (10 : Nat), (74 : Nat), (75 : Nat), (76 : Nat)] [(0 : Nat), (1 : Nat), (2 : Nat)]
 [(2 : Nat)])
 (Tell.mk [] [] []) dE (takeSeq (0 : Nat) (dropSeq (1 : Nat) d1))
 [((2 : Nat), V.ptr (0 : Nat) (0 : Nat)), ((3 : Nat), V.ptr (1 : Nat) (0 : Nat)), ((10 : Nat), V.isl (3 : Nat) m g),
 ((74 : Nat), V.isl (3 : Nat) n (rwF r)), ((75 : Nat), V.int IntKind.i64 (↑n : Int)),
 ((76 : Nat), V.int IntKind.i64 (↑i : Int))]
 [Blk.vals (c.txA (ac)), Blk.vals [V.bool false], Blk.vals ds]) =
 Tr.chk true
 (Tr.br (!(↑m : Int) == (2 : Int))
 (Tr.chk true
 (Tr.leaf
 (Sum.inl nQ)))
 (Tr.chk true
 (Tr.leaf
 (Sum.inr
 (X.normal,
 [((2 : Nat), V.ptr (0 : Nat) (0 : Nat)), ((3 : Nat), V.ptr (1 : Nat) (0 : Nat)),
 ((10 : Nat), V.isl (3 : Nat) m g), ((74 : Nat), V.isl (3 : Nat) n (rwF r)),
 ((75 : Nat), V.int IntKind.i64 (↑n : Int)), ((76 : Nat), V.int IntKind.i64 (↑i : Int))],
 [Blk.vals
 (c.txA (ac)),
 Blk.vals [V.bool false], Blk.vals ds]))))) := by rcases hac with rfl | ⟨n, rfl⟩ <;> kernel_rfl
theorem td7_v (ac : V) (hac : ac = .nilSl ∨ ∃ n, ac = .sl 2 0 2 n none) (c : CM) (r : RW) (x : RW) (n : Nat) (i : Nat) (ds : List V) : Tr.prune (Tr.Sh.any.both Tr.Sh.any.l)
 (execBYF Pr OD3 noLoopsT (100 : Nat) (2 : Nat)
 (Tell.mk [(2 : Nat), (3 : Nat), (10 : Nat), (11 : Nat), (74 : Nat), (75 : Nat), (76 : Nat)]
 [(0 : Nat), (1 : Nat), (2 : Nat), (3 : Nat)] [(2 : Nat)])
 (Tell.mk [] [] []) dE (takeSeq (0 : Nat) (dropSeq (2 : Nat) d1))
 [((2 : Nat), V.ptr (0 : Nat) (0 : Nat)), ((3 : Nat), V.ptr (1 : Nat) (0 : Nat)),
 ((10 : Nat), V.isl (3 : Nat) (2 : Nat) (rwF x)), ((74 : Nat), V.isl (3 : Nat) n (rwF r)),
 ((75 : Nat), V.int IntKind.i64 (↑n : Int)), ((76 : Nat), V.int IntKind.i64 (↑i : Int))]
 [Blk.vals (c.txA (ac)), Blk.vals [V.bool false], Blk.vals ds]) =
 Tr.chk true
 (Tr.br (!x.b (0 : Nat))
 (Tr.chk true
 (Tr.leaf
 (Sum.inr
 (X.normal,
 [((2 : Nat), V.ptr (0 : Nat) (0 : Nat)), ((3 : Nat), V.ptr (1 : Nat) (0 : Nat)),
 ((10 : Nat), V.isl (3 : Nat) (2 : Nat) (rwF x)), ((11 : Nat), V.ptr (3 : Nat) (0 : Nat)),
 ((74 : Nat), V.isl (3 : Nat) n (rwF r)), ((75 : Nat), V.int IntKind.i64 (↑n : Int)),
 ((76 : Nat), V.int IntKind.i64 (↑i : Int))],
 [Blk.vals
 (c.txA (ac)),
 Blk.vals [V.bool false], Blk.vals ds, Blk.vals [V.str (x.s (0 : Nat)), V.nilSl]]))))
 (Tr.chk true
 (Tr.leaf
 (Sum.inl nQ)))) := by rcases hac with rfl | ⟨n, rfl⟩ <;> kernel_rfl
theorem td8_v (ac : V) (hac : ac = .nilSl ∨ ∃ n, ac = .sl 2 0 2 n none) (c : CM) (r : RW) (x : RW) (n : Nat) (i : Nat) (a : List B) (ds : List V) : Tr.prune (Tr.Sh.any.both
 Tr.Sh.any.l)
 (execBYF Pr OD3 noLoopsT (100 : Nat) (2 : Nat)
 (Tell.mk [(2 : Nat), (3 : Nat), (11 : Nat), (74 : Nat), (75 : Nat), (76 : Nat), (94 : Nat), (95 : Nat), (96 : Nat)]
 [(0 : Nat), (1 : Nat), (2 : Nat), (3 : Nat)] [(2 : Nat)])
 (Tell.mk [] [] []) dE (takeSeq (0 : Nat) (takeSeq (0 : Nat) (dropSeq (3 : Nat) d1)))
 [((2 : Nat), V.ptr (0 : Nat) (0 : Nat)), ((3 : Nat), V.ptr (1 : Nat) (0 : Nat)),
 ((10 : Nat), V.isl (3 : Nat) (2 : Nat) (rwF x)), ((11 : Nat), V.ptr (3 : Nat) (0 : Nat)),
 ((74 : Nat), V.isl (3 : Nat) n (rwF r)), ((75 : Nat), V.int IntKind.i64 (↑n : Int)),
 ((76 : Nat), V.int IntKind.i64 (↑i : Int))]
 [Blk.vals (c.txA (ac)), Blk.vals [V.bool false], Blk.vals ds,
 Blk.vals [V.str a, V.nilSl]]) =
 Tr.chk true
 (Tr.br (x.b (1 : Nat))
 (Tr.chk true
 (Tr.leaf
 (Sum.inr
 (X.normal,
 [((2 : Nat), V.ptr (0 : Nat) (0 : Nat)), ((3 : Nat), V.ptr (1 : Nat) (0 : Nat)),
 ((11 : Nat), V.ptr (3 : Nat) (0 : Nat)), ((74 : Nat), V.isl (3 : Nat) n (rwF r)),
 ((75 : Nat), V.int IntKind.i64 (↑n : Int)), ((76 : Nat), V.int IntKind.i64 (↑i : Int)),
 ((94 : Nat), V.isl (3 : Nat) (x.m (1 : Nat)) (x.g (1 : Nat))),
 ((95 : Nat), V.int IntKind.i64 (↑(x.m (1 : Nat)) : Int)), ((96 : Nat), V.int IntKind.i64 (0 : Int))],
 [Blk.vals
 (c.txA (ac)),
 Blk.vals [V.bool false], Blk.vals ds, Blk.vals [V.str a, V.nilSl]]))))
 (Tr.chk true
 (Tr.leaf
 (Sum.inl nQ)))) := by rcases hac with rfl | ⟨n, rfl⟩ <;> kernel_rfl
theorem td9_v (ac : V) (hac : ac = .nilSl ∨ ∃ n, ac = .sl 2 0 2 n none) (c : CM) (r : RW) (z : RW) (n : Nat) (i : Nat) (m : Nat) (a : List B) (ds : List V) : Tr.prune ((Tr.Sh.any.both
 Tr.Sh.any.l).both
 Tr.Sh.any)
 (execBYF Pr OD3 noLoopsT (100 : Nat) (2 : Nat)
 (Tell.mk [(2 : Nat), (3 : Nat), (11 : Nat), (74 : Nat), (75 : Nat), (76 : Nat), (94 : Nat), (95 : Nat), (96 : Nat)]
 [(0 : Nat), (1 : Nat), (2 : Nat), (3 : Nat), (6 : Nat)] [(2 : Nat), (6 : Nat)])
 (Tell.mk [(2 : Nat), (3 : Nat), (11 : Nat), (74 : Nat), (75 : Nat), (76 : Nat)]
 [(0 : Nat), (1 : Nat), (2 : Nat), (3 : Nat)] [(2 : Nat)])
 dE (loopBody Go.Proofs.Tryd.f52 (1 : Nat))
 [((2 : Nat), V.ptr (0 : Nat) (0 : Nat)), ((3 : Nat), V.ptr (1 : Nat) (0 : Nat)),
 ((11 : Nat), V.ptr (3 : Nat) (0 : Nat)), ((74 : Nat), V.isl (3 : Nat) n (rwF r)),
 ((75 : Nat), V.int IntKind.i64 (↑n : Int)), ((76 : Nat), V.int IntKind.i64 (↑i : Int)),
 ((94 : Nat), V.isl (3 : Nat) m (rwF z)), ((95 : Nat), V.int IntKind.i64 (↑m : Int)),
 ((96 : Nat), V.int IntKind.i64 (0 : Int))]
 [Blk.vals (c.txA (ac)), Blk.vals [V.bool false], Blk.vals ds,
 Blk.vals [V.str a, V.nilSl]]) =
 Tr.chk true
 (Tr.br (decide ((0 : Int) < (↑m : Int)))
 (Tr.chk (decide ((0 : Int) < (↑m : Int)) && (decide ((0 : Nat) < m) && true && true) && true)
 (Tr.br (wdB (z.b (0 : Nat)) (z.s (0 : Nat)))
 (Tr.chk true
 (Tr.leaf
 (Sum.inr
 (X.normal,
 [((2 : Nat), V.ptr (0 : Nat) (0 : Nat)), ((3 : Nat), V.ptr (1 : Nat) (0 : Nat)),
 ((11 : Nat), V.ptr (3 : Nat) (0 : Nat)), ((74 : Nat), V.isl (3 : Nat) n (rwF r)),
 ((75 : Nat), V.int IntKind.i64 (↑n : Int)), ((76 : Nat), V.int IntKind.i64 (↑i : Int)),
 ((94 : Nat), V.isl (3 : Nat) m (rwF z)), ((95 : Nat), V.int IntKind.i64 (↑m : Int)),
 ((96 : Nat), V.int IntKind.i64 (1 : Int))],
 [Blk.vals
 (c.txA (ac)),
 Blk.vals [V.bool false], Blk.vals ds,
 Blk.vals [V.str a, V.sl (4 : Nat) (0 : Nat) (4 : Nat) (1 : Nat) none],
 Blk.b64
 [(wdW (z.s (0 : Nat))).a, (wdW (z.s (0 : Nat))).b, (wdW (z.s (0 : Nat))).c,
 (wdW (z.s (0 : Nat))).d]]))))
 (Tr.chk true
 (Tr.leaf
 (Sum.inl nQ)))))
 (Tr.leaf
 (Sum.inr
 (X.exit (2 : Nat),
 [((2 : Nat), V.ptr (0 : Nat) (0 : Nat)), ((3 : Nat), V.ptr (1 : Nat) (0 : Nat)),
 ((11 : Nat), V.ptr (3 : Nat) (0 : Nat)), ((74 : Nat), V.isl (3 : Nat) n (rwF r)),
 ((75 : Nat), V.int IntKind.i64 (↑n : Int)), ((76 : Nat), V.int IntKind.i64 (↑i : Int))],
 [Blk.vals
 (c.txA (ac)),
 Blk.vals [V.bool false], Blk.vals ds, Blk.vals [V.str a, V.nilSl]])))) := by rcases hac with rfl | ⟨n, rfl⟩ <;> kernel_rfl
theorem tda_v (ac : V) (hac : ac = .nilSl ∨ ∃ n, ac = .sl 2 0 2 n none) (c : CM) (r : RW) (z : RW) (n : Nat) (i : Nat) (m : Nat) (k : Nat) (a : List B) (ds : List V) (c0 : BitVec 64) (cs : List (BitVec 64)) : Tr.prune ((Tr.Sh.any.both
 Tr.Sh.any.l).both
 Tr.Sh.any)
 (execBYF Pr OD3 noLoopsT (100 : Nat) (2 : Nat)
 (Tell.mk [(2 : Nat), (3 : Nat), (11 : Nat), (74 : Nat), (75 : Nat), (76 : Nat), (94 : Nat), (95 : Nat), (96 : Nat)]
 [(0 : Nat), (1 : Nat), (2 : Nat), (3 : Nat), (7 : Nat)] [(2 : Nat), (7 : Nat)])
 (Tell.mk [(2 : Nat), (3 : Nat), (11 : Nat), (74 : Nat), (75 : Nat), (76 : Nat)]
 [(0 : Nat), (1 : Nat), (2 : Nat), (3 : Nat), (4 : Nat)] [(2 : Nat), (4 : Nat)])
 dE (loopBody Go.Proofs.Tryd.f52 (1 : Nat))
 [((2 : Nat), V.ptr (0 : Nat) (0 : Nat)), ((3 : Nat), V.ptr (1 : Nat) (0 : Nat)),
 ((11 : Nat), V.ptr (3 : Nat) (0 : Nat)), ((74 : Nat), V.isl (3 : Nat) n (rwF r)),
 ((75 : Nat), V.int IntKind.i64 (↑n : Int)), ((76 : Nat), V.int IntKind.i64 (↑i : Int)),
 ((94 : Nat), V.isl (3 : Nat) m (rwF z)), ((95 : Nat), V.int IntKind.i64 (↑m : Int)),
 ((96 : Nat), V.int IntKind.i64 (↑(k + (1 : Nat)) : Int))]
 [Blk.vals (c.txA (ac)), Blk.vals [V.bool false], Blk.vals ds,
 Blk.vals [V.str a, V.sl (4 : Nat) (0 : Nat) (4 : Nat) (k + (1 : Nat)) none], Blk.b64 (c0 :: cs)]) =
 Tr.chk true
 (Tr.br (decide ((↑(k + (1 : Nat)) : Int) < (↑m : Int)))
 (Tr.chk (decide ((↑(k + (1 : Nat)) : Int) < (↑m : Int)) && (decide (k + (1 : Nat) < m) && true && true) && true)
 (Tr.br (wdB (z.b (k + (1 : Nat))) (z.s (k + (1 : Nat))))
 (Tr.chk
 (decide ((0 : Nat) + (k + (1 : Nat)) * (4 : Nat) ≤ (c0 :: cs).length) &&
 (decide (k + (1 : Nat) + (1 : Nat) ≤ (281474976710656 : Nat)) &&
 decide
 (((2 : Nat) * (k + (1 : Nat) + (1 : Nat)) + (1024 : Nat)) * (32 : Nat) ≤
 (281474976710656 : Nat)) &&
 true) &&
 true &&
 true &&
 true)
 (Tr.leaf
 (Sum.inr
 (X.normal,
 [((2 : Nat), V.ptr (0 : Nat) (0 : Nat)), ((3 : Nat), V.ptr (1 : Nat) (0 : Nat)),
 ((11 : Nat), V.ptr (3 : Nat) (0 : Nat)), ((74 : Nat), V.isl (3 : Nat) n (rwF r)),
 ((75 : Nat), V.int IntKind.i64 (↑n : Int)), ((76 : Nat), V.int IntKind.i64 (↑i : Int)),
 ((94 : Nat), V.isl (3 : Nat) m (rwF z)), ((95 : Nat), V.int IntKind.i64 (↑m : Int)),
 ((96 : Nat), V.int IntKind.i64 (wrapI IntKind.i64 ((↑(k + (1 : Nat)) : Int) + (1 : Int))))],
 [Blk.vals
 (c.txA (ac)),
 Blk.vals [V.bool false], Blk.vals ds,
 Blk.vals [V.str a, V.sl (4 : Nat) (0 : Nat) (4 : Nat) (k + (1 : Nat) + (1 : Nat)) none],
 Blk.b64
 (List.take ((k + (1 : Nat)) * (4 : Nat)) (c0 :: cs) ++
 [(wdW (z.s (k + (1 : Nat)))).a, (wdW (z.s (k + (1 : Nat)))).b, (wdW (z.s (k + (1 : Nat)))).c,
 (wdW (z.s (k + (1 : Nat)))).d])]))))
 (Tr.chk true
 (Tr.leaf
 (Sum.inl nQ)))))
 (Tr.leaf
 (Sum.inr
 (X.exit (2 : Nat),
 [((2 : Nat), V.ptr (0 : Nat) (0 : Nat)), ((3 : Nat), V.ptr (1 : Nat) (0 : Nat)),
 ((11 : Nat), V.ptr (3 : Nat) (0 : Nat)), ((74 : Nat), V.isl (3 : Nat) n (rwF r)),
 ((75 : Nat), V.int IntKind.i64 (↑n : Int)), ((76 : Nat), V.int IntKind.i64 (↑i : Int))],
 [Blk.vals
 (c.txA (ac)),
 Blk.vals [V.bool false], Blk.vals ds,
 Blk.vals [V.str a, V.sl (4 : Nat) (0 : Nat) (4 : Nat) (k + (1 : Nat)) none],
 Blk.b64 (c0 :: cs)])))) := by rcases hac with rfl | ⟨n, rfl⟩ <;> kernel_rfl
theorem tdb_x (c : CM) (r : RW) (n : Nat) (i : Nat) (m : Nat) (w : Nat → W4) (a : List B) (ds : List V) : Tr.prune (Tr.Sh.any)
 (execBYF Pr OD3 noLoopsT (100 : Nat) (2 : Nat)
 (Tell.mk [(2 : Nat), (3 : Nat), (74 : Nat), (75 : Nat), (76 : Nat)] [(0 : Nat), (1 : Nat), (6 : Nat)] [(6 : Nat)])
 (Tell.mk [] [] []) dE (dropSeq (4 : Nat) d1)
 [((2 : Nat), V.ptr (0 : Nat) (0 : Nat)), ((3 : Nat), V.ptr (1 : Nat) (0 : Nat)),
 ((11 : Nat), V.ptr (3 : Nat) (0 : Nat)), ((74 : Nat), V.isl (3 : Nat) n (rwF r)),
 ((75 : Nat), V.int IntKind.i64 (↑n : Int)), ((76 : Nat), V.int IntKind.i64 (↑i : Int))]
 [Blk.vals (c.txA V.nilSl), Blk.vals [V.bool false], Blk.vals ds, Blk.vals [V.str a, V.isl (4 : Nat) m (wF w)],
 Blk.dead]) =
 Tr.chk true
 (Tr.leaf
 (Sum.inr
 (X.normal,
 [((2 : Nat), V.ptr (0 : Nat) (0 : Nat)), ((3 : Nat), V.ptr (1 : Nat) (0 : Nat)),
 ((74 : Nat), V.isl (3 : Nat) n (rwF r)), ((75 : Nat), V.int IntKind.i64 (↑n : Int)),
 ((76 : Nat), V.int IntKind.i64 (↑i : Int))],
 [Blk.vals
 (c.txA (V.sl (2 : Nat) (0 : Nat) (2 : Nat) (1 : Nat) none)),
 Blk.vals [V.bool false], Blk.vals [V.str a, V.isl (4 : Nat) m (wF w)]]))) := by kernel_rfl
theorem tdc_x (c : CM) (r : RW) (n : Nat) (i : Nat) (m : Nat) (k : Nat) (w : Nat → W4) (a : List B) (c0 : V) (cs : List V) : Tr.prune (Tr.Sh.any)
 (execBYF Pr OD3 noLoopsT (100 : Nat) (2 : Nat)
 (Tell.mk [(2 : Nat), (3 : Nat), (74 : Nat), (75 : Nat), (76 : Nat)] [(0 : Nat), (1 : Nat), (6 : Nat)] [(6 : Nat)])
 (Tell.mk [] [] []) dE (dropSeq (4 : Nat) d1)
 [((2 : Nat), V.ptr (0 : Nat) (0 : Nat)), ((3 : Nat), V.ptr (1 : Nat) (0 : Nat)),
 ((11 : Nat), V.ptr (3 : Nat) (0 : Nat)), ((74 : Nat), V.isl (3 : Nat) n (rwF r)),
 ((75 : Nat), V.int IntKind.i64 (↑n : Int)), ((76 : Nat), V.int IntKind.i64 (↑i : Int))]
 [Blk.vals (c.txA (V.sl (2 : Nat) (0 : Nat) (2 : Nat) (k + (1 : Nat)) none)), Blk.vals [V.bool false],
 Blk.vals (c0 :: cs), Blk.vals [V.str a, V.isl (4 : Nat) m (wF w)], Blk.dead]) =
 Tr.chk
 (decide ((0 : Nat) + (k + (1 : Nat)) * (2 : Nat) ≤ (c0 :: cs).length) &&
 (decide (k + (1 : Nat) + (1 : Nat) ≤ (281474976710656 : Nat)) &&
 decide (((2 : Nat) * (k + (1 : Nat) + (1 : Nat)) + (1024 : Nat)) * (40 : Nat) ≤ (281474976710656 : Nat)) &&
 true) &&
 (List.take (2 : Nat)
 (setCells (List.replicate (1 : Nat) [V.str (bytesOf (ByteArray.mk #[])), V.nilSl]).flatten (0 : Nat)
 ((Blk.vals [V.str a, V.isl (4 : Nat) m (wF w)]).atN (0 : Nat) (2 : Nat)))).all
 V.one &&
 true)
 (Tr.leaf
 (Sum.inr
 (X.normal,
 [((2 : Nat), V.ptr (0 : Nat) (0 : Nat)), ((3 : Nat), V.ptr (1 : Nat) (0 : Nat)),
 ((74 : Nat), V.isl (3 : Nat) n (rwF r)), ((75 : Nat), V.int IntKind.i64 (↑n : Int)),
 ((76 : Nat), V.int IntKind.i64 (↑i : Int))],
 [Blk.vals
 (c.txA (V.sl (2 : Nat) (0 : Nat) (2 : Nat) (k + (1 : Nat) + (1 : Nat)) none)),
 Blk.vals [V.bool false],
 Blk.vals
 (List.take ((k + 1) * 2) (c0 :: cs) ++ [.str a, .isl 4 m (wF w)])]))) := by kernel_rfl
theorem tdd_v (ac : V) (hac : ac = .nilSl ∨ ∃ n, ac = .sl 2 0 2 n none) (c : CM) (r : RW) (n : Nat) (i : Nat) (ds : List V) : Tr.prune (Tr.Sh.any)
 (execBYF Pr OD3 noLoopsT (100 : Nat) (2 : Nat)
 (Tell.mk [(2 : Nat), (3 : Nat), (74 : Nat), (75 : Nat), (76 : Nat)] [(0 : Nat), (1 : Nat), (2 : Nat)] [(2 : Nat)])
 (Tell.mk [] [] []) dE (dropSeq (2 : Nat) (loopBody Go.Proofs.Tryd.f52 (0 : Nat)))
 [((2 : Nat), V.ptr (0 : Nat) (0 : Nat)), ((3 : Nat), V.ptr (1 : Nat) (0 : Nat)),
 ((74 : Nat), V.isl (3 : Nat) n (rwF r)), ((75 : Nat), V.int IntKind.i64 (↑n : Int)),
 ((76 : Nat), V.int IntKind.i64 (↑i : Int))]
 [Blk.vals (c.txA (ac)), Blk.vals [V.bool false], Blk.vals ds]) =
 Tr.chk true
 (Tr.leaf
 (Sum.inr
 (X.normal,
 [((2 : Nat), V.ptr (0 : Nat) (0 : Nat)), ((3 : Nat), V.ptr (1 : Nat) (0 : Nat)),
 ((74 : Nat), V.isl (3 : Nat) n (rwF r)), ((75 : Nat), V.int IntKind.i64 (↑n : Int)),
 ((76 : Nat), V.int IntKind.i64 (wrapI IntKind.i64 ((↑i : Int) + (1 : Int))))],
 [Blk.vals
 (c.txA (ac)),
 Blk.vals [V.bool false], Blk.vals ds]))) := by rcases hac with rfl | ⟨n, rfl⟩ <;> kernel_rfl
theorem tde_x (c : CM) : Tr.prune (Tr.Sh.any.l.both Tr.Sh.any.r)
 (execBYF Pr OD3 noLoopsT (100 : Nat) (2 : Nat) (Tell.mk [] [(0 : Nat), (1 : Nat)] []) (Tell.mk [] [] []) dE
 (dropSeq (9 : Nat) dB) [((2 : Nat), V.ptr (0 : Nat) (0 : Nat)), ((3 : Nat), V.ptr (1 : Nat) (0 : Nat))]
 [Blk.vals c.tx, Blk.vals [V.bool false], Blk.dead]) =
 Tr.chk (txB0 (cmT c.tk c.tf c.tt c.tn c.tg c.tp c.ti c.tv c.td c.an (rda (aF c.af)), aF c.af) && true)
 (Tr.br (!rgtB (cmT c.tk c.tf c.tt c.tn c.tg c.tp c.ti c.tv c.td c.an (rda (aF c.af))))
 (Tr.chk true
 (Tr.leaf
 (Sum.inl nQ)))
 (Tr.chk true
 (Tr.leaf
 (Sum.inl
 (Fin.ret
 (V.tup
 [V.agg
 c.tx,
 V.bool true]),
 []))))) := by kernel_rfl
end
end Go.Proofs.YtbgiickegljpoaaDoor.K
end
section
open Go Go.Lh
namespace Go.Proofs.YtbgiickegljpoaaDoor.K
noncomputable section
set_option maxRecDepth 100000
theorem rI_b (l : List It) (i : Nat) (hi : i < l.length) : (It.rI l).b i = l[i].fI.b ∧ (It.rI l).s i = l[i].fI.s ∧ (It.rI l).m i = l[i].fI.m ∧ (It.rI l).g i = l[i].fI.g := by
  have h := rI_at l i hi
  unfold RW.at itV at h
  injection h with h
  injection h with a1 h
  injection h with a2 h
  injection h with a3 _
  injection a1 with a1
  injection a2 with a2
  injection a3 with _ a3 a4
  exact ⟨a1, a2, a3, a4⟩
theorem fI_lst {x : It} (h : x.fI.b = true) : ∃ l, x = .lst l := by
  cases x with
  | txt s => rw [It.fI] at h; cases h
  | lst l => exact ⟨l, rfl⟩
theorem fI_of (l : List It) : (It.lst l).fI = ⟨true, [], l.length, rwF (It.rI l)⟩ := by rw [It.fI]
theorem rI_lst {l : List It} {i : Nat} (hi : i < l.length) (h : (It.rI l).b i = true) : ∃ l2, l[i] = .lst l2 ∧ (It.rI l).m i = l2.length ∧ (It.rI l).g i = rwF (It.rI l2) := by
  obtain ⟨h1, h2, h3, h4⟩ := rI_b l i hi
  rw [h1] at h
  obtain ⟨l2, e⟩ := fI_lst h
  rw [e, fI_of] at h3 h4
  exact ⟨l2, e, h3, h4⟩
def acX (r : RW) (i : Nat) : RW := rdW (r.g i)
def acZ (r : RW) (i : Nat) : RW := rdW ((acX r i).g 1)
def acOk (r : RW) (i : Nat) : Prop := r.b i = true ∧ r.m i = 2 ∧ (acX r i).b 0 = false ∧ (acX r i).b 1 = true ∧ ∀ k, k < (acX r i).m 1 → wdB ((acZ r i).b k) ((acZ r i).s k) = true
def acAW (r : RW) : AW := ⟨fun i => (acX r i).s 0, fun i => (acX r i).m 1, fun i k => wdW ((acZ r i).s k)⟩
def txQ (q : RW) : CM := { hdC q (smallN (q.b 0) (q.s 0)) with an := q.m 9, af := acAW (rdW (q.g 9)) }
def dOk (q : RW) : Prop := (smallO (q.b 0) (q.s 0) = true ∧ smallN (q.b 0) (q.s 0) ≤ BitVec.ofInt 64 2) ∧ hdB q = true ∧ q.b 9 = true ∧ (∀ i, i < q.m 9 → acOk (rdW (q.g 9)) i) ∧ rgtP (txQ q)
def txD (s : List B) : Option CM := match decF s with
  | some (.lst l) => @ite _ (l.length = 10 ∧ dOk (It.rI l)) (Classical.propDecidable _) (some (txQ (It.rI l))) none
  | _ => none
def tdV : Option CM → Fin
  | some c => .ret (.tup [.agg c.tx, .bool true])
  | none => nQ.1
def wWs (z : RW) : Nat → List (BitVec 64)
  | 0 => []
  | k + 1 => wWs z k ++ [(wdW (z.s k)).a, (wdW (z.s k)).b, (wdW (z.s k)).c, (wdW (z.s k)).d]
theorem wWs_len (z : RW) : ∀ k, (wWs z k).length = k * 4
  | 0 => rfl
  | k + 1 => by rw [wWs, List.length_append, wWs_len z k, Nat.succ_mul]; rfl
theorem wWs_at (z : RW) : ∀ (n i j : Nat), i < n → j < 4 → (wWs z n)[i * 4 + j]? = [(wdW (z.s i)).a, (wdW (z.s i)).b, (wdW (z.s i)).c, (wdW (z.s i)).d][j]?
  | n + 1, i, j, hi, hj => by
    rw [wWs]
    rcases Nat.lt_or_ge i n with h | h
    · rw [List.getElem?_append_left (by rw [wWs_len]; omega)]
      exact wWs_at z n i j h hj
    · have : i = n := by omega
      subst this
      rw [List.getElem?_append_right (by rw [wWs_len]; omega), wWs_len, Nat.add_sub_cancel_left]
theorem ws_wk (z : RW) (n : Nat) : V.Wk (.isl 4 n (frzC ((wWs z n).map .u64) 0 4)) (.isl 4 n (wF fun k => wdW (z.s k))) := by
  refine .isl fun i j hi hj => ?_
  have e : frzC ((wWs z n).map .u64) 0 4 i j = wF (fun k => wdW (z.s k)) i j := by
    unfold frzC
    rw [Nat.zero_add, List.getD_eq_getElem?_getD, List.getElem?_map, wWs_at z n i j hi hj]
    match j, hj with
    | 0, _ => rfl
    | 1, _ => rfl
    | 2, _ => rfl
    | 3, _ => rfl
  rw [e]; exact .refl _
theorem u64_clo (l : List (BitVec 64)) : ∀ v, v ∈ l.map V.u64 → v.clo = true := by
  intro v hv
  obtain ⟨x, _, rfl⟩ := List.mem_map.1 hv
  rfl
def acC (q : AW) : Nat → List V
  | 0 => []
  | k + 1 => acC q k ++ [.str (q.a k), .isl 4 (q.m k) (wF (q.w k))]
theorem acC_len (q : AW) : ∀ k, (acC q k).length = k * 2
  | 0 => rfl
  | k + 1 => by rw [acC, List.length_append, acC_len q k, Nat.succ_mul]; rfl
theorem acC_clo (q : AW) : ∀ k v, v ∈ acC q k → v.clo = true
  | k + 1, v, h => by
    rw [acC] at h
    rcases List.mem_append.1 h with h | h
    · exact acC_clo q k v h
    · simp only [List.mem_cons, List.not_mem_nil, or_false] at h
      rcases h with rfl | rfl <;> rfl
theorem acC_at (q : AW) : ∀ (n i j : Nat), i < n → j < 2 → (acC q n).getD (i * 2 + j) .any = ([.str (q.a i), .isl 4 (q.m i) (wF (q.w i))] : List V).getD j .any
  | n + 1, i, j, hi, hj => by
    rw [acC, List.getD_eq_getElem?_getD]
    rcases Nat.lt_or_ge i n with h | h
    · rw [List.getElem?_append_left (by rw [acC_len]; omega), ← List.getD_eq_getElem?_getD]
      exact acC_at q n i j h hj
    · have : i = n := by omega
      subst this
      rw [List.getElem?_append_right (by rw [acC_len]; omega), acC_len, Nat.add_sub_cancel_left, ← List.getD_eq_getElem?_getD]
theorem ac_wk (q : AW) (n : Nat) : V.Wk (.isl 2 n (frzC (acC q n) 0 2)) (.isl 2 n (aF q)) := by
  refine .isl fun i j hi hj => ?_
  have e : frzC (acC q n) 0 2 i j = aF q i j := by
    unfold frzC
    rw [Nat.zero_add, acC_at q n i j hi hj]
    match j, hj with
    | 0, _ => rfl
    | 1, _ => rfl
  rw [e]; exact .refl _
def CM.txp (c : CM) : List V := [.int .i64 c.tk, .str c.tf, .str c.tt, .u64 c.tn, .u64 c.tg, .u64 c.tp.a, .u64 c.tp.b, .u64 c.tp.c, .u64 c.tp.d, .u64 c.ti.a, .u64 c.ti.b, .u64 c.ti.c, .u64 c.ti.d, .u64 c.tv.a, .u64 c.tv.b, .u64 c.tv.c, .u64 c.tv.d, .str c.td]
theorem txA_eq (c : CM) (ac : V) : c.txA ac = c.txp ++ [ac] := rfl
theorem frz_txA (c : CM) (i : Nat) (cs : List V) (ac : V) : frzVs i cs (c.txA ac) = c.txA (frzV i cs ac) := rfl
def acS : Nat → V
  | 0 => .nilSl
  | k + 1 => .sl 2 0 2 (k + 1) none
def acD (ds : List V) (q : AW) : Nat → List V
  | 0 => ds
  | k + 1 => acC q (k + 1)
theorem acS_v (i : Nat) : acS i = .nilSl ∨ ∃ n, acS i = .sl 2 0 2 n none := by cases i with | zero => exact .inl rfl | succ k => exact .inr ⟨_, rfl⟩
theorem acD_clo {ds : List V} (hds : ∀ v, v ∈ ds → v.clo = true) (q : AW) : ∀ i v, v ∈ acD ds q i → v.clo = true
  | 0 => hds
  | k + 1 => acC_clo q (k + 1)
theorem acS_frz (i : Nat) (cs : List V) : frzV 4 cs (acS i) = acS i := by cases i <;> rfl
theorem clo2 {ts rd : List Nat} {g : Heap} {ds : List V} (hds : ∀ v, v ∈ ds → v.clo = true) (h : ∀ (k : Nat) b, rd[k]? = some 2 → g[k]? = some b → b = .vals ds) : Tell.clo ⟨ts, rd, [2]⟩ g := by
  intro k i b hk hm hb cs e
  have hm := (memN_iff i [2]).1 hm
  rw [List.mem_singleton] at hm
  subst hm
  have := h k b hk hb
  rw [e] at this
  cases this
  exact hds
theorem clo26 {ts rd : List Nat} {x : Nat} {g : Heap} {ds : List V} (hds : ∀ v, v ∈ ds → v.clo = true) (h : ∀ (k i : Nat) b, rd[k]? = some i → (i = 2 ∨ i = x) → g[k]? = some b → b = .vals ds ∨ ∃ l, b = .b64 l) : Tell.clo ⟨ts, rd, [2, x]⟩ g := by
  intro k i b hk hm hb cs e
  have hm := (memN_iff i [2, x]).1 hm
  simp only [List.mem_cons, List.not_mem_nil, or_false] at hm
  rcases h k i b hk hm hb with h1 | ⟨l, h1⟩
  · rw [e] at h1; cases h1; exact hds
  · rw [e] at h1; cases h1
end
end Go.Proofs.YtbgiickegljpoaaDoor.K
end
section
open Go Go.Lh
namespace Go.Proofs.YtbgiickegljpoaaDoor.K
noncomputable section
set_option maxRecDepth 100000
def td_F (r : RW) (n i : Nat) : Fr := [(2,.ptr 0 0),(3,.ptr 1 0),(74,.isl 3 n (rwF r)),(75,.int .i64 n),(76,.int .i64 i)]
def td_H (c : CM) (ds : List V) (q : AW) (i : Nat) : Heap := [.vals (c.txA (acS i)), .vals [.bool false], .vals (acD ds q i)]
theorem td_app (c : CM) (r : RW) (n i : Nat) (ds : List V) (q : AW) (hi : i ≤ 65536) {R : X → Fr → Heap → Prop} (hR : Loose (Go.Proofs.Tryd.f52).ntmps 2 R) {r0 : Fin × Heap} (hC : Carries (FinR (Go.Proofs.Tryd.f52).ntmps 2 dE r0) R)
    (H : R .normal (td_F r n i) (td_H c ds q (i + 1))) :
    Runs Pr (Go.Proofs.Tryd.f52).ntmps 2 (dropSeq 4 d1) [(2,.ptr 0 0),(3,.ptr 1 0),(11,.ptr 3 0),(74,.isl 3 n (rwF r)),(75,.int .i64 n),(76,.int .i64 i)] [.vals (c.txA (acS i)), .vals [.bool false], .vals (acD ds q i), .vals [.str (q.a i), .isl 4 (q.m i) (wF (q.w i))], .dead] R := by
  have hcl : ∀ {g : Heap} {cs : List V}, (∀ v, v ∈ cs → v.clo = true) → Tell.clo ⟨[2,3,74,75,76], [0, 1, 6], [6]⟩ [.vals (c.txA (acS (i + 1))), .vals [.bool false], .vals cs] := by
    intro _ cs hc k j b hk hm hb cs' e
    have hm := (memN_iff j [6]).1 hm
    rw [List.mem_singleton] at hm
    subst hm
    match k, hk, hb with
    | 0, hk, _ => simp at hk
    | 1, hk, _ => simp at hk
    | 2, _, hb => simp at hb; subst hb; cases e; exact hc
    | k + 3, hk, _ => simp at hk
  cases i with
  | zero =>
    refine Runs.lastF (L := noLoopsT) OD3_sound mixed noLoops_all (by kernel_rfl) hR hC (tdb_x c r n 0 (q.m 0) (q.w 0) (q.a 0) ds) ?_
    exact wp_chk_true.2 (wp_leaf.2 ⟨hcl (g := []) (acC_clo q 1), .inl ⟨_, _, rfl, H⟩⟩)
  | succ k =>
    obtain ⟨c0, cs, ec⟩ : ∃ c0 cs, acC q (k + 1) = c0 :: cs := by
      cases h : acC q (k + 1) with
      | nil => have := acC_len q (k + 1); rw [h] at this; simp at this
      | cons c cs => exact ⟨c, cs, rfl⟩
    have hlen : (c0 :: cs).length = (k + 1) * 2 := by rw [← ec, acC_len]
    have htk : List.take ((k + 1) * 2) (c0 :: cs) = acC q (k + 1) := by rw [← hlen, List.take_length, ec]
    have hD : acD ds q (k + 1) = c0 :: cs := ec
    rw [hD]
    refine Runs.lastF (L := noLoopsT) OD3_sound mixed noLoops_all (by kernel_rfl) hR hC (tdc_x c r n (k + 1) (q.m (k + 1)) k (q.w (k + 1)) (q.a (k + 1)) c0 cs) ?_
    rw [htk]
    refine wp_chk.2 ⟨?_, wp_leaf.2 ⟨hcl (g := []) (acC_clo q (k + 2)), .inl ⟨_, _, rfl, H⟩⟩⟩
    have e1 : ∀ (a : List B) (x : V), V.one x = true → (List.take 2 (setCells (List.replicate 1 [V.str (bytesOf (ByteArray.mk #[])), V.nilSl]).flatten 0 ((Blk.vals [V.str a, x]).atN 0 2))).all V.one = true := fun a x hx => by
      show (true && (V.one x && true)) = true
      rw [hx]; rfl
    rw [hlen, e1 _ _ rfl]
    simp only [Bool.and_eq_true, Bool.and_true, Bool.true_and, decide_eq_true_eq]; omega
def td_T (c : CM) (r z : RW) (n i m : Nat) (a : List B) (ds : List V) (q : AW) (k : Nat) : Fr × Heap := ([(2,.ptr 0 0),(3,.ptr 1 0),(11,.ptr 3 0),(74,.isl 3 n (rwF r)),(75,.int .i64 n),(76,.int .i64 i),(94,.isl 3 m (rwF z)),(95,.int .i64 m),(96,.int .i64 k)], match k with
  | 0 => [.vals (c.txA (acS i)), .vals [.bool false], .vals (acD ds q i), .vals [.str a, .nilSl]]
  | k + 1 => [.vals (c.txA (acS i)), .vals [.bool false], .vals (acD ds q i), .vals [.str a, .sl 4 0 4 (k + 1) none], .b64 (wWs z (k + 1))])
theorem td_in (c : CM) (r z : RW) (n i m : Nat) (a : List B) (ds : List V) (hds : ∀ v, v ∈ ds → v.clo = true) (q : AW) (hm : m ≤ 65536) {R : X → Fr → Heap → Prop} (hR : Loose (Go.Proofs.Tryd.f52).ntmps 2 R) {r0 : Fin × Heap} (hC : Carries (FinR (Go.Proofs.Tryd.f52).ntmps 2 dE r0) R)
    (Hno : (¬ ∀ k, k < m → wdB (z.b k) (z.s k) = true) → r0 = nQ)
    (H : (∀ k, k < m → wdB (z.b k) (z.s k) = true) → Runs Pr (Go.Proofs.Tryd.f52).ntmps 2 (dropSeq 4 d1) [(2,.ptr 0 0),(3,.ptr 1 0),(11,.ptr 3 0),(74,.isl 3 n (rwF r)),(75,.int .i64 n),(76,.int .i64 i)] [.vals (c.txA (acS i)), .vals [.bool false], .vals (acD ds q i), .vals [.str a, .isl 4 m (wF fun k => wdW (z.s k))], .dead] R) :
    Runs Pr (Go.Proofs.Tryd.f52).ntmps 2 (.block 2 (.loop (Go.Lh.loopBody Go.Proofs.Tryd.f52 1))) (td_T c r z n i m a ds q 0).1 (td_T c r z n i m a ds q 0).2 (SeqR Pr (Go.Proofs.Tryd.f52).ntmps 2 (dropSeq 4 d1) R) := by
  have hD := acD_clo hds q i
  have no : ∀ {k : Nat}, k < m → wdB (z.b k) (z.s k) = false → (Sum.inl nQ : (Fin × Heap) ⊕ (X × Fr × Heap)) = .inl r0 := fun {k} hk h => by
    rw [Hno (fun hx => by rw [hx k hk] at h; cases h)]
  refine Runs.loopT (td_T c r z n i m a ds q) (fun k => m - k) (fun k => k ≤ m ∧ ∀ j, j < k → wdB (z.b j) (z.s j) = true) ?_ (a0 := 0) ⟨Nat.zero_le _, fun j hj => absurd hj (Nat.not_lt_zero _)⟩
  rintro k ⟨hk, hall⟩
  match k, hk, hall with
  | 0, hk, hall =>
    refine Runs.lastF (L := noLoopsT) OD3_sound mixed noLoops_all (by kernel_rfl) (Loose.rnd (Loose.seq hR)) (Carries.rnd (Carries.seq hC)) (td9_v (acS i) (acS_v i) c r z n i m a (acD ds q i)) ?_
    refine wp_chk_true.2 (wp_br.2 ⟨fun h => ?_, fun h => wp_leaf.2 ⟨clo2 hD (fun k b h1 h2 => ?_), .inr (.inl ⟨_, _, _, rfl, .inr (.inl ⟨rfl, ?_⟩)⟩)⟩⟩)
    · have h := of_decide_eq_true h
      have hlt : 0 < m := by omega
      refine wp_chk.2 ⟨by rw [decide_eq_true (show (0 : Int) < (m : Int) by omega), decide_eq_true hlt]; rfl, wp_br.2 ⟨fun h1 => wp_chk_true.2 (wp_leaf.2 ⟨clo26 hD (fun k i b h1 h2 h3 => ?_), .inl ⟨_, _, rfl, .inl ⟨rfl, 1, ⟨hlt, ?_⟩, by show m - 1 < m - 0; omega, .refl⟩⟩⟩), fun h1 => wp_chk_true.2 (wp_leaf.2 ⟨trivial, .inr (.inr (no hlt h1))⟩)⟩⟩
      · match k, h1, h3 with
        | 0, h1, _ => simp at h1; omega
        | 1, h1, _ => simp at h1; omega
        | 2, h1, h3 => simp at h3; exact .inl h3.symm
        | 3, h1, _ => simp at h1; omega
        | 4, h1, h3 => simp at h3; exact .inr ⟨_, h3.symm⟩
        | k + 5, h1, _ => simp at h1
      · intro j hj
        have : j = 0 := by omega
        subst this; exact h1
    · match k, h1, h2 with
      | 0, h1, _ => simp at h1
      | 1, h1, _ => simp at h1
      | 2, h1, h2 => simp at h2; exact h2.symm
      | 3, h1, _ => simp at h1
      | k + 4, h1, _ => simp at h1
    · have h := of_decide_eq_false h
      have h0 : m = 0 := by omega
      subst h0
      show Runs Pr _ _ (dropSeq 4 d1) _ _ _
      refine Runs.wkH (h2 := [.vals (c.txA (acS i)), .vals [.bool false], .vals (acD ds q i), .vals [.str a, .isl 4 0 (wF fun k => wdW (z.s k))]]) (.cons (.refl _) (.cons (.refl _) (.cons (.refl _) (.cons (.vals (.cons (.refl _) (.cons (.nil _ _) .nil))) .nil)))) ?_
      exact Runs.weaken Weaker.pad1 (H (fun k hk => absurd hk (Nat.not_lt_zero _)))
  | k + 1, hk, hall =>
    obtain ⟨c0, cs, ec⟩ : ∃ c0 cs, wWs z (k + 1) = c0 :: cs := by
      cases h : wWs z (k + 1) with
      | nil => have := wWs_len z (k + 1); rw [h] at this; simp at this
      | cons c cs => exact ⟨c, cs, rfl⟩
    have hlen : (c0 :: cs).length = (k + 1) * 4 := by rw [← ec, wWs_len]
    have htk : List.take ((k + 1) * 4) (c0 :: cs) = wWs z (k + 1) := by rw [← hlen, List.take_length, ec]
    have hS : td_T c r z n i m a ds q (k + 1) = ([(2,.ptr 0 0),(3,.ptr 1 0),(11,.ptr 3 0),(74,.isl 3 n (rwF r)),(75,.int .i64 n),(76,.int .i64 i),(94,.isl 3 m (rwF z)),(95,.int .i64 m),(96,.int .i64 (k + 1 : Nat))], [.vals (c.txA (acS i)), .vals [.bool false], .vals (acD ds q i), .vals [.str a, .sl 4 0 4 (k + 1) none], .b64 (c0 :: cs)]) := by rw [← ec]; rfl
    rw [hS]
    refine Runs.lastF (L := noLoopsT) OD3_sound mixed noLoops_all (by kernel_rfl) (Loose.rnd (Loose.seq hR)) (Carries.rnd (Carries.seq hC)) (tda_v (acS i) (acS_v i) c r z n i m k a (acD ds q i) c0 cs) ?_
    rw [htk]
    refine wp_chk_true.2 (wp_br.2 ⟨fun h => ?_, fun h => wp_leaf.2 ⟨clo26 hD (fun k i b h1 h2 h3 => ?_), .inr (.inl ⟨_, _, _, rfl, .inr (.inl ⟨rfl, ?_⟩)⟩)⟩⟩)
    · have h := of_decide_eq_true h
      have hlt : k + 1 < m := by omega
      refine wp_chk.2 ⟨by rw [decide_eq_true h, decide_eq_true hlt]; rfl, wp_br.2 ⟨fun h1 => wp_chk.2 ⟨?_, wp_leaf.2 ⟨clo26 hD (fun k i b h1 h2 h3 => ?_), .inl ⟨_, _, rfl, .inl ⟨rfl, k + 2, ⟨hlt, ?_⟩, by show m - (k + 2) < m - (k + 1); omega, ?_⟩⟩⟩⟩, fun h1 => wp_chk_true.2 (wp_leaf.2 ⟨trivial, .inr (.inr (no hlt h1))⟩)⟩⟩
      · rw [hlen]
        simp only [Bool.and_eq_true, Bool.and_true, Bool.true_and, decide_eq_true_eq]; omega
      · match k, h1, h3 with
        | 0, h1, _ => simp at h1; omega
        | 1, h1, _ => simp at h1; omega
        | 2, h1, h3 => simp at h3; exact .inl h3.symm
        | 3, h1, _ => simp at h1; omega
        | 4, h1, h3 => simp at h3; exact .inr ⟨_, h3.symm⟩
        | k + 5, h1, _ => simp at h1
      · intro j hj
        rcases Nat.lt_or_ge j (k + 1) with h9 | h9
        · exact hall j h9
        · have : j = k + 1 := by omega
          subst this; exact h1
      · rw [show (((k + 1 : Nat) : Int) + 1) = ((k + 2 : Nat) : Int) by omega, wrapI_nat (by omega)]
        exact .refl
    · match k, h1, h3 with
      | 0, h1, _ => simp at h1; omega
      | 1, h1, _ => simp at h1; omega
      | 2, h1, h3 => simp at h3; exact .inl h3.symm
      | 3, h1, _ => simp at h1; omega
      | 4, h1, h3 => simp at h3; exact .inr ⟨_, h3.symm⟩
      | k + 5, h1, _ => simp at h1
    · have h := of_decide_eq_false h
      have h0 : m = k + 1 := by omega
      subst h0
      show Runs Pr _ _ (dropSeq 4 d1) _ _ _
      rw [← ec]
      refine Runs.wkH (h2 := [.vals (c.txA (acS i)), .vals [.bool false], .vals (acD ds q i), .vals [.str a, .sl 4 0 4 (k + 1) none], .vals ((wWs z (k + 1)).map .u64)]) (.cons (.refl _) (.cons (.refl _) (.cons (.refl _) (.cons (.refl _) (.cons (.b64 _) .nil))))) ?_
      refine Runs.frzA (i := 4) (cs := (wWs z (k + 1)).map .u64) rfl (u64_clo _) ?_
      have e1 : frzF 4 ((wWs z (k + 1)).map .u64) [(2,.ptr 0 0),(3,.ptr 1 0),(11,.ptr 3 0),(74,.isl 3 n (rwF r)),(75,.int .i64 n),(76,.int .i64 i)] = [(2,.ptr 0 0),(3,.ptr 1 0),(11,.ptr 3 0),(74,.isl 3 n (rwF r)),(75,.int .i64 n),(76,.int .i64 i)] := rfl
      have e2 : (([.vals (c.txA (acS i)), .vals [.bool false], .vals (acD ds q i), .vals [.str a, .sl 4 0 4 (k + 1) none], .vals ((wWs z (k + 1)).map .u64)] : Heap).set 4 .dead).map (frzB 4 ((wWs z (k + 1)).map .u64)) =
          [.vals (c.txA (acS i)), .vals [.bool false], .vals (acD ds q i), .vals [.str a, .isl 4 (k + 1) (frzC ((wWs z (k + 1)).map .u64) 0 4)], .dead] := by
        show [Blk.vals (frzVs 4 _ (c.txA (acS i))), .vals [.bool false], .vals (frzVs 4 _ (acD ds q i)), .vals [.str a, .isl 4 (k + 1) (frzC ((wWs z (k + 1)).map .u64) 0 4)], .dead] = _
        rw [frz_txA, acS_frz, frzVs_clo (clos_of hD)]
      rw [e1, e2]
      refine Runs.wkH (.cons (.refl _) (.cons (.refl _) (.cons (.refl _) (.cons (.vals (.cons (.refl _) (.cons (ws_wk z (k + 1)) .nil))) (.cons (.refl _) .nil))))) (H (fun j hj => hall j hj))
end
end Go.Proofs.YtbgiickegljpoaaDoor.K
end
section
open Go Go.Lh
namespace Go.Proofs.YtbgiickegljpoaaDoor.K
noncomputable section
set_option maxRecDepth 100000
theorem clo3 {ts : List Nat} {b0 b1 : Blk} {ds : List V} (hds : ∀ v, v ∈ ds → v.clo = true) : Tell.clo ⟨ts, [0, 1, 2], [2]⟩ [b0, b1, .vals ds] := clo2 hds fun k b h1 h2 => by
  match k, h1, h2 with
  | 0, h1, _ => simp at h1
  | 1, h1, _ => simp at h1
  | 2, _, h2 => simp at h2; exact h2.symm
  | k + 3, h1, _ => simp at h1
theorem clo4 {ts : List Nat} {b0 b1 b3 : Blk} {ds : List V} (hds : ∀ v, v ∈ ds → v.clo = true) : Tell.clo ⟨ts, [0, 1, 2, 3], [2]⟩ [b0, b1, .vals ds, b3] := clo2 hds fun k b h1 h2 => by
  match k, h1, h2 with
  | 0, h1, _ => simp at h1
  | 1, h1, _ => simp at h1
  | 2, _, h2 => simp at h2; exact h2.symm
  | 3, h1, _ => simp at h1
  | k + 4, h1, _ => simp at h1
theorem enc_one (x : It) : 1 ≤ (enc x).length := by
  cases x with
  | txt s =>
    rw [enc_txt_eq]
    split
    · omega
    · rw [List.length_append]; have := (headO_len 128#8 s.length).1; omega
  | lst l => rw [enc_lst, List.length_append]; have := (headO_len 192#8 (encs l).length).1; omega
theorem len_le_encs : ∀ l : List It, l.length ≤ (encs l).length
  | [] => Nat.zero_le _
  | x :: r => by rw [encs_cons, List.length_append, List.length_cons]; have := enc_one x; have := len_le_encs r; omega
theorem encs_le_enc (l : List It) : (encs l).length ≤ (enc (.lst l)).length := by rw [enc_lst, List.length_append]; omega
theorem lst_le {l : List It} {x : It} (h : x ∈ l) : (enc x).length ≤ (enc (.lst l)).length := Nat.le_trans (encs_ge h) (encs_le_enc l)
theorem td_outer (c : CM) (L : List It) (ds : List V) (hds : ∀ v, v ∈ ds → v.clo = true) (hL : (enc (.lst L)).length ≤ 65536) {R : X → Fr → Heap → Prop} (hR : Loose (Go.Proofs.Tryd.f52).ntmps 2 R) {r0 : Fin × Heap} (hC : Carries (FinR (Go.Proofs.Tryd.f52).ntmps 2 dE r0) R)
    (Hno : ∀ i, i < L.length → ¬ acOk (It.rI L) i → r0 = nQ)
    (H : (∀ i, i < L.length → acOk (It.rI L) i) → R .normal [(2,.ptr 0 0),(3,.ptr 1 0)] (td_H c ds (acAW (It.rI L)) L.length)) :
    Runs Pr (Go.Proofs.Tryd.f52).ntmps 2 (.block 0 (.loop (Go.Lh.loopBody Go.Proofs.Tryd.f52 0))) (td_F (It.rI L) L.length 0) (td_H c ds (acAW (It.rI L)) 0) R := by
  have hn : L.length ≤ 65536 := Nat.le_trans (Nat.le_trans (len_le_encs L) (encs_le_enc L)) hL
  refine Runs.loopT (fun i => (td_F (It.rI L) L.length i, td_H c ds (acAW (It.rI L)) i)) (fun i => L.length - i) (fun i => i ≤ L.length ∧ ∀ k, k < i → acOk (It.rI L) k) ?_ (a0 := 0) ⟨Nat.zero_le _, fun k hk => absurd hk (Nat.not_lt_zero _)⟩
  rintro i ⟨hi, hall⟩
  have hD := acD_clo hds (acAW (It.rI L)) i
  refine Runs.cutF (L := noLoopsT) 1 OD3_sound mixed (by kernel_rfl) noLoops_all (by kernel_rfl) (Loose.rnd hR) (Carries.rnd hC) (td4_v (acS i) (acS_v i) c (It.rI L) L.length i (acD ds (acAW (It.rI L)) i)) ?_
  refine wp_chk_true.2 (wp_br.2 ⟨fun h => wp_leaf.2 ⟨clo3 hD, .inl ⟨_, _, rfl, ?_⟩⟩, fun h => wp_leaf.2 ⟨clo3 hD, .inr (.inl ⟨_, _, _, rfl, .inr (.inl ⟨rfl, ?_⟩)⟩)⟩⟩)
  rotate_left
  · have h := of_decide_eq_false h
    have : i = L.length := by omega
    subst this
    exact H hall
  have h := of_decide_eq_true h
  have hlt : i < L.length := by omega
  have no : ¬ acOk (It.rI L) i → (Sum.inl nQ : (Fin × Heap) ⊕ (X × Fr × Heap)) = .inl r0 := fun hx => by rw [Hno i hlt hx]
  have e : dropSeq 1 (Go.Lh.loopBody Go.Proofs.Tryd.f52 0) = .seq (.block 1 d1) (dropSeq 2 (Go.Lh.loopBody Go.Proofs.Tryd.f52 0)) := by kernel_rfl
  rw [e]
  refine Runs.seqT (Runs.blockT ?_)
  have hR1 := Loose.blk (id := 1) (Loose.seq (P := Pr) (rest := dropSeq 2 (Go.Lh.loopBody Go.Proofs.Tryd.f52 0)) (Loose.rnd (id := 0) (S := fun i => (td_F (It.rI L) L.length i, td_H c ds (acAW (It.rI L)) i)) (μ := fun i => L.length - i) (ok := fun i => i ≤ L.length ∧ ∀ k, k < i → acOk (It.rI L) k) (a := i) hR))
  have hC1 := Carries.blk (id := 1) (Carries.seq (P := Pr) (N := (Go.Proofs.Tryd.f52).ntmps) (n0 := 2) (rest := dropSeq 2 (Go.Lh.loopBody Go.Proofs.Tryd.f52 0)) (Carries.rnd (N := (Go.Proofs.Tryd.f52).ntmps) (n0 := 2) (id := 0) (S := fun i => (td_F (It.rI L) L.length i, td_H c ds (acAW (It.rI L)) i)) (μ := fun i => L.length - i) (ok := fun i => i ≤ L.length ∧ ∀ k, k < i → acOk (It.rI L) k) (a := i) hC))
  -- the entry's own list
  refine Runs.cutF (L := noLoopsT) 1 OD3_sound mixed (by kernel_rfl) noLoops_all (by kernel_rfl) hR1 hC1 (td5_v (acS i) (acS_v i) c (It.rI L) L.length i (acD ds (acAW (It.rI L)) i)) ?_
  refine wp_chk.2 ⟨by rw [decide_eq_true h, decide_eq_true hlt]; rfl, wp_br.2 ⟨fun h1 => wp_chk_true.2 (wp_leaf.2 ⟨clo3 hD, .inl ⟨_, _, rfl, ?_⟩⟩), fun h1 => wp_chk_true.2 (wp_leaf.2 ⟨trivial, .inr (.inr (no fun hx => by rw [hx.1] at h1; cases h1))⟩)⟩⟩
  obtain ⟨l2, e2, em2, eg2⟩ := rI_lst hlt h1
  have hl2 : (enc (.lst l2)).length ≤ 65536 := by
    have := lst_le (List.getElem_mem hlt)
    rw [e2] at this
    omega
  have hX : acX (It.rI L) i = It.rI l2 := by unfold acX; rw [eg2]; rfl
  rw [em2, eg2]
  refine Runs.cutF (L := noLoopsT) 0 OD3_sound mixed (by kernel_rfl) noLoops_all (by kernel_rfl) hR1 hC1 (td6_v (acS i) (acS_v i) c (It.rI L) L.length i l2.length (rwF (It.rI l2)) (acD ds (acAW (It.rI L)) i)) ?_
  refine wp_chk_true.2 (wp_br.2 ⟨fun h2 => wp_chk_true.2 (wp_leaf.2 ⟨trivial, .inr (.inr (no fun hx => ?_))⟩), fun h2 => wp_chk_true.2 (wp_leaf.2 ⟨clo3 hD, .inl ⟨_, _, rfl, ?_⟩⟩)⟩)
  · have := hx.2.1
    rw [em2] at this
    rw [this] at h2; cases h2
  have hlen2 : l2.length = 2 := by
    have : (!(((l2.length : Nat) : Int) == (2 : Int))) = false := h2
    simp at this; omega
  rw [hlen2]
  have e : dropSeq 0 (dropSeq 1 d1) = dropSeq 2 d1 := by kernel_rfl
  rw [e]
  refine Runs.cutF (L := noLoopsT) 0 OD3_sound mixed (by kernel_rfl) noLoops_all (by kernel_rfl) hR1 hC1 (td7_v (acS i) (acS_v i) c (It.rI L) (It.rI l2) L.length i (acD ds (acAW (It.rI L)) i)) ?_
  refine wp_chk_true.2 (wp_br.2 ⟨fun h3 => wp_chk_true.2 (wp_leaf.2 ⟨clo4 hD, .inl ⟨_, _, rfl, ?_⟩⟩), fun h3 => wp_chk_true.2 (wp_leaf.2 ⟨trivial, .inr (.inr (no fun hx => ?_))⟩)⟩)
  rotate_left
  · have := hx.2.2.1
    rw [hX] at this
    rw [this] at h3; cases h3
  have hb0 : (It.rI l2).b 0 = false := by cases hb : (It.rI l2).b 0 with | true => rw [hb] at h3; cases h3 | false => rfl
  have e : dropSeq 0 (dropSeq 2 d1) = .seq (takeSeq 0 (dropSeq 3 d1)) (dropSeq 4 d1) := by kernel_rfl
  rw [e]
  refine Runs.seqT ?_
  refine Runs.cutF (L := noLoopsT) 0 OD3_sound mixed (by kernel_rfl) noLoops_all (by kernel_rfl) (Loose.seq hR1) (Carries.seq hC1) (td8_v (acS i) (acS_v i) c (It.rI L) (It.rI l2) L.length i ((It.rI l2).s 0) (acD ds (acAW (It.rI L)) i)) ?_
  refine wp_chk_true.2 (wp_br.2 ⟨fun h4 => wp_chk_true.2 (wp_leaf.2 ⟨clo4 hD, .inl ⟨_, _, rfl, ?_⟩⟩), fun h4 => wp_chk_true.2 (wp_leaf.2 ⟨trivial, .inr (.inr (no fun hx => ?_))⟩)⟩)
  rotate_left
  · have := hx.2.2.2.1
    rw [hX] at this
    rw [this] at h4; cases h4
  obtain ⟨l3, e3, em3, eg3⟩ := rI_lst (by omega : 1 < l2.length) h4
  have hl3 : l3.length ≤ 65536 := by
    have h9 := lst_le (List.getElem_mem (by omega : 1 < l2.length))
    rw [e3] at h9
    exact Nat.le_trans (Nat.le_trans (len_le_encs l3) (encs_le_enc l3)) (by omega)
  have hZ : acZ (It.rI L) i = It.rI l3 := by unfold acZ; rw [hX, eg3]; rfl
  rw [em3, eg3]
  have e : dropSeq 0 (takeSeq 0 (dropSeq 3 d1)) = .block 2 (.loop (Go.Lh.loopBody Go.Proofs.Tryd.f52 1)) := by kernel_rfl
  rw [e]
  have ha : (acAW (It.rI L)).a i = (It.rI l2).s 0 := by show (acX (It.rI L) i).s 0 = _; rw [hX]
  have hm : (acAW (It.rI L)).m i = l3.length := by show (acX (It.rI L) i).m 1 = _; rw [hX, em3]
  have hw : (acAW (It.rI L)).w i = fun k => wdW ((It.rI l3).s k) := by show (fun k => wdW ((acZ (It.rI L) i).s k)) = _; rw [hZ]
  have mk : (∀ k, k < l3.length → wdB ((It.rI l3).b k) ((It.rI l3).s k) = true) → acOk (It.rI L) i := fun hx => ⟨h1, by rw [em2, hlen2], by rw [hX]; exact hb0, by rw [hX]; exact h4, fun k hk => by rw [hX, em3] at hk; rw [hZ]; exact hx k hk⟩
  refine td_in c (It.rI L) (It.rI l3) L.length i l3.length ((It.rI l2).s 0) ds hds (acAW (It.rI L)) hl3 hR1 hC1 (fun hx => Hno i hlt fun ho => hx fun k hk => ?_) (fun hx => ?_)
  · have := ho.2.2.2.2 k (by rw [hX, em3]; exact hk)
    rw [hZ] at this; exact this
  have hok := mk hx
  rw [← ha, ← hm, ← hw]
  refine td_app c (It.rI L) L.length i ds (acAW (It.rI L)) (by omega) hR1 hC1 (.inl ⟨.inl rfl, ?_⟩)
  show Runs Pr _ _ (dropSeq 2 (Go.Lh.loopBody Go.Proofs.Tryd.f52 0)) _ _ _
  refine Runs.lastF (L := noLoopsT) OD3_sound mixed noLoops_all (by kernel_rfl) (Loose.rnd hR) (Carries.rnd hC) (tdd_v (acS (i + 1)) (acS_v (i + 1)) c (It.rI L) L.length i (acD ds (acAW (It.rI L)) (i + 1))) ?_
  refine wp_chk_true.2 (wp_leaf.2 ⟨clo3 (acD_clo hds (acAW (It.rI L)) (i + 1)), .inl ⟨_, _, rfl, .inl ⟨rfl, i + 1, ⟨by omega, fun k hk => ?_⟩, by show L.length - (i + 1) < L.length - i; omega, ?_⟩⟩⟩)
  · rcases Nat.lt_or_ge k i with h9 | h9
    · exact hall k h9
    · have : k = i := by omega
      subst this; exact hok
  · rw [show ((i : Int) + 1) = ((i + 1 : Nat) : Int) by omega, wrapI_nat (by omega)]
    exact .refl
end
end Go.Proofs.YtbgiickegljpoaaDoor.K
end
section
open Go Go.Lh
namespace Go.Proofs.YtbgiickegljpoaaDoor.K
noncomputable section
set_option maxRecDepth 100000
theorem td_fin (c : CM) (ds : List V) (qa : AW) (n : Nat) {code : Code} {R : X → Fr → Heap → Prop}
    (H : Runs Pr (Go.Proofs.Tryd.f52).ntmps 2 code [(2,.ptr 0 0),(3,.ptr 1 0)] [.vals (c.txA (.isl 2 n (aF qa))), .vals [.bool false], .dead] R) :
    Runs Pr (Go.Proofs.Tryd.f52).ntmps 2 code [(2,.ptr 0 0),(3,.ptr 1 0)] (td_H c ds qa n) R := by
  cases n with
  | zero =>
    refine Runs.wkH (h2 := [.vals (c.txA (.isl 2 0 (aF qa))), .vals [.bool false], .vals ds]) (.cons (.vals (by rw [txA_eq, txA_eq]; exact Wks.last (.nil _ _))) (.cons (.refl _) (.cons (.refl _) .nil))) ?_
    exact Runs.weaken (Weaker.deadAt 2) H
  | succ k =>
    refine Runs.frzA (i := 2) (cs := acC qa (k + 1)) rfl (acC_clo qa _) ?_
    have e1 : frzF 2 (acC qa (k + 1)) [(2,.ptr 0 0),(3,.ptr 1 0)] = [(2,.ptr 0 0),(3,.ptr 1 0)] := rfl
    have e2 : ((td_H c ds qa (k + 1)).set 2 .dead).map (frzB 2 (acC qa (k + 1))) = [.vals (c.txA (.isl 2 (k + 1) (frzC (acC qa (k + 1)) 0 2))), .vals [.bool false], .dead] := rfl
    rw [e1, e2]
    exact Runs.wkH (.cons (.vals (by rw [txA_eq, txA_eq]; exact Wks.last (ac_wk qa (k + 1)))) (.cons (.refl _) (.cons (.refl _) .nil))) H
theorem td_fn (s : List B) : LFn Pr 52 [.str s] [] (tdV (txD s)) [] := by
  refine fnDR (r := (tdV (txD s), [])) (fnF := Go.Proofs.Tryd.f64) OD3_sound mixed (by kernel_rfl) (by kernel_rfl) (by kernel_rfl) (fun _ => LoopsOk.noneT) (fun _ _ _ _ => LoopsOk.noneT) (tdp_x s) (by kernel_rfl) ?_
  show Runs Pr (Go.Proofs.Tryd.f52).ntmps 2 (dropSeq 1 dB) [(0,.str s),(2,.ptr 0 0),(3,.ptr 1 0),(14,.fn 64 [] [.ptr 0 0,.ptr 1 0])] [.vals zt,.vals [.bool false]] (FinR (Go.Proofs.Tryd.f52).ntmps 2 dE (tdV (txD s), []))
  refine Runs.cutF (L := noLoopsT) 3 OD3_sound mixed (by kernel_rfl) noLoops_all (by kernel_rfl) Loose.fin Carries.rfl (td0_x s) ?_
  have nq : txD s = none → (Sum.inl nQ : (Fin × Heap) ⊕ (X × Fr × Heap)) = .inl (tdV (txD s), []) := fun h => by rw [h]; rfl
  cases hd : decF s with
  | none =>
    have e : txD s = none := by unfold txD; rw [hd]
    have e1 : dcO s = false := @decide_eq_false _ (Classical.propDecidable _) (by rw [hd]; rintro ⟨x, hx⟩; cases hx)
    rw [e1]
    refine wp_chk_true.2 (wp_br.2 ⟨fun h => (by cases h), fun _ => wp_chk_true.2 (wp_br.2 ⟨fun _ => wp_chk_true.2 (wp_leaf.2 ⟨trivial, .inr (.inr (nq e))⟩), fun h => ?_⟩)⟩)
    exfalso
    have : dcE s = 2 ∨ dcE s = 3 := by
      unfold dcE
      by_cases h9 : s.length ≤ 65536
      · left; exact @if_pos _ (Classical.propDecidable _) h9 _ _ _
      · right; exact @if_neg _ (Classical.propDecidable _) h9 _ _ _
    rcases this with h9 | h9 <;> rw [h9] at h <;> cases h
  | some x =>
    have e1 : dcO s = true := @decide_eq_true _ (Classical.propDecidable _) ⟨x, hd⟩
    rw [e1, dcI_eq hd]
    cases x with
    | txt t =>
      have e : txD s = none := by unfold txD; rw [hd]
      rw [show (It.txt t).fI.b = false by rw [It.fI]]
      exact wp_chk_true.2 (wp_br.2 ⟨fun _ => wp_chk_true.2 (wp_br.2 ⟨fun h => (by cases h), fun _ => wp_chk_true.2 (wp_leaf.2 ⟨trivial, .inr (.inr (nq e))⟩)⟩), fun h => by cases h⟩)
    | lst l =>
      obtain ⟨hb1, hb2⟩ := decF_back hd
      have hlen : (enc (.lst l)).length ≤ 65536 := by rw [hb1]; exact hb2
      rw [fI_of]
      refine wp_chk_true.2 (wp_br.2 ⟨fun _ => wp_chk_true.2 (wp_br.2 ⟨fun _ => wp_chk_true.2 (wp_br.2 ⟨fun h => wp_chk_true.2 (wp_leaf.2 ⟨trivial, .inr (.inr (nq ?_))⟩), fun h => wp_chk_true.2 (wp_leaf.2 ⟨clo_nil, .inl ⟨_, _, rfl, ?_⟩⟩)⟩), fun h => by cases h⟩), fun h => by cases h⟩)
      · unfold txD; rw [hd]; simp only
        refine if_neg fun hx => ?_
        have h : (!((((l.length : Nat) : Int)) == (10 : Int))) = true := h
        rw [hx.1] at h; cases h
      · have hl10 : l.length = 10 := by
          have : (!(((l.length : Nat) : Int) == (10 : Int))) = false := h
          simp at this; omega
        have rno : ¬ dOk (It.rI l) → (tdV (txD s), []) = nQ := fun hx => by
          have : txD s = none := by
            unfold txD; rw [hd]; simp only
            exact if_neg fun h9 => hx h9.2
          rw [this]; rfl
        have ryes : dOk (It.rI l) → txD s = some (txQ (It.rI l)) := fun hx => by
          unfold txD; rw [hd]; simp only
          exact if_pos ⟨hl10, hx⟩
        have no : ¬ dOk (It.rI l) → (Sum.inl nQ : (Fin × Heap) ⊕ (X × Fr × Heap)) = .inl (tdV (txD s), []) := fun hx => by rw [rno hx]
        simp only
        rw [hl10]
        generalize hds : ([.bool true, .str [], .isl 3 10 (rwF (It.rI l))] : List V) = ds
        have hD : ∀ v, v ∈ ds → v.clo = true := by
          subst hds
          intro v hv
          simp only [List.mem_cons, List.not_mem_nil, or_false] at hv
          rcases hv with rfl | rfl | rfl <;> rfl
        have e : dropSeq 3 (dropSeq 1 dB) = dropSeq 5 dB := by kernel_rfl
        rw [e]
        refine Runs.cutF (L := noLoopsT) 1 OD3_sound mixed (by kernel_rfl) noLoops_all (by kernel_rfl) Loose.fin Carries.rfl (td1_x (It.rI l) ds) ?_
        refine wp_chk_true.2 (wp_br.2 ⟨fun h1 => wp_chk_true.2 (wp_br.2 ⟨fun h2 => wp_chk_true.2 (wp_leaf.2 ⟨trivial, .inr (.inr (no fun hx => ?_))⟩), fun h2 => wp_chk_true.2 (wp_leaf.2 ⟨clo3 hD, .inl ⟨_, _, rfl, ?_⟩⟩)⟩), fun h1 => wp_chk_true.2 (wp_leaf.2 ⟨trivial, .inr (.inr (no fun hx => by rw [hx.1.1] at h1; cases h1))⟩)⟩)
        · rw [decide_eq_true hx.1.2] at h2; cases h2
        have h2 : smallN ((It.rI l).b 0) ((It.rI l).s 0) ≤ BitVec.ofInt 64 2 := by
          refine of_decide_eq_true (p := smallN ((It.rI l).b 0) ((It.rI l).s 0) ≤ BitVec.ofInt 64 2) ?_
          cases hb : decide (smallN ((It.rI l).b 0) ((It.rI l).s 0) ≤ BitVec.ofInt 64 2) with
          | true => rfl
          | false => rw [hb] at h2; cases h2
        have e : dropSeq 1 (dropSeq 5 dB) = .seq (.region 8 (headOps (dropSeq 7 dB)) true) (dropSeq 8 dB) := by kernel_rfl
        rw [e]
        refine Runs.seqT ?_
        refine Runs.quietF OD3_sound mixed (by kernel_rfl) (Loose.seq Loose.fin) (Carries.seq Carries.rfl) (td2_x (It.rI l) (smallN ((It.rI l).b 0) ((It.rI l).s 0)) ds) ?_
        refine wp_chk_true.2 (wp_br.2 ⟨fun h3 => wp_chk_true.2 (wp_leaf.2 ⟨clo3 hD, .inl ⟨_, _, rfl, ?_⟩⟩), fun h3 => wp_chk_true.2 (wp_leaf.2 ⟨trivial, .inr (no fun hx => by rw [hx.2.1] at h3; cases h3)⟩)⟩)
        show Runs Pr _ _ (dropSeq 8 dB) _ _ _
        have e : dropSeq 8 dB = .seq (takeSeq 0 (dropSeq 8 dB)) (dropSeq 9 dB) := by kernel_rfl
        rw [e]
        refine Runs.seqT ?_
        refine Runs.cutF (L := noLoopsT) 0 OD3_sound mixed (by kernel_rfl) noLoops_all (by kernel_rfl) (Loose.seq Loose.fin) (Carries.seq Carries.rfl) (td3_x (hdC (It.rI l) (smallN ((It.rI l).b 0) ((It.rI l).s 0))) (It.rI l) ds) ?_
        refine wp_chk_true.2 (wp_br.2 ⟨fun h4 => wp_chk_true.2 (wp_leaf.2 ⟨clo3 hD, .inl ⟨_, _, rfl, ?_⟩⟩), fun h4 => wp_chk_true.2 (wp_leaf.2 ⟨trivial, .inr (.inr (no fun hx => by rw [hx.2.2.1] at h4; cases h4))⟩)⟩)
        obtain ⟨L, e9, em9, eg9⟩ := rI_lst (by omega : 9 < l.length) h4
        have hL : (enc (.lst L)).length ≤ 65536 := by
          have := lst_le (List.getElem_mem (by omega : 9 < l.length))
          rw [e9] at this
          omega
        have hLn : L.length ≤ 65536 := Nat.le_trans (Nat.le_trans (len_le_encs L) (encs_le_enc L)) hL
        have hr : rdW ((It.rI l).g 9) = It.rI L := by rw [eg9]; rfl
        rw [em9, eg9]
        have e : dropSeq 0 (takeSeq 0 (dropSeq 8 dB)) = .block 0 (.loop (Go.Lh.loopBody Go.Proofs.Tryd.f52 0)) := by kernel_rfl
        rw [e]
        refine td_outer (hdC (It.rI l) (smallN ((It.rI l).b 0) ((It.rI l).s 0))) L ds hD hL (Loose.seq Loose.fin) (Carries.seq Carries.rfl) (fun i hi hx => rno fun h9 => hx ?_) (fun hall => ?_)
        · have := h9.2.2.2.1 i (by rw [em9]; exact hi)
          rw [hr] at this; exact this
        show Runs Pr _ _ (dropSeq 9 dB) _ _ _
        refine td_fin _ ds _ L.length ?_
        have ecc : (hdC (It.rI l) (smallN ((It.rI l).b 0) ((It.rI l).s 0))).txA (.isl 2 L.length (aF (acAW (It.rI L)))) = (txQ (It.rI l)).tx := by
          unfold txQ
          rw [em9, hr]; rfl
        rw [ecc]
        have han : (txQ (It.rI l)).an ≤ most40 := by
          show (It.rI l).m 9 ≤ most40
          rw [em9, m40]; omega
        refine Runs.lastF (L := noLoopsT) OD3_sound mixed noLoops_all (by kernel_rfl) Loose.fin Carries.rfl (tde_x (txQ (It.rI l))) ?_
        generalize hc : txQ (It.rI l) = cc at han
        refine wp_chk.2 ⟨?_, wp_br.2 ⟨fun h5 => wp_chk_true.2 (wp_leaf.2 ⟨trivial, .inr (.inr (no fun hx => ?_))⟩), fun h5 => wp_chk_true.2 (wp_leaf.2 ⟨trivial, .inr (.inr ?_)⟩)⟩⟩
        · rw [show txB0 (cmT cc.tk cc.tf cc.tt cc.tn cc.tg cc.tp cc.ti cc.tv cc.td cc.an (rda (aF cc.af)), aF cc.af) = true from @decide_eq_true _ (Classical.propDecidable _) ⟨rfl, han⟩]; rfl
        · have h6 := hx.2.2.2.2
          rw [hc] at h6
          have h5 : (!rgtB cc) = true := h5
          rw [rgtB_t h6] at h5; cases h5
        · have h5 : (!rgtB cc) = false := h5
          have h6 : rgtB cc = true := by cases hb : rgtB cc with | true => rfl | false => rw [hb] at h5; cases h5
          have hok : dOk (It.rI l) := ⟨⟨h1, h2⟩, h3, h4, fun i hi => by rw [hr]; exact hall i (by rw [em9] at hi; exact hi), by rw [hc]; exact rgtB_iff.1 h6⟩
          rw [ryes hok, hc]; rfl
def tdO (s : List B) : Bool := @decide (∃ c, txD s = some c) (Classical.propDecidable _)
def tdC (s : List B) : CM := @ite _ True (Classical.propDecidable True) ((txD s).getD (CM0 noT)) (CM0 noT)
theorem tdC_eq {s : List B} {c : CM} (h : txD s = some c) : tdC s = c := by unfold tdC; rw [if_pos trivial, h]; rfl
theorem tdO_t {s : List B} {c : CM} (h : txD s = some c) : tdO s = true := @decide_eq_true _ (Classical.propDecidable _) ⟨c, h⟩
theorem tdO_n {s : List B} (h : txD s = none) : tdO s = false := @decide_eq_false _ (Classical.propDecidable _) (by rw [h]; rintro ⟨c, e⟩; cases e)
def td_f (s : List B) : Tr (Fin × Heap) := .br (tdO s) (.leaf (.ret (.tup [.agg (tdC s).tx, .bool true]), [])) (.leaf nQ)
theorem td_ok : ∀ args h r, ((ctT readS td_f) args h).is r → LFn Pr 52 args h r.1 r.2 := by
  refine ctT_ok (fun s => [.str s]) (fun _ => []) ?_ (fun s r h => ?_)
  · intro args h a e
    unfold readS at e
    split at e <;> cases e
    exact ⟨rfl, rfl⟩
  · have h := br_is h
    subst h
    have H := td_fn s
    cases hc : txD s with
    | none => rw [hc] at H; rw [if_neg (by rw [tdO_n hc]; decide)]; exact H
    | some c => rw [hc] at H; rw [if_pos (tdO_t hc), tdC_eq hc]; exact H
end
end Go.Proofs.YtbgiickegljpoaaDoor.K
end
section
open Go Go.Lh
namespace Go.Proofs.YtbgiickegljpoaaDoor.K
noncomputable section
set_option maxRecDepth 100000
def csR : List V → Option (CM × (Nat → Nat → V)) := fun l => match l with
  | [.str nm, .str ad, .u64 n, .u64 ka, .u64 kb, .u64 kc, .u64 kd, .u64 va, .u64 vb, .u64 vc, .u64 vd, .str s, .int .i64 tk, .str tf, .str tt, .u64 tn, .u64 tg, .u64 pa, .u64 pb, .u64 pc, .u64 pd, .u64 ia, .u64 ib, .u64 ic, .u64 id, .u64 wa, .u64 wb, .u64 wc, .u64 wd, .str td, .isl 2 m F] => some (⟨nm, ad, n, ⟨ka, kb, kc, kd⟩, ⟨va, vb, vc, vd⟩, s, tk, tf, tt, tn, tg, ⟨pa, pb, pc, pd⟩, ⟨ia, ib, ic, id⟩, ⟨wa, wb, wc, wd⟩, td, m, rda F⟩, F)
  | [.str nm, .str ad, .u64 n, .u64 ka, .u64 kb, .u64 kc, .u64 kd, .u64 va, .u64 vb, .u64 vc, .u64 vd, .str s, .int .i64 tk, .str tf, .str tt, .u64 tn, .u64 tg, .u64 pa, .u64 pb, .u64 pc, .u64 pd, .u64 ia, .u64 ib, .u64 ic, .u64 id, .u64 wa, .u64 wb, .u64 wc, .u64 wd, .str td, .nilSl] => some (⟨nm, ad, n, ⟨ka, kb, kc, kd⟩, ⟨va, vb, vc, vd⟩, s, tk, tf, tt, tn, tg, ⟨pa, pb, pc, pd⟩, ⟨ia, ib, ic, id⟩, ⟨wa, wb, wc, wd⟩, td, 0, noA⟩, aF noA)
  | _ => none
def csR1 : List V → Option (CM × (Nat → Nat → V)) := fun l => match l with
  | [.str nm, .str ad, .u64 n, .u64 ka, .u64 kb, .u64 kc, .u64 kd, .u64 va, .u64 vb, .u64 vc, .u64 vd, .str s, .int .i64 tk, .str tf, .str tt, .u64 tn, .u64 tg, .u64 pa, .u64 pb, .u64 pc, .u64 pd, .u64 ia, .u64 ib, .u64 ic, .u64 id, .u64 wa, .u64 wb, .u64 wc, .u64 wd, .str td, .isl 2 m F] => some (⟨nm, ad, n, ⟨ka, kb, kc, kd⟩, ⟨va, vb, vc, vd⟩, s, tk, tf, tt, tn, tg, ⟨pa, pb, pc, pd⟩, ⟨ia, ib, ic, id⟩, ⟨wa, wb, wc, wd⟩, td, m, rda F⟩, F)
  | _ => none
theorem csR1_eq {l : List V} {a : CM × (Nat → Nat → V)} (e : csR1 l = some a) (h : a.2 = aF a.1.af) : l = a.1.cs := by
  unfold csR1 at e
  split at e <;> cases e
  simp only at h
  unfold CM.cs
  simp only
  rw [← h]
theorem csR_wk {l : List V} {a : CM × (Nat → Nat → V)} (e : csR l = some a) (h : a.2 = aF a.1.af) : Wks l a.1.cs := by
  unfold csR at e
  split at e
  · cases e
    simp only at h
    unfold CM.cs
    simp only
    rw [← h]; exact Wks.rfl
  · cases e
    unfold CM.cs
    simp only
    repeat (first | exact .cons (.nil _ _) .nil | refine .cons (.refl _) ?_)
  · cases e
structure BA where
  f : List B
  c : CM
  F : Nat → Nat → V
def ba_read : List V → Heap → Option BA := fun a h => match a, h with
  | [.ptr 0 0, .str f], [.vals l] => (match csR1 l with
    | some (c, F) => some ⟨f, c, F⟩
    | none => none)
  | _, _ => none
def okBa (a : BA) : Prop := (a.f = f_t ∨ a.f = f_n ∨ a.f = f_a ∨ a.f = f_ak ∨ a.f = f_av ∨ a.f = f_an ∨ a.f = f_as ∨ a.f = f_akv ∨ a.f = f_e ∨ a.f = f_s) ∧ okC a.c ∧ a.F = aF a.c.af
def okBaB (a : BA) : Bool := @decide (okBa a) (Classical.propDecidable _)
def ba_f (a : BA) : Tr (Fin × Heap) := .chk (okBaB a) (.leaf (.ret (.bool (bareB a.f a.c)), [.vals a.c.cs]))
theorem ba_ok : ∀ args h r, ((ctT ba_read ba_f) args h).is r → LFn Pr 12 args h r.1 r.2 := by
  intro args h r hr
  unfold ctT at hr
  split at hr
  · rename_i a e
    rw [ba_f, Tr.is_chk, Tr.is_leaf] at hr
    obtain ⟨h1, rfl⟩ := hr
    obtain ⟨h2, h3, h4⟩ : okBa a := @of_decide_eq_true _ (Classical.propDecidable _) h1
    unfold ba_read at e
    split at e
    · split at e
      · rename_i f l c F e2
        cases e
        simp only at h2 h3 h4
        obtain rfl := csR1_eq e2 h4
        simp only
        rcases h2 with rfl | rfl | rfl | rfl | rfl | rfl | rfl | rfl | rfl | rfl
        · exact bare_t c h3
        · exact bare_n c h3
        · exact bare_a c h3
        · exact bare_ak c h3
        · exact bare_av c h3
        · exact bare_an c h3
        · exact bare_as c h3
        · exact bare_akv c h3
        · exact bare_e c h3
        · exact bare_s c h3
      · cases e
    · cases e
  · exact (Tr.is_no.1 hr).elim
def fkP (f s : List B) : Prop := lookS fieldsL s = f ∧ hasS fieldsL s = true
def fkB (f s : List B) : Bool := @decide (fkP f s) (Classical.propDecidable _)
def fk_f (f : List B) (s : List B) : Tr (Fin × Heap) := .chk (fkB f s) (.leaf (.ret (.tup [.str f, .bool true]), []))
theorem fk_ok (f : List B) : ∀ args h r, ((ctT readS (fk_f f)) args h).is r → LFn Pr 10 args h r.1 r.2 := by
  refine ctT_ok (fun s => [.str s]) (fun _ => []) ?_ (fun a r h => ?_)
  · intro args h a e
    unfold readS at e
    split at e <;> cases e
    exact ⟨rfl, rfl⟩
  · rw [fk_f, Tr.is_chk, Tr.is_leaf] at h
    obtain ⟨h1, rfl⟩ := h
    obtain ⟨h2, h3⟩ : fkP f a := @of_decide_eq_true _ (Classical.propDecidable _) h1
    have := fields_fn a
    rw [h2, h3] at this
    exact this
def KEn (f : List B) : KnownT := (10, ctT readS (fk_f f)) :: (12, ctT ba_read ba_f) :: (13, pu_g) :: (42, old bytes_g) :: (16, ctT lt_read lt_f) :: (15, ctT en_read en_f) :: (43, ctT tx_read te_f) :: KR5
theorem KEn_ok (f : List B) : KOkT Pr (KEn f) := KOkT.cons (Enters.of (fn := Go.Proofs.Tryd.f10) (by kernel_rfl) (by kernel_rfl)) (fk_ok f) (KOkT.cons (Enters.of (fn := Go.Proofs.Tryd.f12) (by kernel_rfl) (by kernel_rfl)) ba_ok (KOkT.cons (Enters.of (fn := Go.Proofs.Tryd.f13) (by kernel_rfl) (by kernel_rfl)) pu_ok (KOkT.cons bytes_en (old_ok (ctW_ok bytes_fn)) (KOkT.cons (Enters.of (fn := Go.Proofs.Tryd.f16) (by kernel_rfl) (by kernel_rfl)) lt_ok (KOkT.cons (Enters.of (fn := Go.Proofs.Tryd.f15) (by kernel_rfl) (by kernel_rfl)) en_ok (KOkT.cons (Enters.of (fn := Go.Proofs.Tryd.f43) (by kernel_rfl) (by kernel_rfl)) te_ok KR5_ok))))))
def OEn (f : List B) : OrcT := autoT Pr ext (KEn f) [14,41,22,23,24,25,26,27] 3
theorem OEn_sound (f : List B) : OrcSound Pr (OEn f).o := autoT_sound mixed ext_ok (KEn_ok f) (by kernel_rfl) 3
theorem en_t_x (c : CM) : Tr.prune ((Tr.Sh.any.both (Tr.Sh.any.r.r.both Tr.Sh.any.l).l).r.r.r)
 (execBF Pr (OEn f_t) noLoopsT (100 : Nat) Go.Proofs.Tryd.f8 [V.agg c.cs] []) =
 Tr.chk
 (fkB f_t c.nm && true && true &&
 (okBaB
 (BA.mk f_t c
 (aF c.af)) &&
 true))
 (Tr.br
 (!bareB f_t c)
 (Tr.chk true (Tr.leaf (Fin.ret (V.tup [V.str (bytesOf (ByteArray.mk #[])), V.bool false]), [])))
 (Tr.chk
 (txB0 (c, aF c.af))
 (Tr.br (rgtB c)
 (Tr.chk
 (okVB
 (V.agg
 [V.bool true, V.str [],
 V.isl (3 : Nat) (2 : Nat)
 (rwF
 (rowT
 [c.nm,
 txS
 c]))]) &&
 true &&
 true)
 (Tr.leaf
 (Fin.ret
 (V.tup
 [V.str
 (encV
 (V.agg
 [V.bool true, V.str [],
 V.isl (3 : Nat) (2 : Nat)
 (rwF
 (rowT
 [c.nm,
 txS
 c]))])),
 V.bool true]),
 [])))
 (Tr.chk true
 (Tr.leaf (Fin.ret (V.tup [V.str (bytesOf (ByteArray.mk #[])), V.bool false]), [])))))) := by kernel_rfl
theorem en_n_x (c : CM) : Tr.prune ((Tr.Sh.any.both Tr.Sh.any.r.r.l).r.r.r)
 (execBF Pr (OEn f_n) noLoopsT (100 : Nat) Go.Proofs.Tryd.f8 [V.agg c.cs] []) =
 Tr.chk
 (fkB f_n c.nm && true && true &&
 (okBaB
 (BA.mk f_n c
 (aF c.af)) &&
 true))
 (Tr.br
 (!bareB f_n c)
 (Tr.chk true (Tr.leaf (Fin.ret (V.tup [V.str (bytesOf (ByteArray.mk #[])), V.bool false]), [])))
 (Tr.chk
 (okVB (V.agg [V.bool true, V.str [], V.isl (3 : Nat) (2 : Nat) (rwF (rowT [c.nm, numB c.n]))]) && true && true)
 (Tr.leaf
 (Fin.ret
 (V.tup
 [V.str (encV (V.agg [V.bool true, V.str [], V.isl (3 : Nat) (2 : Nat) (rwF (rowT [c.nm, numB c.n]))])),
 V.bool true]),
 [])))) := by kernel_rfl
theorem en_a_x (c : CM) : Tr.prune ((Tr.Sh.any.both (Tr.Sh.any.both Tr.Sh.any.r).l).r.r.r)
 (execBF Pr (OEn f_a) noLoopsT (100 : Nat) Go.Proofs.Tryd.f8 [V.agg c.cs] []) =
 Tr.chk
 (fkB f_a c.nm && true && true &&
 (okBaB
 (BA.mk f_a c
 (aF c.af)) &&
 true))
 (Tr.br
 (!bareB f_a c)
 (Tr.chk true (Tr.leaf (Fin.ret (V.tup [V.str (bytesOf (ByteArray.mk #[])), V.bool false]), [])))
 (Tr.chk true
 (Tr.br (!(↑c.ad.length : Int) == (20 : Int))
 (Tr.chk true (Tr.leaf (Fin.ret (V.tup [V.str (bytesOf (ByteArray.mk #[])), V.bool false]), [])))
 (Tr.chk
 (okVB (V.agg [V.bool true, V.str [], V.isl (3 : Nat) (2 : Nat) (rwF (rowT [c.nm, c.ad]))]) && true && true)
 (Tr.leaf
 (Fin.ret
 (V.tup
 [V.str (encV (V.agg [V.bool true, V.str [], V.isl (3 : Nat) (2 : Nat) (rwF (rowT [c.nm, c.ad]))])),
 V.bool true]),
 [])))))) := by kernel_rfl
theorem en_ak_x (c : CM) : Tr.prune ((Tr.Sh.any.both (Tr.Sh.any.both Tr.Sh.any.r.r.l).l).r.r.r)
 (execBF Pr (OEn f_ak) noLoopsT (100 : Nat) Go.Proofs.Tryd.f8 [V.agg c.cs] []) =
 Tr.chk
 (fkB f_ak c.nm && true && true &&
 (okBaB
 (BA.mk f_ak c
 (aF c.af)) &&
 true))
 (Tr.br
 (!bareB f_ak c)
 (Tr.chk true (Tr.leaf (Fin.ret (V.tup [V.str (bytesOf (ByteArray.mk #[])), V.bool false]), [])))
 (Tr.chk true
 (Tr.br (!(↑c.ad.length : Int) == (20 : Int))
 (Tr.chk true (Tr.leaf (Fin.ret (V.tup [V.str (bytesOf (ByteArray.mk #[])), V.bool false]), [])))
 (Tr.chk
 ((List.take (3 : Nat)
 (setCells
 (List.replicate (1 : Nat) [V.bool false, V.str (bytesOf (ByteArray.mk #[])), V.nilSl]).flatten
 (0 : Nat) [V.bool false, V.str c.k.bytes, V.nilSl])).all
 V.one &&
 true &&
 true &&
 true &&
 (okVB (V.agg [V.bool true, V.str [], V.isl (3 : Nat) (3 : Nat) (rwF (rowT [c.nm, c.ad, c.k.bytes]))]) &&
 true &&
 true))
 (Tr.leaf
 (Fin.ret
 (V.tup
 [V.str
 (encV
 (V.agg
 [V.bool true, V.str [], V.isl (3 : Nat) (3 : Nat) (rwF (rowT [c.nm, c.ad, c.k.bytes]))])),
 V.bool true]),
 [])))))) := by kernel_rfl
theorem en_av_x (c : CM) : Tr.prune ((Tr.Sh.any.both (Tr.Sh.any.both Tr.Sh.any.r.r.l).l).r.r.r)
 (execBF Pr (OEn f_av) noLoopsT (100 : Nat) Go.Proofs.Tryd.f8 [V.agg c.cs] []) =
 Tr.chk
 (fkB f_av c.nm && true && true &&
 (okBaB
 (BA.mk f_av c
 (aF c.af)) &&
 true))
 (Tr.br
 (!bareB f_av c)
 (Tr.chk true (Tr.leaf (Fin.ret (V.tup [V.str (bytesOf (ByteArray.mk #[])), V.bool false]), [])))
 (Tr.chk true
 (Tr.br (!(↑c.ad.length : Int) == (20 : Int))
 (Tr.chk true (Tr.leaf (Fin.ret (V.tup [V.str (bytesOf (ByteArray.mk #[])), V.bool false]), [])))
 (Tr.chk
 ((List.take (3 : Nat)
 (setCells
 (List.replicate (1 : Nat) [V.bool false, V.str (bytesOf (ByteArray.mk #[])), V.nilSl]).flatten
 (0 : Nat) [V.bool false, V.str c.v.bytes, V.nilSl])).all
 V.one &&
 true &&
 true &&
 true &&
 (okVB (V.agg [V.bool true, V.str [], V.isl (3 : Nat) (3 : Nat) (rwF (rowT [c.nm, c.ad, c.v.bytes]))]) &&
 true &&
 true))
 (Tr.leaf
 (Fin.ret
 (V.tup
 [V.str
 (encV
 (V.agg
 [V.bool true, V.str [], V.isl (3 : Nat) (3 : Nat) (rwF (rowT [c.nm, c.ad, c.v.bytes]))])),
 V.bool true]),
 [])))))) := by kernel_rfl
theorem en_an_x (c : CM) : Tr.prune ((Tr.Sh.any.both (Tr.Sh.any.both Tr.Sh.any.r.r.l).l).r.r.r)
 (execBF Pr (OEn f_an) noLoopsT (100 : Nat) Go.Proofs.Tryd.f8 [V.agg c.cs] []) =
 Tr.chk
 (fkB f_an c.nm && true && true &&
 (okBaB
 (BA.mk f_an c
 (aF c.af)) &&
 true))
 (Tr.br
 (!bareB f_an c)
 (Tr.chk true (Tr.leaf (Fin.ret (V.tup [V.str (bytesOf (ByteArray.mk #[])), V.bool false]), [])))
 (Tr.chk true
 (Tr.br (!(↑c.ad.length : Int) == (20 : Int))
 (Tr.chk true (Tr.leaf (Fin.ret (V.tup [V.str (bytesOf (ByteArray.mk #[])), V.bool false]), [])))
 (Tr.chk
 ((List.take (3 : Nat)
 (setCells
 (List.replicate (1 : Nat) [V.bool false, V.str (bytesOf (ByteArray.mk #[])), V.nilSl]).flatten
 (0 : Nat) [V.bool false, V.str (numB c.n), V.nilSl])).all
 V.one &&
 true &&
 true &&
 true &&
 (okVB (V.agg [V.bool true, V.str [], V.isl (3 : Nat) (3 : Nat) (rwF (rowT [c.nm, c.ad, numB c.n]))]) &&
 true &&
 true))
 (Tr.leaf
 (Fin.ret
 (V.tup
 [V.str
 (encV
 (V.agg [V.bool true, V.str [], V.isl (3 : Nat) (3 : Nat) (rwF (rowT [c.nm, c.ad, numB c.n]))])),
 V.bool true]),
 [])))))) := by kernel_rfl
theorem en_as_x (c : CM) : Tr.prune ((Tr.Sh.any.both (Tr.Sh.any.both (Tr.Sh.any.both Tr.Sh.any.r).l).l).r.r.r)
 (execBF Pr (OEn f_as) noLoopsT (100 : Nat) Go.Proofs.Tryd.f8 [V.agg c.cs] []) =
 Tr.chk
 (fkB f_as c.nm && true && true &&
 (okBaB
 (BA.mk f_as c
 (aF c.af)) &&
 true))
 (Tr.br
 (!bareB f_as c)
 (Tr.chk true (Tr.leaf (Fin.ret (V.tup [V.str (bytesOf (ByteArray.mk #[])), V.bool false]), [])))
 (Tr.chk true
 (Tr.br (!(↑c.ad.length : Int) == (20 : Int))
 (Tr.chk true (Tr.leaf (Fin.ret (V.tup [V.str (bytesOf (ByteArray.mk #[])), V.bool false]), [])))
 (Tr.chk true
 (Tr.br (!decide ((↑c.s.length : Int) ≤ (32768 : Int)))
 (Tr.chk true (Tr.leaf (Fin.ret (V.tup [V.str (bytesOf (ByteArray.mk #[])), V.bool false]), [])))
 (Tr.chk
 ((List.take (3 : Nat)
 (setCells
 (List.replicate (1 : Nat)
 [V.bool false, V.str (bytesOf (ByteArray.mk #[])), V.nilSl]).flatten
 (0 : Nat) [V.bool false, V.str c.s, V.nilSl])).all
 V.one &&
 true &&
 true &&
 true &&
 (okVB (V.agg [V.bool true, V.str [], V.isl (3 : Nat) (3 : Nat) (rwF (rowT [c.nm, c.ad, c.s]))]) &&
 true &&
 true))
 (Tr.leaf
 (Fin.ret
 (V.tup
 [V.str
 (encV
 (V.agg [V.bool true, V.str [], V.isl (3 : Nat) (3 : Nat) (rwF (rowT [c.nm, c.ad, c.s]))])),
 V.bool true]),
 [])))))))) := by kernel_rfl
theorem en_akv_x (c : CM) : Tr.prune ((Tr.Sh.any.both (Tr.Sh.any.both Tr.Sh.any.r.r.l.r.l).l).r.r.r)
 (execBF Pr (OEn f_akv) noLoopsT (100 : Nat) Go.Proofs.Tryd.f8 [V.agg c.cs] []) =
 Tr.chk
 (fkB f_akv c.nm && true && true &&
 (okBaB
 (BA.mk f_akv c
 (aF c.af)) &&
 true))
 (Tr.br
 (!bareB f_akv c)
 (Tr.chk true (Tr.leaf (Fin.ret (V.tup [V.str (bytesOf (ByteArray.mk #[])), V.bool false]), [])))
 (Tr.chk true
 (Tr.br (!(↑c.ad.length : Int) == (20 : Int))
 (Tr.chk true (Tr.leaf (Fin.ret (V.tup [V.str (bytesOf (ByteArray.mk #[])), V.bool false]), [])))
 (Tr.chk
 ((List.take (3 : Nat)
 (setCells
 (List.replicate (1 : Nat) [V.bool false, V.str (bytesOf (ByteArray.mk #[])), V.nilSl]).flatten
 (0 : Nat) [V.bool false, V.str c.k.bytes, V.nilSl])).all
 V.one &&
 true &&
 true &&
 true &&
 ((List.take (3 : Nat)
 (setCells
 (List.replicate (1 : Nat)
 [V.bool false, V.str (bytesOf (ByteArray.mk #[])), V.nilSl]).flatten
 (0 : Nat) [V.bool false, V.str c.v.bytes, V.nilSl])).all
 V.one &&
 true &&
 true &&
 true &&
 (okVB
 (V.agg
 [V.bool true, V.str [],
 V.isl (3 : Nat) (4 : Nat) (rwF (rowT [c.nm, c.ad, c.k.bytes, c.v.bytes]))]) &&
 true &&
 true)))
 (Tr.leaf
 (Fin.ret
 (V.tup
 [V.str
 (encV
 (V.agg
 [V.bool true, V.str [],
 V.isl (3 : Nat) (4 : Nat) (rwF (rowT [c.nm, c.ad, c.k.bytes, c.v.bytes]))])),
 V.bool true]),
 [])))))) := by kernel_rfl
theorem en_e_x (c : CM) : Tr.prune ((Tr.Sh.any.both Tr.Sh.any.r).r.r.r)
 (execBF Pr (OEn f_e) noLoopsT (100 : Nat) Go.Proofs.Tryd.f8 [V.agg c.cs] []) =
 Tr.chk
 (fkB f_e c.nm && true && true &&
 (okBaB
 (BA.mk f_e c
 (aF c.af)) &&
 true))
 (Tr.br
 (!bareB f_e c)
 (Tr.chk true (Tr.leaf (Fin.ret (V.tup [V.str (bytesOf (ByteArray.mk #[])), V.bool false]), [])))
 (Tr.chk (okVB (V.agg [V.bool true, V.str [], V.isl (3 : Nat) (1 : Nat) (rwF (rowT [c.nm]))]) && true && true)
 (Tr.leaf
 (Fin.ret
 (V.tup
 [V.str (encV (V.agg [V.bool true, V.str [], V.isl (3 : Nat) (1 : Nat) (rwF (rowT [c.nm]))])),
 V.bool true]),
 [])))) := by kernel_rfl
theorem en_s_x (c : CM) : Tr.prune ((Tr.Sh.any.both (Tr.Sh.any.both Tr.Sh.any.r).l).r.r.r)
 (execBF Pr (OEn f_s) noLoopsT (100 : Nat) Go.Proofs.Tryd.f8 [V.agg c.cs] []) =
 Tr.chk
 (fkB f_s c.nm && true && true &&
 (okBaB
 (BA.mk f_s c
 (aF c.af)) &&
 true))
 (Tr.br
 (!bareB f_s c)
 (Tr.chk true (Tr.leaf (Fin.ret (V.tup [V.str (bytesOf (ByteArray.mk #[])), V.bool false]), [])))
 (Tr.chk true
 (Tr.br (!decide ((↑c.s.length : Int) ≤ (32768 : Int)))
 (Tr.chk true (Tr.leaf (Fin.ret (V.tup [V.str (bytesOf (ByteArray.mk #[])), V.bool false]), [])))
 (Tr.chk
 (okVB (V.agg [V.bool true, V.str [], V.isl (3 : Nat) (2 : Nat) (rwF (rowT [c.nm, c.s]))]) && true && true)
 (Tr.leaf
 (Fin.ret
 (V.tup
 [V.str (encV (V.agg [V.bool true, V.str [], V.isl (3 : Nat) (2 : Nat) (rwF (rowT [c.nm, c.s]))])),
 V.bool true]),
 [])))))) := by kernel_rfl
end
end Go.Proofs.YtbgiickegljpoaaDoor.K
end
section
open Go Go.Lh
namespace Go.Proofs.YtbgiickegljpoaaDoor.K
noncomputable section
set_option maxRecDepth 100000
def okP (c : CM) (x : B) : Bool := bif Nat.beq x.toNat 97 then (c.ad.length : Int) == (20 : Int) else bif Nat.beq x.toNat 115 then decide ((c.s.length : Int) ≤ (32768 : Int)) else bif Nat.beq x.toNat 116 then rgtB c else true
def txP (c : CM) (x : B) : List B := bif Nat.beq x.toNat 97 then c.ad else bif Nat.beq x.toNat 110 then numB c.n else bif Nat.beq x.toNat 107 then c.k.bytes else bif Nat.beq x.toNat 118 then c.v.bytes else bif Nat.beq x.toNat 116 then txS c else c.s
def eok (f : List B) (c : CM) : Bool := bareB f c && f.all (okP c)
def eTs (f : List B) (c : CM) : List (List B) := c.nm :: f.map (txP c)
def eIt (f : List B) (c : CM) : It := .lst ((eTs f c).map .txt)
def eS (f : List B) (c : CM) : List B := @ite _ True (Classical.propDecidable True) (enc (eIt f c)) []
theorem eS_eq (f : List B) (c : CM) : eS f c = enc (eIt f c) := if_pos trivial
def eV (f : List B) (c : CM) : Fin := if eok f c = true then .ret (.tup [.str (eS f c), .bool true]) else .ret (.tup [.str [], .bool false])
theorem is_ls (xs : List (List B)) : isIt (nrm (lsV xs.length (rowT xs))) (.lst (xs.map .txt)) := by
  have h : isIt (.agg [.bool true, .str [], .isl 3 (xs.map It.txt).length (rwF (rowT xs))]) (.lst (xs.map .txt)) := by
    refine .lst (rowT xs) (xs.map .txt) fun i hi => ?_
    have hi' : i < xs.length := by simpa using hi
    have e : (rowT xs).at i = .agg [.bool false, .str xs[i], .isl 3 0 (fun _ _ => .any)] := by
      show V.agg [.bool false, .str (xs.getD i []), .isl 3 0 (fun _ _ => .any)] = _
      rw [List.getD_eq_getElem?_getD, List.getElem?_eq_getElem hi']; rfl
    rw [e, List.getElem_map]
    exact .txt _ _
  rw [List.length_map] at h
  exact h
theorem lst_len (xs : List (List B)) : (enc (.lst (xs.map .txt))).length ≤ (xs.map fun x => x.length + 9).sum + 9 := by
  rw [enc_lst, List.length_append]
  have := txts_len xs
  have := headO_len 192#8 (encs (xs.map .txt)).length
  omega
theorem ok_ls {xs : List (List B)} (h : (xs.map fun x => x.length + 9).sum ≤ 1000000) : okVB (lsV xs.length (rowT xs)) = true := by
  refine @decide_eq_true _ (Classical.propDecidable _) ⟨⟨_, is_ls xs⟩, ?_⟩
  rw [encV_eq (is_ls xs)]
  have := lst_len xs
  have : most40 = 1099511627776 := rfl
  omega
theorem hasS_mem : ∀ {es : List (List B × List B)} {s : List B}, hasS es s = true → ∃ p, p ∈ es ∧ p.1 = s ∧ lookS es s = p.2
  | [], s, h => by cases h
  | (k, v) :: r, s, h => by
    unfold hasS at h
    unfold lookS
    cases he : eqB k s with
    | true => exact ⟨(k, v), by simp, eqB_iff.1 he, rfl⟩
    | false =>
      rw [he] at h
      obtain ⟨p, h1, h2, h3⟩ := hasS_mem (es := r) h
      exact ⟨p, by simp [h1], h2, h3⟩
theorem names_len : ∀ p ∈ fieldsL, p.1.length ≤ 11 := by decide
theorem fk_len {f s : List B} (h : fkP f s) : s.length ≤ 11 := by
  obtain ⟨p, h1, h2, _⟩ := hasS_mem h.2
  rw [← h2]; exact names_len p h1
theorem fkB_t {f s : List B} (h : fkP f s) : fkB f s = true := @decide_eq_true _ (Classical.propDecidable _) h
theorem okBa_t {a : BA} (h : okBa a) : okBaB a = true := @decide_eq_true _ (Classical.propDecidable _) h
theorem eok_n (c : CM) : eok f_n c = (bareB f_n c && true) := by kernel_rfl
theorem eTs_n (c : CM) : eTs f_n c = [c.nm, (numB c.n)] := by kernel_rfl
theorem enc_n (c : CM) (hn : fkP f_n c.nm) (hc : okC c) : LFn Pr 8 [.agg c.cs] [] (eV f_n c) [] := by
  have hnl := fk_len hn
  have hb : okBaB (BA.mk f_n c (aF c.af)) = true := okBa_t ⟨.inr (.inl rfl), hc, rfl⟩
  have no : eok f_n c = false → (fun r : Fin × Heap => r = (eV f_n c, [])) (.ret (.tup [.str (bytesOf (ByteArray.mk #[])), .bool false]), []) := by
    intro e
    unfold eV
    rw [if_neg (by rw [e]; decide)]; rfl
  have yes : eok f_n c = true → (fun r : Fin × Heap => r = (eV f_n c, [])) (.ret (.tup [.str (encV (lsV 2 (rowT [c.nm, (numB c.n)]))), .bool true]), []) := by
    intro e
    have e2 : encV (lsV 2 (rowT [c.nm, (numB c.n)])) = eS f_n c := by
      rw [eS_eq, eIt, eTs_n]; exact encV_eq (is_ls [c.nm, (numB c.n)])
    unfold eV
    rw [if_pos e, e2]
  rw [eok_n] at no yes
  refine fnT (OEn_sound f_n) mixed (by kernel_rfl) LoopsOk.noneT (en_n_x c) ?_
  refine wp_chk.2 ⟨by rw [fkB_t hn, hb]; rfl, wp_br.2 ⟨fun e0 => wp_chk_true.2 (wp_leaf.2 (no ?_)), fun e0 => wp_chk.2 ⟨?_, wp_leaf.2 (yes ?_)⟩⟩⟩
  · have h0 : bareB f_n c = false := by simpa using e0
    rw [h0]; rfl
  · have h0 : bareB f_n c = true := by simpa using e0
    have a0 := numB_len8 c.n
    have a1 := W4.bytes_length c.k
    have a2 := W4.bytes_length c.v
    have hq : okVB (lsV 2 (rowT [c.nm, (numB c.n)])) = true := ok_ls (xs := [c.nm, (numB c.n)]) (by simp only [List.map_cons, List.map_nil, List.sum_cons, List.sum_nil]; omega)
    have hq' : okVB (V.agg [V.bool true, V.str [], V.isl (3 : Nat) (2 : Nat) (rwF (rowT [c.nm, (numB c.n)]))]) = true := hq
    rw [hq']; rfl
  · have h0 : bareB f_n c = true := by simpa using e0
    rw [h0]; rfl
theorem eok_a (c : CM) : eok f_a c = (bareB f_a c && (((c.ad.length : Int) == (20 : Int)) && true)) := by kernel_rfl
theorem eTs_a (c : CM) : eTs f_a c = [c.nm, c.ad] := by kernel_rfl
theorem enc_a (c : CM) (hn : fkP f_a c.nm) (hc : okC c) : LFn Pr 8 [.agg c.cs] [] (eV f_a c) [] := by
  have hnl := fk_len hn
  have hb : okBaB (BA.mk f_a c (aF c.af)) = true := okBa_t ⟨.inr (.inr (.inl rfl)), hc, rfl⟩
  have no : eok f_a c = false → (fun r : Fin × Heap => r = (eV f_a c, [])) (.ret (.tup [.str (bytesOf (ByteArray.mk #[])), .bool false]), []) := by
    intro e
    unfold eV
    rw [if_neg (by rw [e]; decide)]; rfl
  have yes : eok f_a c = true → (fun r : Fin × Heap => r = (eV f_a c, [])) (.ret (.tup [.str (encV (lsV 2 (rowT [c.nm, c.ad]))), .bool true]), []) := by
    intro e
    have e2 : encV (lsV 2 (rowT [c.nm, c.ad])) = eS f_a c := by
      rw [eS_eq, eIt, eTs_a]; exact encV_eq (is_ls [c.nm, c.ad])
    unfold eV
    rw [if_pos e, e2]
  rw [eok_a] at no yes
  refine fnT (OEn_sound f_a) mixed (by kernel_rfl) LoopsOk.noneT (en_a_x c) ?_
  refine wp_chk.2 ⟨by rw [fkB_t hn, hb]; rfl, wp_br.2 ⟨fun e0 => wp_chk_true.2 (wp_leaf.2 (no ?_)), fun e0 => wp_chk_true.2 (wp_br.2 ⟨fun e1 => wp_chk_true.2 (wp_leaf.2 (no ?_)), fun e1 => wp_chk.2 ⟨?_, wp_leaf.2 (yes ?_)⟩⟩)⟩⟩
  · have h0 : bareB f_a c = false := by simpa using e0
    rw [h0]; rfl
  · have h0 : bareB f_a c = true := by simpa using e0
    have h1 : ((c.ad.length : Int) == (20 : Int)) = false := by simpa using e1
    rw [h0, h1]; rfl
  · have h0 : bareB f_a c = true := by simpa using e0
    have h1 : ((c.ad.length : Int) == (20 : Int)) = true := by simpa using e1
    have a0 := numB_len8 c.n
    have a1 := W4.bytes_length c.k
    have a2 := W4.bytes_length c.v
    have b0 : c.ad.length = 20 := by have := beq_iff_eq.1 h1; omega
    have hq : okVB (lsV 2 (rowT [c.nm, c.ad])) = true := ok_ls (xs := [c.nm, c.ad]) (by simp only [List.map_cons, List.map_nil, List.sum_cons, List.sum_nil]; omega)
    have hq' : okVB (V.agg [V.bool true, V.str [], V.isl (3 : Nat) (2 : Nat) (rwF (rowT [c.nm, c.ad]))]) = true := hq
    rw [hq']; rfl
  · have h0 : bareB f_a c = true := by simpa using e0
    have h1 : ((c.ad.length : Int) == (20 : Int)) = true := by simpa using e1
    rw [h0, h1]; rfl
theorem eok_ak (c : CM) : eok f_ak c = (bareB f_ak c && (((c.ad.length : Int) == (20 : Int)) && true)) := by kernel_rfl
theorem eTs_ak (c : CM) : eTs f_ak c = [c.nm, c.ad, c.k.bytes] := by kernel_rfl
theorem enc_ak (c : CM) (hn : fkP f_ak c.nm) (hc : okC c) : LFn Pr 8 [.agg c.cs] [] (eV f_ak c) [] := by
  have hnl := fk_len hn
  have hb : okBaB (BA.mk f_ak c (aF c.af)) = true := okBa_t ⟨.inr (.inr (.inr (.inl rfl))), hc, rfl⟩
  have no : eok f_ak c = false → (fun r : Fin × Heap => r = (eV f_ak c, [])) (.ret (.tup [.str (bytesOf (ByteArray.mk #[])), .bool false]), []) := by
    intro e
    unfold eV
    rw [if_neg (by rw [e]; decide)]; rfl
  have yes : eok f_ak c = true → (fun r : Fin × Heap => r = (eV f_ak c, [])) (.ret (.tup [.str (encV (lsV 3 (rowT [c.nm, c.ad, c.k.bytes]))), .bool true]), []) := by
    intro e
    have e2 : encV (lsV 3 (rowT [c.nm, c.ad, c.k.bytes])) = eS f_ak c := by
      rw [eS_eq, eIt, eTs_ak]; exact encV_eq (is_ls [c.nm, c.ad, c.k.bytes])
    unfold eV
    rw [if_pos e, e2]
  rw [eok_ak] at no yes
  refine fnT (OEn_sound f_ak) mixed (by kernel_rfl) LoopsOk.noneT (en_ak_x c) ?_
  refine wp_chk.2 ⟨by rw [fkB_t hn, hb]; rfl, wp_br.2 ⟨fun e0 => wp_chk_true.2 (wp_leaf.2 (no ?_)), fun e0 => wp_chk_true.2 (wp_br.2 ⟨fun e1 => wp_chk_true.2 (wp_leaf.2 (no ?_)), fun e1 => wp_chk.2 ⟨?_, wp_leaf.2 (yes ?_)⟩⟩)⟩⟩
  · have h0 : bareB f_ak c = false := by simpa using e0
    rw [h0]; rfl
  · have h0 : bareB f_ak c = true := by simpa using e0
    have h1 : ((c.ad.length : Int) == (20 : Int)) = false := by simpa using e1
    rw [h0, h1]; rfl
  · have h0 : bareB f_ak c = true := by simpa using e0
    have h1 : ((c.ad.length : Int) == (20 : Int)) = true := by simpa using e1
    have a0 := numB_len8 c.n
    have a1 := W4.bytes_length c.k
    have a2 := W4.bytes_length c.v
    have b0 : c.ad.length = 20 := by have := beq_iff_eq.1 h1; omega
    have hq : okVB (lsV 3 (rowT [c.nm, c.ad, c.k.bytes])) = true := ok_ls (xs := [c.nm, c.ad, c.k.bytes]) (by simp only [List.map_cons, List.map_nil, List.sum_cons, List.sum_nil]; omega)
    have hq' : okVB (V.agg [V.bool true, V.str [], V.isl (3 : Nat) (3 : Nat) (rwF (rowT [c.nm, c.ad, c.k.bytes]))]) = true := hq
    rw [hq']; rfl
  · have h0 : bareB f_ak c = true := by simpa using e0
    have h1 : ((c.ad.length : Int) == (20 : Int)) = true := by simpa using e1
    rw [h0, h1]; rfl
theorem eok_av (c : CM) : eok f_av c = (bareB f_av c && (((c.ad.length : Int) == (20 : Int)) && true)) := by kernel_rfl
theorem eTs_av (c : CM) : eTs f_av c = [c.nm, c.ad, c.v.bytes] := by kernel_rfl
theorem enc_av (c : CM) (hn : fkP f_av c.nm) (hc : okC c) : LFn Pr 8 [.agg c.cs] [] (eV f_av c) [] := by
  have hnl := fk_len hn
  have hb : okBaB (BA.mk f_av c (aF c.af)) = true := okBa_t ⟨.inr (.inr (.inr (.inr (.inl rfl)))), hc, rfl⟩
  have no : eok f_av c = false → (fun r : Fin × Heap => r = (eV f_av c, [])) (.ret (.tup [.str (bytesOf (ByteArray.mk #[])), .bool false]), []) := by
    intro e
    unfold eV
    rw [if_neg (by rw [e]; decide)]; rfl
  have yes : eok f_av c = true → (fun r : Fin × Heap => r = (eV f_av c, [])) (.ret (.tup [.str (encV (lsV 3 (rowT [c.nm, c.ad, c.v.bytes]))), .bool true]), []) := by
    intro e
    have e2 : encV (lsV 3 (rowT [c.nm, c.ad, c.v.bytes])) = eS f_av c := by
      rw [eS_eq, eIt, eTs_av]; exact encV_eq (is_ls [c.nm, c.ad, c.v.bytes])
    unfold eV
    rw [if_pos e, e2]
  rw [eok_av] at no yes
  refine fnT (OEn_sound f_av) mixed (by kernel_rfl) LoopsOk.noneT (en_av_x c) ?_
  refine wp_chk.2 ⟨by rw [fkB_t hn, hb]; rfl, wp_br.2 ⟨fun e0 => wp_chk_true.2 (wp_leaf.2 (no ?_)), fun e0 => wp_chk_true.2 (wp_br.2 ⟨fun e1 => wp_chk_true.2 (wp_leaf.2 (no ?_)), fun e1 => wp_chk.2 ⟨?_, wp_leaf.2 (yes ?_)⟩⟩)⟩⟩
  · have h0 : bareB f_av c = false := by simpa using e0
    rw [h0]; rfl
  · have h0 : bareB f_av c = true := by simpa using e0
    have h1 : ((c.ad.length : Int) == (20 : Int)) = false := by simpa using e1
    rw [h0, h1]; rfl
  · have h0 : bareB f_av c = true := by simpa using e0
    have h1 : ((c.ad.length : Int) == (20 : Int)) = true := by simpa using e1
    have a0 := numB_len8 c.n
    have a1 := W4.bytes_length c.k
    have a2 := W4.bytes_length c.v
    have b0 : c.ad.length = 20 := by have := beq_iff_eq.1 h1; omega
    have hq : okVB (lsV 3 (rowT [c.nm, c.ad, c.v.bytes])) = true := ok_ls (xs := [c.nm, c.ad, c.v.bytes]) (by simp only [List.map_cons, List.map_nil, List.sum_cons, List.sum_nil]; omega)
    have hq' : okVB (V.agg [V.bool true, V.str [], V.isl (3 : Nat) (3 : Nat) (rwF (rowT [c.nm, c.ad, c.v.bytes]))]) = true := hq
    rw [hq']; rfl
  · have h0 : bareB f_av c = true := by simpa using e0
    have h1 : ((c.ad.length : Int) == (20 : Int)) = true := by simpa using e1
    rw [h0, h1]; rfl
theorem eok_an (c : CM) : eok f_an c = (bareB f_an c && (((c.ad.length : Int) == (20 : Int)) && true)) := by kernel_rfl
theorem eTs_an (c : CM) : eTs f_an c = [c.nm, c.ad, (numB c.n)] := by kernel_rfl
theorem enc_an (c : CM) (hn : fkP f_an c.nm) (hc : okC c) : LFn Pr 8 [.agg c.cs] [] (eV f_an c) [] := by
  have hnl := fk_len hn
  have hb : okBaB (BA.mk f_an c (aF c.af)) = true := okBa_t ⟨.inr (.inr (.inr (.inr (.inr (.inl rfl))))), hc, rfl⟩
  have no : eok f_an c = false → (fun r : Fin × Heap => r = (eV f_an c, [])) (.ret (.tup [.str (bytesOf (ByteArray.mk #[])), .bool false]), []) := by
    intro e
    unfold eV
    rw [if_neg (by rw [e]; decide)]; rfl
  have yes : eok f_an c = true → (fun r : Fin × Heap => r = (eV f_an c, [])) (.ret (.tup [.str (encV (lsV 3 (rowT [c.nm, c.ad, (numB c.n)]))), .bool true]), []) := by
    intro e
    have e2 : encV (lsV 3 (rowT [c.nm, c.ad, (numB c.n)])) = eS f_an c := by
      rw [eS_eq, eIt, eTs_an]; exact encV_eq (is_ls [c.nm, c.ad, (numB c.n)])
    unfold eV
    rw [if_pos e, e2]
  rw [eok_an] at no yes
  refine fnT (OEn_sound f_an) mixed (by kernel_rfl) LoopsOk.noneT (en_an_x c) ?_
  refine wp_chk.2 ⟨by rw [fkB_t hn, hb]; rfl, wp_br.2 ⟨fun e0 => wp_chk_true.2 (wp_leaf.2 (no ?_)), fun e0 => wp_chk_true.2 (wp_br.2 ⟨fun e1 => wp_chk_true.2 (wp_leaf.2 (no ?_)), fun e1 => wp_chk.2 ⟨?_, wp_leaf.2 (yes ?_)⟩⟩)⟩⟩
  · have h0 : bareB f_an c = false := by simpa using e0
    rw [h0]; rfl
  · have h0 : bareB f_an c = true := by simpa using e0
    have h1 : ((c.ad.length : Int) == (20 : Int)) = false := by simpa using e1
    rw [h0, h1]; rfl
  · have h0 : bareB f_an c = true := by simpa using e0
    have h1 : ((c.ad.length : Int) == (20 : Int)) = true := by simpa using e1
    have a0 := numB_len8 c.n
    have a1 := W4.bytes_length c.k
    have a2 := W4.bytes_length c.v
    have b0 : c.ad.length = 20 := by have := beq_iff_eq.1 h1; omega
    have hq : okVB (lsV 3 (rowT [c.nm, c.ad, (numB c.n)])) = true := ok_ls (xs := [c.nm, c.ad, (numB c.n)]) (by simp only [List.map_cons, List.map_nil, List.sum_cons, List.sum_nil]; omega)
    have hq' : okVB (V.agg [V.bool true, V.str [], V.isl (3 : Nat) (3 : Nat) (rwF (rowT [c.nm, c.ad, (numB c.n)]))]) = true := hq
    rw [hq']; rfl
  · have h0 : bareB f_an c = true := by simpa using e0
    have h1 : ((c.ad.length : Int) == (20 : Int)) = true := by simpa using e1
    rw [h0, h1]; rfl
theorem eok_as (c : CM) : eok f_as c = (bareB f_as c && (((c.ad.length : Int) == (20 : Int)) && ((decide ((c.s.length : Int) ≤ (32768 : Int))) && true))) := by kernel_rfl
theorem eTs_as (c : CM) : eTs f_as c = [c.nm, c.ad, c.s] := by kernel_rfl
theorem enc_as (c : CM) (hn : fkP f_as c.nm) (hc : okC c) : LFn Pr 8 [.agg c.cs] [] (eV f_as c) [] := by
  have hnl := fk_len hn
  have hb : okBaB (BA.mk f_as c (aF c.af)) = true := okBa_t ⟨.inr (.inr (.inr (.inr (.inr (.inr (.inl rfl)))))), hc, rfl⟩
  have no : eok f_as c = false → (fun r : Fin × Heap => r = (eV f_as c, [])) (.ret (.tup [.str (bytesOf (ByteArray.mk #[])), .bool false]), []) := by
    intro e
    unfold eV
    rw [if_neg (by rw [e]; decide)]; rfl
  have yes : eok f_as c = true → (fun r : Fin × Heap => r = (eV f_as c, [])) (.ret (.tup [.str (encV (lsV 3 (rowT [c.nm, c.ad, c.s]))), .bool true]), []) := by
    intro e
    have e2 : encV (lsV 3 (rowT [c.nm, c.ad, c.s])) = eS f_as c := by
      rw [eS_eq, eIt, eTs_as]; exact encV_eq (is_ls [c.nm, c.ad, c.s])
    unfold eV
    rw [if_pos e, e2]
  rw [eok_as] at no yes
  refine fnT (OEn_sound f_as) mixed (by kernel_rfl) LoopsOk.noneT (en_as_x c) ?_
  refine wp_chk.2 ⟨by rw [fkB_t hn, hb]; rfl, wp_br.2 ⟨fun e0 => wp_chk_true.2 (wp_leaf.2 (no ?_)), fun e0 => wp_chk_true.2 (wp_br.2 ⟨fun e1 => wp_chk_true.2 (wp_leaf.2 (no ?_)), fun e1 => wp_chk_true.2 (wp_br.2 ⟨fun e2 => wp_chk_true.2 (wp_leaf.2 (no ?_)), fun e2 => wp_chk.2 ⟨?_, wp_leaf.2 (yes ?_)⟩⟩)⟩)⟩⟩
  · have h0 : bareB f_as c = false := by simpa using e0
    rw [h0]; rfl
  · have h0 : bareB f_as c = true := by simpa using e0
    have h1 : ((c.ad.length : Int) == (20 : Int)) = false := by simpa using e1
    rw [h0, h1]; rfl
  · have h0 : bareB f_as c = true := by simpa using e0
    have h1 : ((c.ad.length : Int) == (20 : Int)) = true := by simpa using e1
    have h2 : (decide ((c.s.length : Int) ≤ (32768 : Int))) = false := by simpa using e2
    rw [h0, h1, h2]; rfl
  · have h0 : bareB f_as c = true := by simpa using e0
    have h1 : ((c.ad.length : Int) == (20 : Int)) = true := by simpa using e1
    have h2 : (decide ((c.s.length : Int) ≤ (32768 : Int))) = true := by simpa using e2
    have a0 := numB_len8 c.n
    have a1 := W4.bytes_length c.k
    have a2 := W4.bytes_length c.v
    have b0 : c.ad.length = 20 := by have := beq_iff_eq.1 h1; omega
    have b1 : c.s.length ≤ 32768 := by have := of_decide_eq_true h2; omega
    have hq : okVB (lsV 3 (rowT [c.nm, c.ad, c.s])) = true := ok_ls (xs := [c.nm, c.ad, c.s]) (by simp only [List.map_cons, List.map_nil, List.sum_cons, List.sum_nil]; omega)
    have hq' : okVB (V.agg [V.bool true, V.str [], V.isl (3 : Nat) (3 : Nat) (rwF (rowT [c.nm, c.ad, c.s]))]) = true := hq
    rw [hq']; rfl
  · have h0 : bareB f_as c = true := by simpa using e0
    have h1 : ((c.ad.length : Int) == (20 : Int)) = true := by simpa using e1
    have h2 : (decide ((c.s.length : Int) ≤ (32768 : Int))) = true := by simpa using e2
    rw [h0, h1, h2]; rfl
theorem eok_akv (c : CM) : eok f_akv c = (bareB f_akv c && (((c.ad.length : Int) == (20 : Int)) && true)) := by kernel_rfl
theorem eTs_akv (c : CM) : eTs f_akv c = [c.nm, c.ad, c.k.bytes, c.v.bytes] := by kernel_rfl
theorem enc_akv (c : CM) (hn : fkP f_akv c.nm) (hc : okC c) : LFn Pr 8 [.agg c.cs] [] (eV f_akv c) [] := by
  have hnl := fk_len hn
  have hb : okBaB (BA.mk f_akv c (aF c.af)) = true := okBa_t ⟨.inr (.inr (.inr (.inr (.inr (.inr (.inr (.inl rfl))))))), hc, rfl⟩
  have no : eok f_akv c = false → (fun r : Fin × Heap => r = (eV f_akv c, [])) (.ret (.tup [.str (bytesOf (ByteArray.mk #[])), .bool false]), []) := by
    intro e
    unfold eV
    rw [if_neg (by rw [e]; decide)]; rfl
  have yes : eok f_akv c = true → (fun r : Fin × Heap => r = (eV f_akv c, [])) (.ret (.tup [.str (encV (lsV 4 (rowT [c.nm, c.ad, c.k.bytes, c.v.bytes]))), .bool true]), []) := by
    intro e
    have e2 : encV (lsV 4 (rowT [c.nm, c.ad, c.k.bytes, c.v.bytes])) = eS f_akv c := by
      rw [eS_eq, eIt, eTs_akv]; exact encV_eq (is_ls [c.nm, c.ad, c.k.bytes, c.v.bytes])
    unfold eV
    rw [if_pos e, e2]
  rw [eok_akv] at no yes
  refine fnT (OEn_sound f_akv) mixed (by kernel_rfl) LoopsOk.noneT (en_akv_x c) ?_
  refine wp_chk.2 ⟨by rw [fkB_t hn, hb]; rfl, wp_br.2 ⟨fun e0 => wp_chk_true.2 (wp_leaf.2 (no ?_)), fun e0 => wp_chk_true.2 (wp_br.2 ⟨fun e1 => wp_chk_true.2 (wp_leaf.2 (no ?_)), fun e1 => wp_chk.2 ⟨?_, wp_leaf.2 (yes ?_)⟩⟩)⟩⟩
  · have h0 : bareB f_akv c = false := by simpa using e0
    rw [h0]; rfl
  · have h0 : bareB f_akv c = true := by simpa using e0
    have h1 : ((c.ad.length : Int) == (20 : Int)) = false := by simpa using e1
    rw [h0, h1]; rfl
  · have h0 : bareB f_akv c = true := by simpa using e0
    have h1 : ((c.ad.length : Int) == (20 : Int)) = true := by simpa using e1
    have a0 := numB_len8 c.n
    have a1 := W4.bytes_length c.k
    have a2 := W4.bytes_length c.v
    have b0 : c.ad.length = 20 := by have := beq_iff_eq.1 h1; omega
    have hq : okVB (lsV 4 (rowT [c.nm, c.ad, c.k.bytes, c.v.bytes])) = true := ok_ls (xs := [c.nm, c.ad, c.k.bytes, c.v.bytes]) (by simp only [List.map_cons, List.map_nil, List.sum_cons, List.sum_nil]; omega)
    have hq' : okVB (V.agg [V.bool true, V.str [], V.isl (3 : Nat) (4 : Nat) (rwF (rowT [c.nm, c.ad, c.k.bytes, c.v.bytes]))]) = true := hq
    rw [hq']; rfl
  · have h0 : bareB f_akv c = true := by simpa using e0
    have h1 : ((c.ad.length : Int) == (20 : Int)) = true := by simpa using e1
    rw [h0, h1]; rfl
theorem eok_e (c : CM) : eok f_e c = (bareB f_e c && true) := by kernel_rfl
theorem eTs_e (c : CM) : eTs f_e c = [c.nm] := by kernel_rfl
theorem enc_e (c : CM) (hn : fkP f_e c.nm) (hc : okC c) : LFn Pr 8 [.agg c.cs] [] (eV f_e c) [] := by
  have hnl := fk_len hn
  have hb : okBaB (BA.mk f_e c (aF c.af)) = true := okBa_t ⟨.inr (.inr (.inr (.inr (.inr (.inr (.inr (.inr (.inl rfl)))))))), hc, rfl⟩
  have no : eok f_e c = false → (fun r : Fin × Heap => r = (eV f_e c, [])) (.ret (.tup [.str (bytesOf (ByteArray.mk #[])), .bool false]), []) := by
    intro e
    unfold eV
    rw [if_neg (by rw [e]; decide)]; rfl
  have yes : eok f_e c = true → (fun r : Fin × Heap => r = (eV f_e c, [])) (.ret (.tup [.str (encV (lsV 1 (rowT [c.nm]))), .bool true]), []) := by
    intro e
    have e2 : encV (lsV 1 (rowT [c.nm])) = eS f_e c := by
      rw [eS_eq, eIt, eTs_e]; exact encV_eq (is_ls [c.nm])
    unfold eV
    rw [if_pos e, e2]
  rw [eok_e] at no yes
  refine fnT (OEn_sound f_e) mixed (by kernel_rfl) LoopsOk.noneT (en_e_x c) ?_
  refine wp_chk.2 ⟨by rw [fkB_t hn, hb]; rfl, wp_br.2 ⟨fun e0 => wp_chk_true.2 (wp_leaf.2 (no ?_)), fun e0 => wp_chk.2 ⟨?_, wp_leaf.2 (yes ?_)⟩⟩⟩
  · have h0 : bareB f_e c = false := by simpa using e0
    rw [h0]; rfl
  · have h0 : bareB f_e c = true := by simpa using e0
    have a0 := numB_len8 c.n
    have a1 := W4.bytes_length c.k
    have a2 := W4.bytes_length c.v
    have hq : okVB (lsV 1 (rowT [c.nm])) = true := ok_ls (xs := [c.nm]) (by simp only [List.map_cons, List.map_nil, List.sum_cons, List.sum_nil]; omega)
    have hq' : okVB (V.agg [V.bool true, V.str [], V.isl (3 : Nat) (1 : Nat) (rwF (rowT [c.nm]))]) = true := hq
    rw [hq']; rfl
  · have h0 : bareB f_e c = true := by simpa using e0
    rw [h0]; rfl
theorem eok_s (c : CM) : eok f_s c = (bareB f_s c && ((decide ((c.s.length : Int) ≤ (32768 : Int))) && true)) := by kernel_rfl
theorem eTs_s (c : CM) : eTs f_s c = [c.nm, c.s] := by kernel_rfl
theorem enc_s (c : CM) (hn : fkP f_s c.nm) (hc : okC c) : LFn Pr 8 [.agg c.cs] [] (eV f_s c) [] := by
  have hnl := fk_len hn
  have hb : okBaB (BA.mk f_s c (aF c.af)) = true := okBa_t ⟨.inr (.inr (.inr (.inr (.inr (.inr (.inr (.inr (.inr (rfl))))))))), hc, rfl⟩
  have no : eok f_s c = false → (fun r : Fin × Heap => r = (eV f_s c, [])) (.ret (.tup [.str (bytesOf (ByteArray.mk #[])), .bool false]), []) := by
    intro e
    unfold eV
    rw [if_neg (by rw [e]; decide)]; rfl
  have yes : eok f_s c = true → (fun r : Fin × Heap => r = (eV f_s c, [])) (.ret (.tup [.str (encV (lsV 2 (rowT [c.nm, c.s]))), .bool true]), []) := by
    intro e
    have e2 : encV (lsV 2 (rowT [c.nm, c.s])) = eS f_s c := by
      rw [eS_eq, eIt, eTs_s]; exact encV_eq (is_ls [c.nm, c.s])
    unfold eV
    rw [if_pos e, e2]
  rw [eok_s] at no yes
  refine fnT (OEn_sound f_s) mixed (by kernel_rfl) LoopsOk.noneT (en_s_x c) ?_
  refine wp_chk.2 ⟨by rw [fkB_t hn, hb]; rfl, wp_br.2 ⟨fun e0 => wp_chk_true.2 (wp_leaf.2 (no ?_)), fun e0 => wp_chk_true.2 (wp_br.2 ⟨fun e1 => wp_chk_true.2 (wp_leaf.2 (no ?_)), fun e1 => wp_chk.2 ⟨?_, wp_leaf.2 (yes ?_)⟩⟩)⟩⟩
  · have h0 : bareB f_s c = false := by simpa using e0
    rw [h0]; rfl
  · have h0 : bareB f_s c = true := by simpa using e0
    have h1 : (decide ((c.s.length : Int) ≤ (32768 : Int))) = false := by simpa using e1
    rw [h0, h1]; rfl
  · have h0 : bareB f_s c = true := by simpa using e0
    have h1 : (decide ((c.s.length : Int) ≤ (32768 : Int))) = true := by simpa using e1
    have a0 := numB_len8 c.n
    have a1 := W4.bytes_length c.k
    have a2 := W4.bytes_length c.v
    have b0 : c.s.length ≤ 32768 := by have := of_decide_eq_true h1; omega
    have hq : okVB (lsV 2 (rowT [c.nm, c.s])) = true := ok_ls (xs := [c.nm, c.s]) (by simp only [List.map_cons, List.map_nil, List.sum_cons, List.sum_nil]; omega)
    have hq' : okVB (V.agg [V.bool true, V.str [], V.isl (3 : Nat) (2 : Nat) (rwF (rowT [c.nm, c.s]))]) = true := hq
    rw [hq']; rfl
  · have h0 : bareB f_s c = true := by simpa using e0
    have h1 : (decide ((c.s.length : Int) ≤ (32768 : Int))) = true := by simpa using e1
    rw [h0, h1]; rfl
theorem eok_t (c : CM) : eok f_t c = (bareB f_t c && (rgtB c && true)) := by kernel_rfl
theorem eTs_t (c : CM) : eTs f_t c = [c.nm, txS c] := by kernel_rfl
theorem txS_len {c : CM} (h : rgtB c = true) : (txS c).length ≤ 300000 := by rw [txS_eq]; exact tx_len (rgtB_iff.1 h)
theorem enc_t (c : CM) (hn : fkP f_t c.nm) (hc : okC c) : LFn Pr 8 [.agg c.cs] [] (eV f_t c) [] := by
  have hnl := fk_len hn
  have hb : okBaB (BA.mk f_t c (aF c.af)) = true := okBa_t ⟨.inl rfl, hc, rfl⟩
  have no : eok f_t c = false → (fun r : Fin × Heap => r = (eV f_t c, [])) (.ret (.tup [.str (bytesOf (ByteArray.mk #[])), .bool false]), []) := by
    intro e
    unfold eV
    rw [if_neg (by rw [e]; decide)]; rfl
  have yes : eok f_t c = true → (fun r : Fin × Heap => r = (eV f_t c, [])) (.ret (.tup [.str (encV (lsV 2 (rowT [c.nm, txS c]))), .bool true]), []) := by
    intro e
    have e2 : encV (lsV 2 (rowT [c.nm, txS c])) = eS f_t c := by
      rw [eS_eq, eIt, eTs_t]; exact encV_eq (is_ls [c.nm, txS c])
    unfold eV
    rw [if_pos e, e2]
  rw [eok_t] at no yes
  refine fnT (OEn_sound f_t) mixed (by kernel_rfl) LoopsOk.noneT (en_t_x c) ?_
  refine wp_chk.2 ⟨by rw [fkB_t hn, hb]; rfl, wp_br.2 ⟨fun e0 => wp_chk_true.2 (wp_leaf.2 (no ?_)), fun e0 => wp_chk.2 ⟨txB0_t hc.2, wp_br.2 ⟨fun e1 => wp_chk.2 ⟨?_, wp_leaf.2 (yes ?_)⟩, fun e1 => wp_chk_true.2 (wp_leaf.2 (no ?_))⟩⟩⟩⟩
  · have h0 : bareB f_t c = false := by simpa using e0
    rw [h0]; rfl
  · have a0 := txS_len e1
    have hq : okVB (lsV 2 (rowT [c.nm, txS c])) = true := ok_ls (xs := [c.nm, txS c]) (by simp only [List.map_cons, List.map_nil, List.sum_cons, List.sum_nil]; omega)
    have hq' : okVB (V.agg [V.bool true, V.str [], V.isl (3 : Nat) (2 : Nat) (rwF (rowT [c.nm, txS c]))]) = true := hq
    rw [hq']; rfl
  · have h0 : bareB f_t c = true := by simpa using e0
    rw [h0, e1]; rfl
  · rw [e1, Bool.false_and, Bool.and_false]
end
end Go.Proofs.YtbgiickegljpoaaDoor.K
end
section
open Go Go.Lh
namespace Go.Proofs.YtbgiickegljpoaaDoor.K
noncomputable section
set_option maxRecDepth 100000
def ca_read : List V → Heap → Option (CM × (Nat → Nat → V)) := fun a h => match a, h with
  | [.agg l], [] => csR l
  | _, _ => none
theorem ca_wk {args : List V} {h : Heap} {a : CM × (Nat → Nat → V)} (e : ca_read args h = some a) (hp : a.2 = aF a.1.af) : (∀ (I : Nat → Prop) (w : World) (ρ : Ren) us, VsRel I w ρ args us → VsRel I w ρ [.agg a.1.cs] us) ∧ h = [] := by
  unfold ca_read at e
  split at e
  · exact ⟨fun I w ρ us hv => wk_arg1 (Wks.agg (csR_wk e hp)) hv, rfl⟩
  · cases e
def CM.csA (c : CM) (ac : V) : List V := [.str c.nm, .str c.ad, .u64 c.n, .u64 c.k.a, .u64 c.k.b, .u64 c.k.c, .u64 c.k.d, .u64 c.v.a, .u64 c.v.b, .u64 c.v.c, .u64 c.v.d, .str c.s,
  .int .i64 c.tk, .str c.tf, .str c.tt, .u64 c.tn, .u64 c.tg, .u64 c.tp.a, .u64 c.tp.b, .u64 c.tp.c, .u64 c.tp.d, .u64 c.ti.a, .u64 c.ti.b, .u64 c.ti.c, .u64 c.ti.d, .u64 c.tv.a, .u64 c.tv.b, .u64 c.tv.c, .u64 c.tv.d, .str c.td, ac]
theorem csA_wk {c : CM} (h : c.an = 0) : Wks (c.csA .nilSl) c.cs := by
  unfold CM.csA CM.cs
  rw [h]
  repeat (first | exact .cons (.nil _ _) .nil | refine .cons (.refl _) ?_)
def CM.wTx (c t : CM) : CM := { c with tk := t.tk, tf := t.tf, tt := t.tt, tn := t.tn, tg := t.tg, tp := t.tp, ti := t.ti, tv := t.tv, td := t.td, an := t.an, af := t.af }
def fillC : List B → Nat → RW → CM → CM
  | [], _, _, c => c
  | x :: r, i, q, c => fillC r (i + 1) q (bif Nat.beq x.toNat 97 then { c with ad := q.s i } else bif Nat.beq x.toNat 110 then { c with n := smallN (q.b i) (q.s i) } else bif Nat.beq x.toNat 107 then { c with k := ofW (q.s i) } else bif Nat.beq x.toNat 118 then { c with v := ofW (q.s i) } else bif Nat.beq x.toNat 116 then c.wTx (tdC (q.s i)) else { c with s := q.s i })
def fillO : List B → Nat → RW → Bool
  | [], _, _ => true
  | x :: r, i, q => bif Nat.beq x.toNat 110 then smallO (q.b i) (q.s i) && fillO r (i + 1) q else bif Nat.beq x.toNat 107 then decide ((q.s i).length ≤ 32) && fillO r (i + 1) q else bif Nat.beq x.toNat 118 then decide ((q.s i).length ≤ 32) && fillO r (i + 1) q else bif Nat.beq x.toNat 116 then tdO (q.s i) && fillO r (i + 1) q else fillO r (i + 1) q
def cmF (f : List B) (q : RW) : CM := fillC f 1 q (CM0 (q.s 0))
def eokO (f : List B) (c : CM) : Bool := @decide (eok f c = true) (Classical.propDecidable _)
theorem eokO_eq (f : List B) (c : CM) : eokO f c = eok f c := by
  unfold eokO
  cases h : eok f c with
  | true => exact @decide_eq_true _ (Classical.propDecidable _) rfl
  | false => exact @decide_eq_false _ (Classical.propDecidable _) (by decide)
def isF (f : List B) : Prop := f = f_n ∨ f = f_a ∨ f = f_ak ∨ f = f_av ∨ f = f_an ∨ f = f_as ∨ f = f_akv ∨ f = f_e ∨ f = f_s ∨ f = f_t
theorem enc_all {f : List B} (hf : isF f) (c : CM) (hn : fkP f c.nm) (hc : okC c) : LFn Pr 8 [.agg c.cs] [] (eV f c) [] := by
  rcases hf with rfl | rfl | rfl | rfl | rfl | rfl | rfl | rfl | rfl | rfl
  · exact enc_n c hn hc
  · exact enc_a c hn hc
  · exact enc_ak c hn hc
  · exact enc_av c hn hc
  · exact enc_an c hn hc
  · exact enc_as c hn hc
  · exact enc_akv c hn hc
  · exact enc_e c hn hc
  · exact enc_s c hn hc
  · exact enc_t c hn hc
def ecP (f : List B) (a : CM × (Nat → Nat → V)) : Prop := isF f ∧ fkP f a.1.nm ∧ okC a.1 ∧ a.2 = aF a.1.af
def ecB (f : List B) (a : CM × (Nat → Nat → V)) : Bool := @decide (ecP f a) (Classical.propDecidable _)
def ecm_f (f : List B) (a : CM × (Nat → Nat → V)) : Tr (Fin × Heap) := .chk (ecB f a) (.br (eokO f a.1) (.leaf (.ret (.tup [.str (eS f a.1), .bool true]), [])) (.leaf (.ret (.tup [.str [], .bool false]), [])))
theorem ecm_ok (f : List B) : ∀ args h r, ((ctT ca_read (ecm_f f)) args h).is r → LFn Pr 8 args h r.1 r.2 := by
  intro args h r hr
  unfold ctT at hr
  split at hr
  · rename_i a e
    rw [ecm_f, Tr.is_chk] at hr
    obtain ⟨h1, hr⟩ := hr
    have hr := br_is hr
    subst hr
    obtain ⟨h2, h3, h4, h5⟩ : ecP f a := @of_decide_eq_true _ (Classical.propDecidable _) h1
    obtain ⟨hw, rfl⟩ := ca_wk e h5
    have H := LFn.wkArgs (enc_all h2 a.1 h3 h4) hw
    unfold eV at H
    rw [eokO_eq]
    by_cases hh : eok f a.1 = true
    · rw [if_pos hh] at H ⊢; exact H
    · rw [if_neg hh] at H ⊢; exact H
  · exact (Tr.is_no.1 hr).elim
def dqP (n : Nat) (q : RW) (s : List B) : Prop := ∃ l : List It, decF s = some (.lst l) ∧ l.length = n ∧ It.rI l = q
def dqB (n : Nat) (q : RW) (s : List B) : Bool := @decide (dqP n q s) (Classical.propDecidable _)
def dq_f (n : Nat) (q : RW) (s : List B) : Tr (Fin × Heap) := .chk (dqB n q s) (.leaf (.ret (.tup [.agg [.bool true, .str [], .isl 3 n (rwF q)], .int .i64 0]), []))
theorem dcO_t {s : List B} {x : It} (h : decF s = some x) : dcO s = true := @decide_eq_true _ (Classical.propDecidable _) ⟨_, h⟩
theorem dcO_n {s : List B} (h : decF s = none) : dcO s = false := @decide_eq_false _ (Classical.propDecidable _) (by rw [h]; rintro ⟨x, hx⟩; cases hx)
theorem dq_ok (n : Nat) (q : RW) : ∀ args h r, ((ctT dc_read (dq_f n q)) args h).is r → LFn Pr 17 args h r.1 r.2 := by
  intro args h r hr
  refine dc_ok args h r ?_
  unfold ctT at hr ⊢
  split at hr
  · rename_i s hs
    rw [dq_f, Tr.is_chk] at hr
    obtain ⟨h1, hr⟩ := hr
    obtain ⟨l, h2, rfl, rfl⟩ : dqP n q s := @of_decide_eq_true _ (Classical.propDecidable _) h1
    rw [dc_f, Tr.is_br, if_pos (dcO_t h2), dcI_eq h2, itV_lst]
    exact hr
  · exact hr
def KD2 (f : List B) (n : Nat) (q : RW) : KnownT := (17, ctT dc_read (dq_f n q)) :: (10, ctT readS (fk_f f)) :: (8, ctT ca_read (ecm_f f)) :: (18, ta_g) :: (51, ctS ofV) :: (52, ctT readS td_f) :: KR5
theorem KD2_ok (f : List B) (n : Nat) (q : RW) : KOkT Pr (KD2 f n q) := KOkT.cons (Enters.of (fn := Go.Proofs.Tryd.f17) (by kernel_rfl) (by kernel_rfl)) (dq_ok n q) (KOkT.cons (Enters.of (fn := Go.Proofs.Tryd.f10) (by kernel_rfl) (by kernel_rfl)) (fk_ok f) (KOkT.cons (Enters.of (fn := Go.Proofs.Tryd.f8) (by kernel_rfl) (by kernel_rfl)) (ecm_ok f) (KOkT.cons (Enters.of (fn := Go.Proofs.Tryd.f18) (by kernel_rfl) (by kernel_rfl)) ta_ok (KOkT.cons of_en (ctS_ok of_fn) (KOkT.cons (Enters.of (fn := Go.Proofs.Tryd.f52) (by kernel_rfl) (by kernel_rfl)) td_ok KR5_ok)))))
def OD2 (f : List B) (n : Nat) (q : RW) : OrcT := autoT Pr ext (KD2 f n q) [33,34,35,36,37,38] 3
theorem OD2_sound (f : List B) (n : Nat) (q : RW) : OrcSound Pr (OD2 f n q).o := autoT_sound mixed ext_ok (KD2_ok f n q) (by kernel_rfl) 3
theorem dc_t_x (s : List B) (q : RW) : Tr.prune ((((Tr.Sh.any.both Tr.Sh.any).r.r.r.both
 Tr.Sh.any.l.l.l.l).r.r.both
 Tr.Sh.any.l).l.r.r.r.r.r.r.r.r.r.r.r.r.r)
 (execBF Pr (OD2 f_t (2 : Nat) q) noLoopsT (100 : Nat) Go.Proofs.Tryd.f9 [V.str s] []) =
 Tr.chk (dqB (2 : Nat) q s && true && true && (fkB f_t (q.s (0 : Nat)) && true && true && true))
 (Tr.br (tdO (q.s (1 : Nat)))
 (Tr.chk
 (ecB f_t
 ((cmF f_t q), aF (cmF f_t q).af))
 (Tr.br
 (eokO f_t
 (cmF f_t q))
 (Tr.chk true
 (Tr.br
 (!eS f_t
 (cmF f_t q) ==
 s)
 (Tr.chk true
 (Tr.leaf
 (Fin.ret
 (V.tup
 [V.agg
 ((CM0 noT).csA .nilSl),
 V.bool false]),
 [])))
 (Tr.chk true
 (Tr.leaf
 (Fin.ret
 (V.tup
 [V.agg
 (cmF f_t q).cs,
 V.bool true]),
 [])))))
 (Tr.chk true
 (Tr.leaf
 (Fin.ret
 (V.tup
 [V.agg
 ((CM0 noT).csA .nilSl),
 V.bool false]),
 [])))))
 (Tr.chk true
 (Tr.leaf
 (Fin.ret
 (V.tup
 [V.agg
 ((CM0 noT).csA .nilSl),
 V.bool false]),
 [])))) := by kernel_rfl
theorem dc_n_x (s : List B) (q : RW) : Tr.prune ((Tr.Sh.any.both
 ((Tr.Sh.any.both Tr.Sh.any).r.r.r.both Tr.Sh.any.l.l.l.l).r).l.r.r.r.r.r.r.r.r.r.r.r.r.r)
 (execBF Pr (OD2 f_n (2 : Nat) q) noLoopsT (100 : Nat) Go.Proofs.Tryd.f9 [V.str s] []) =
 Tr.chk (dqB (2 : Nat) q s && true && true && (fkB f_n (q.s (0 : Nat)) && true && true && true))
 (Tr.br (!smallO (q.b (1 : Nat)) (q.s (1 : Nat)))
 (Tr.chk true
 (Tr.leaf
 (Fin.ret
 (V.tup
 [V.agg
 ((CM0 noT).csA .nilSl),
 V.bool false]),
 [])))
 (Tr.chk
 (ecB f_n
 ((cmF f_n q), aF (cmF f_n q).af))
 (Tr.br
 (eokO f_n
 (cmF f_n q))
 (Tr.chk true
 (Tr.br
 (!eS f_n
 (cmF f_n q) ==
 s)
 (Tr.chk true
 (Tr.leaf
 (Fin.ret
 (V.tup
 [V.agg
 ((CM0 noT).csA .nilSl),
 V.bool false]),
 [])))
 (Tr.chk true
 (Tr.leaf
 (Fin.ret
 (V.tup
 [V.agg
 ((cmF f_n q).csA .nilSl),
 V.bool true]),
 [])))))
 (Tr.chk true
 (Tr.leaf
 (Fin.ret
 (V.tup
 [V.agg
 ((CM0 noT).csA .nilSl),
 V.bool false]),
 [])))))) := by kernel_rfl
theorem dc_a_x (s : List B) (q : RW) : Tr.prune (((Tr.Sh.any.both Tr.Sh.any).r.r.r.both
 Tr.Sh.any.l.l.l.l).r.r.l.r.r.r.r.r.r.r.r.r.r.r.r.r)
 (execBF Pr (OD2 f_a (2 : Nat) q) noLoopsT (100 : Nat) Go.Proofs.Tryd.f9 [V.str s] []) =
 Tr.chk
 (dqB (2 : Nat) q s && true && true &&
 (fkB f_a (q.s (0 : Nat)) && true && true &&
 ecB f_a
 ((cmF f_a q), aF (cmF f_a q).af)))
 (Tr.br
 (eokO f_a
 (cmF f_a q))
 (Tr.chk true
 (Tr.br
 (!eS f_a
 (cmF f_a q) ==
 s)
 (Tr.chk true
 (Tr.leaf
 (Fin.ret
 (V.tup
 [V.agg
 ((CM0 noT).csA .nilSl),
 V.bool false]),
 [])))
 (Tr.chk true
 (Tr.leaf
 (Fin.ret
 (V.tup
 [V.agg
 ((cmF f_a q).csA .nilSl),
 V.bool true]),
 [])))))
 (Tr.chk true
 (Tr.leaf
 (Fin.ret
 (V.tup
 [V.agg
 ((CM0 noT).csA .nilSl),
 V.bool false]),
 [])))) := by kernel_rfl
theorem dc_ak_x (s : List B) (q : RW) : Tr.prune ((Tr.Sh.any.both
 ((Tr.Sh.any.both Tr.Sh.any).r.r.r.both
 Tr.Sh.any.l.l.l.l).r).l.r.l.r.r.r.r.r.r.r.r.r.r.r.r.r)
 (execBF Pr (OD2 f_ak (3 : Nat) q) noLoopsT (100 : Nat) Go.Proofs.Tryd.f9 [V.str s] []) =
 Tr.chk (dqB (3 : Nat) q s && true && true && (fkB f_ak (q.s (0 : Nat)) && true && true && true))
 (Tr.br (!decide ((q.s (2 : Nat)).length ≤ (32 : Nat)))
 (Tr.chk true
 (Tr.leaf
 (Fin.ret
 (V.tup
 [V.agg
 ((CM0 noT).csA .nilSl),
 V.bool false]),
 [])))
 (Tr.chk
 (ecB f_ak
 ((cmF f_ak q), aF (cmF f_ak q).af))
 (Tr.br
 (eokO f_ak
 (cmF f_ak q))
 (Tr.chk true
 (Tr.br
 (!eS f_ak
 (cmF f_ak q) ==
 s)
 (Tr.chk true
 (Tr.leaf
 (Fin.ret
 (V.tup
 [V.agg
 ((CM0 noT).csA .nilSl),
 V.bool false]),
 [])))
 (Tr.chk true
 (Tr.leaf
 (Fin.ret
 (V.tup
 [V.agg
 ((cmF f_ak q).csA .nilSl),
 V.bool true]),
 [])))))
 (Tr.chk true
 (Tr.leaf
 (Fin.ret
 (V.tup
 [V.agg
 ((CM0 noT).csA .nilSl),
 V.bool false]),
 [])))))) := by kernel_rfl
theorem dc_av_x (s : List B) (q : RW) : Tr.prune ((Tr.Sh.any.both
 ((Tr.Sh.any.both Tr.Sh.any).r.r.r.both
 Tr.Sh.any.l.l.l.l).r).l.r.l.r.r.r.r.r.r.r.r.r.r.r.r.r)
 (execBF Pr (OD2 f_av (3 : Nat) q) noLoopsT (100 : Nat) Go.Proofs.Tryd.f9 [V.str s] []) =
 Tr.chk (dqB (3 : Nat) q s && true && true && (fkB f_av (q.s (0 : Nat)) && true && true && true))
 (Tr.br (!decide ((q.s (2 : Nat)).length ≤ (32 : Nat)))
 (Tr.chk true
 (Tr.leaf
 (Fin.ret
 (V.tup
 [V.agg
 ((CM0 noT).csA .nilSl),
 V.bool false]),
 [])))
 (Tr.chk
 (ecB f_av
 ((cmF f_av q), aF (cmF f_av q).af))
 (Tr.br
 (eokO f_av
 (cmF f_av q))
 (Tr.chk true
 (Tr.br
 (!eS f_av
 (cmF f_av q) ==
 s)
 (Tr.chk true
 (Tr.leaf
 (Fin.ret
 (V.tup
 [V.agg
 ((CM0 noT).csA .nilSl),
 V.bool false]),
 [])))
 (Tr.chk true
 (Tr.leaf
 (Fin.ret
 (V.tup
 [V.agg
 ((cmF f_av q).csA .nilSl),
 V.bool true]),
 [])))))
 (Tr.chk true
 (Tr.leaf
 (Fin.ret
 (V.tup
 [V.agg
 ((CM0 noT).csA .nilSl),
 V.bool false]),
 [])))))) := by kernel_rfl
theorem dc_an_x (s : List B) (q : RW) : Tr.prune ((Tr.Sh.any.both
 ((Tr.Sh.any.both Tr.Sh.any).r.r.r.both
 Tr.Sh.any.l.l.l.l).r).l.r.l.r.r.r.r.r.r.r.r.r.r.r.r.r)
 (execBF Pr (OD2 f_an (3 : Nat) q) noLoopsT (100 : Nat) Go.Proofs.Tryd.f9 [V.str s] []) =
 Tr.chk (dqB (3 : Nat) q s && true && true && (fkB f_an (q.s (0 : Nat)) && true && true && true))
 (Tr.br (!smallO (q.b (2 : Nat)) (q.s (2 : Nat)))
 (Tr.chk true
 (Tr.leaf
 (Fin.ret
 (V.tup
 [V.agg
 ((CM0 noT).csA .nilSl),
 V.bool false]),
 [])))
 (Tr.chk
 (ecB f_an
 ((cmF f_an q), aF (cmF f_an q).af))
 (Tr.br
 (eokO f_an
 (cmF f_an q))
 (Tr.chk true
 (Tr.br
 (!eS f_an
 (cmF f_an q) ==
 s)
 (Tr.chk true
 (Tr.leaf
 (Fin.ret
 (V.tup
 [V.agg
 ((CM0 noT).csA .nilSl),
 V.bool false]),
 [])))
 (Tr.chk true
 (Tr.leaf
 (Fin.ret
 (V.tup
 [V.agg
 ((cmF f_an q).csA .nilSl),
 V.bool true]),
 [])))))
 (Tr.chk true
 (Tr.leaf
 (Fin.ret
 (V.tup
 [V.agg
 ((CM0 noT).csA .nilSl),
 V.bool false]),
 [])))))) := by kernel_rfl
theorem dc_as_x (s : List B) (q : RW) : Tr.prune (((Tr.Sh.any.both Tr.Sh.any).r.r.r.both
 Tr.Sh.any.l.l.l.l).r.r.l.r.l.r.r.r.r.r.r.r.r.r.r.r.r.r)
 (execBF Pr (OD2 f_as (3 : Nat) q) noLoopsT (100 : Nat) Go.Proofs.Tryd.f9 [V.str s] []) =
 Tr.chk
 (dqB (3 : Nat) q s && true && true &&
 (fkB f_as (q.s (0 : Nat)) && true && true &&
 ecB f_as
 ((cmF f_as q), aF (cmF f_as q).af)))
 (Tr.br
 (eokO f_as
 (cmF f_as q))
 (Tr.chk true
 (Tr.br
 (!eS f_as
 (cmF f_as q) ==
 s)
 (Tr.chk true
 (Tr.leaf
 (Fin.ret
 (V.tup
 [V.agg
 ((CM0 noT).csA .nilSl),
 V.bool false]),
 [])))
 (Tr.chk true
 (Tr.leaf
 (Fin.ret
 (V.tup
 [V.agg
 ((cmF f_as q).csA .nilSl),
 V.bool true]),
 [])))))
 (Tr.chk true
 (Tr.leaf
 (Fin.ret
 (V.tup
 [V.agg
 ((CM0 noT).csA .nilSl),
 V.bool false]),
 [])))) := by kernel_rfl
theorem dc_akv_x (s : List B) (q : RW) : Tr.prune ((Tr.Sh.any.both
 (Tr.Sh.any.both
 ((Tr.Sh.any.both Tr.Sh.any).r.r.r.both
 Tr.Sh.any.l.l.l.l).r).l).l.r.l.r.r.r.r.r.r.r.r.r.r.r.r.r)
 (execBF Pr (OD2 f_akv (4 : Nat) q) noLoopsT (100 : Nat) Go.Proofs.Tryd.f9 [V.str s] []) =
 Tr.chk (dqB (4 : Nat) q s && true && true && (fkB f_akv (q.s (0 : Nat)) && true && true && true))
 (Tr.br (!decide ((q.s (2 : Nat)).length ≤ (32 : Nat)))
 (Tr.chk true
 (Tr.leaf
 (Fin.ret
 (V.tup
 [V.agg
 ((CM0 noT).csA .nilSl),
 V.bool false]),
 [])))
 (Tr.chk true
 (Tr.br (!decide ((q.s (3 : Nat)).length ≤ (32 : Nat)))
 (Tr.chk true
 (Tr.leaf
 (Fin.ret
 (V.tup
 [V.agg
 ((CM0 noT).csA .nilSl),
 V.bool false]),
 [])))
 (Tr.chk
 (ecB f_akv
 ((cmF f_akv q), aF (cmF f_akv q).af))
 (Tr.br
 (eokO f_akv
 (cmF f_akv q))
 (Tr.chk true
 (Tr.br
 (!eS f_akv
 (cmF f_akv q) ==
 s)
 (Tr.chk true
 (Tr.leaf
 (Fin.ret
 (V.tup
 [V.agg
 ((CM0 noT).csA .nilSl),
 V.bool false]),
 [])))
 (Tr.chk true
 (Tr.leaf
 (Fin.ret
 (V.tup
 [V.agg
 ((cmF f_akv q).csA .nilSl),
 V.bool true]),
 [])))))
 (Tr.chk true
 (Tr.leaf
 (Fin.ret
 (V.tup
 [V.agg
 ((CM0 noT).csA .nilSl),
 V.bool false]),
 [])))))))) := by kernel_rfl
theorem dc_e_x (s : List B) (q : RW) : Tr.prune (((Tr.Sh.any.both Tr.Sh.any).r.r.r.both
 Tr.Sh.any.l.l.l.l).r.r.r.r.r.r.r.r.r.r.r.r.r.r)
 (execBF Pr (OD2 f_e (1 : Nat) q) noLoopsT (100 : Nat) Go.Proofs.Tryd.f9 [V.str s] []) =
 Tr.chk
 (dqB (1 : Nat) q s && true && true &&
 (fkB f_e (q.s (0 : Nat)) && true && true &&
 ecB f_e
 ((cmF f_e q), aF (cmF f_e q).af)))
 (Tr.br
 (eokO f_e
 (cmF f_e q))
 (Tr.chk true
 (Tr.br
 (!eS f_e
 (cmF f_e q) ==
 s)
 (Tr.chk true
 (Tr.leaf
 (Fin.ret
 (V.tup
 [V.agg
 ((CM0 noT).csA .nilSl),
 V.bool false]),
 [])))
 (Tr.chk true
 (Tr.leaf
 (Fin.ret
 (V.tup
 [V.agg
 ((cmF f_e q).csA .nilSl),
 V.bool true]),
 [])))))
 (Tr.chk true
 (Tr.leaf
 (Fin.ret
 (V.tup
 [V.agg
 ((CM0 noT).csA .nilSl),
 V.bool false]),
 [])))) := by kernel_rfl
theorem dc_s_x (s : List B) (q : RW) : Tr.prune (((Tr.Sh.any.both Tr.Sh.any).r.r.r.both
 Tr.Sh.any.l.l.l.l).r.r.l.r.r.r.r.r.r.r.r.r.r.r.r.r)
 (execBF Pr (OD2 f_s (2 : Nat) q) noLoopsT (100 : Nat) Go.Proofs.Tryd.f9 [V.str s] []) =
 Tr.chk
 (dqB (2 : Nat) q s && true && true &&
 (fkB f_s (q.s (0 : Nat)) && true && true &&
 ecB f_s
 ((cmF f_s q), aF (cmF f_s q).af)))
 (Tr.br
 (eokO f_s
 (cmF f_s q))
 (Tr.chk true
 (Tr.br
 (!eS f_s
 (cmF f_s q) ==
 s)
 (Tr.chk true
 (Tr.leaf
 (Fin.ret
 (V.tup
 [V.agg
 ((CM0 noT).csA .nilSl),
 V.bool false]),
 [])))
 (Tr.chk true
 (Tr.leaf
 (Fin.ret
 (V.tup
 [V.agg
 ((cmF f_s q).csA .nilSl),
 V.bool true]),
 [])))))
 (Tr.chk true
 (Tr.leaf
 (Fin.ret
 (V.tup
 [V.agg
 ((CM0 noT).csA .nilSl),
 V.bool false]),
 [])))) := by kernel_rfl
end
end Go.Proofs.YtbgiickegljpoaaDoor.K
end
section
open Go Go.Lh
namespace Go.Proofs.YtbgiickegljpoaaDoor.K
noncomputable section
set_option maxRecDepth 100000
def okD (f : List B) (q : RW) (s : List B) : Bool := fillO f 1 q && (eok f (cmF f q) && (eS f (cmF f q) == s))
def dcV : Option CM → Fin
  | some c => .ret (.tup [.agg c.cs, .bool true])
  | none => .ret (.tup [.agg (CM0 noT).cs, .bool false])
def dV (f : List B) (q : RW) (s : List B) : Fin := dcV (if okD f q s = true then some (cmF f q) else none)
def dVr (f : List B) (q : RW) (s : List B) : V := if okD f q s = true then .tup [.agg ((cmF f q).csA .nilSl), .bool true] else .tup [.agg ((CM0 noT).csA .nilSl), .bool false]
theorem dV_r {f : List B} {q : RW} {s : List B} {h : Heap} (h0 : (cmF f q).an = 0) (H : LFn Pr 9 [.str s] [] (.ret (dVr f q s)) h) : LFn Pr 9 [.str s] [] (dV f q s) h := by
  unfold dVr at H
  unfold dV
  by_cases hx : okD f q s = true
  · rw [if_pos hx] at H ⊢
    exact LFn.wkRet H (.tup2 (Wks.agg (csA_wk h0)) (.refl _))
  · rw [if_neg hx] at H ⊢
    exact LFn.wkRet H (.tup2 (Wks.agg (csA_wk rfl)) (.refl _))
theorem bn_t {b : Bool} (h : (!b) = true) : b = false := by cases b <;> simp_all
theorem bn_f {b : Bool} (h : (!b) = false) : b = true := by cases b <;> simp_all
theorem dqB_t {n : Nat} {q : RW} {s : List B} (h : dqP n q s) : dqB n q s = true := @decide_eq_true _ (Classical.propDecidable _) h
theorem ecB_t {f : List B} {c : CM × (Nat → Nat → V)} (h : ecP f c) : ecB f c = true := @decide_eq_true _ (Classical.propDecidable _) h
theorem fillO_n (q : RW) : fillO f_n 1 q = (smallO (q.b 1) (q.s 1) && true) := by kernel_rfl
theorem dec_n (s : List B) (q : RW) (hq : dqP 2 q s) (hn : fkP f_n (q.s 0)) : LFn Pr 9 [.str s] [] (dV f_n q s) [] := by
  have hec : ecB f_n (cmF f_n q, aF (cmF f_n q).af) = true := ecB_t ⟨.inl rfl, hn, ⟨by show (0 : Nat) + 0 + 0 ≤ 9223372036854775807; decide, Nat.zero_le _⟩, rfl⟩
  refine dV_r rfl ?_
  have no : okD f_n q s = false → (fun r : Fin × Heap => r = (.ret (dVr f_n q s), [])) (.ret (.tup [.agg ((CM0 noT).csA .nilSl), .bool false]), []) := by
    intro e
    unfold dVr
    rw [if_neg (by rw [e]; decide)]
  have yes : okD f_n q s = true → (fun r : Fin × Heap => r = (.ret (dVr f_n q s), [])) (.ret (.tup [.agg ((cmF f_n q).csA .nilSl), .bool true]), []) := by
    intro e
    unfold dVr
    rw [if_pos e]
  unfold okD at no yes
  rw [fillO_n] at no yes
  refine fnT (OD2_sound f_n 2 q) mixed (by kernel_rfl) LoopsOk.noneT (dc_n_x s q) ?_
  refine wp_chk.2 ⟨by rw [dqB_t hq, fkB_t hn]; rfl, wp_br.2 ⟨fun e0 => wp_chk_true.2 (wp_leaf.2 (no ?_)), fun e0 => wp_chk.2 ⟨?_, wp_br.2 ⟨fun ea => wp_chk_true.2 (wp_br.2 ⟨fun eb => wp_chk_true.2 (wp_leaf.2 (no ?_)), fun eb => wp_chk_true.2 (wp_leaf.2 (yes ?_))⟩), fun ea => wp_chk_true.2 (wp_leaf.2 (no ?_))⟩⟩⟩⟩
  · have h0 : (smallO (q.b 1) (q.s 1)) = false := bn_t e0
    rw [h0]; rfl
  · exact hec
  · have h0 : (smallO (q.b 1) (q.s 1)) = true := bn_f e0
    have ha : eok f_n (cmF f_n q) = true := by rw [← eokO_eq]; exact ea
    have hb : (eS f_n (cmF f_n q) == s) = false := bn_t eb
    rw [h0, ha, hb]; rfl
  · have h0 : (smallO (q.b 1) (q.s 1)) = true := bn_f e0
    have ha : eok f_n (cmF f_n q) = true := by rw [← eokO_eq]; exact ea
    have hb : (eS f_n (cmF f_n q) == s) = true := bn_f eb
    rw [h0, ha, hb]; rfl
  · have h0 : (smallO (q.b 1) (q.s 1)) = true := bn_f e0
    have ha : eok f_n (cmF f_n q) = false := by rw [← eokO_eq]; exact ea
    rw [h0, ha]; rfl
theorem fillO_a (q : RW) : fillO f_a 1 q = true := by kernel_rfl
theorem dec_a (s : List B) (q : RW) (hq : dqP 2 q s) (hn : fkP f_a (q.s 0)) : LFn Pr 9 [.str s] [] (dV f_a q s) [] := by
  have hec : ecB f_a (cmF f_a q, aF (cmF f_a q).af) = true := ecB_t ⟨.inr (.inl rfl), hn, ⟨by show (0 : Nat) + 0 + 0 ≤ 9223372036854775807; decide, Nat.zero_le _⟩, rfl⟩
  refine dV_r rfl ?_
  have no : okD f_a q s = false → (fun r : Fin × Heap => r = (.ret (dVr f_a q s), [])) (.ret (.tup [.agg ((CM0 noT).csA .nilSl), .bool false]), []) := by
    intro e
    unfold dVr
    rw [if_neg (by rw [e]; decide)]
  have yes : okD f_a q s = true → (fun r : Fin × Heap => r = (.ret (dVr f_a q s), [])) (.ret (.tup [.agg ((cmF f_a q).csA .nilSl), .bool true]), []) := by
    intro e
    unfold dVr
    rw [if_pos e]
  unfold okD at no yes
  rw [fillO_a] at no yes
  refine fnT (OD2_sound f_a 2 q) mixed (by kernel_rfl) LoopsOk.noneT (dc_a_x s q) ?_
  refine wp_chk.2 ⟨?_, wp_br.2 ⟨fun ea => wp_chk_true.2 (wp_br.2 ⟨fun eb => wp_chk_true.2 (wp_leaf.2 (no ?_)), fun eb => wp_chk_true.2 (wp_leaf.2 (yes ?_))⟩), fun ea => wp_chk_true.2 (wp_leaf.2 (no ?_))⟩⟩
  · have h2 : (dqB 2 q s && true && true && (fkB f_a (q.s 0) && true && true && ecB f_a (cmF f_a q, aF (cmF f_a q).af))) = true := by rw [dqB_t hq, fkB_t hn, hec]; rfl
    exact h2
  · have ha : eok f_a (cmF f_a q) = true := by rw [← eokO_eq]; exact ea
    have hb : (eS f_a (cmF f_a q) == s) = false := bn_t eb
    rw [ha, hb]; rfl
  · have ha : eok f_a (cmF f_a q) = true := by rw [← eokO_eq]; exact ea
    have hb : (eS f_a (cmF f_a q) == s) = true := bn_f eb
    rw [ha, hb]; rfl
  · have ha : eok f_a (cmF f_a q) = false := by rw [← eokO_eq]; exact ea
    rw [ha]; rfl
theorem fillO_ak (q : RW) : fillO f_ak 1 q = (decide ((q.s 2).length ≤ 32) && true) := by kernel_rfl
theorem dec_ak (s : List B) (q : RW) (hq : dqP 3 q s) (hn : fkP f_ak (q.s 0)) : LFn Pr 9 [.str s] [] (dV f_ak q s) [] := by
  have hec : ecB f_ak (cmF f_ak q, aF (cmF f_ak q).af) = true := ecB_t ⟨.inr (.inr (.inl rfl)), hn, ⟨by show (0 : Nat) + 0 + 0 ≤ 9223372036854775807; decide, Nat.zero_le _⟩, rfl⟩
  refine dV_r rfl ?_
  have no : okD f_ak q s = false → (fun r : Fin × Heap => r = (.ret (dVr f_ak q s), [])) (.ret (.tup [.agg ((CM0 noT).csA .nilSl), .bool false]), []) := by
    intro e
    unfold dVr
    rw [if_neg (by rw [e]; decide)]
  have yes : okD f_ak q s = true → (fun r : Fin × Heap => r = (.ret (dVr f_ak q s), [])) (.ret (.tup [.agg ((cmF f_ak q).csA .nilSl), .bool true]), []) := by
    intro e
    unfold dVr
    rw [if_pos e]
  unfold okD at no yes
  rw [fillO_ak] at no yes
  refine fnT (OD2_sound f_ak 3 q) mixed (by kernel_rfl) LoopsOk.noneT (dc_ak_x s q) ?_
  refine wp_chk.2 ⟨by rw [dqB_t hq, fkB_t hn]; rfl, wp_br.2 ⟨fun e0 => wp_chk_true.2 (wp_leaf.2 (no ?_)), fun e0 => wp_chk.2 ⟨?_, wp_br.2 ⟨fun ea => wp_chk_true.2 (wp_br.2 ⟨fun eb => wp_chk_true.2 (wp_leaf.2 (no ?_)), fun eb => wp_chk_true.2 (wp_leaf.2 (yes ?_))⟩), fun ea => wp_chk_true.2 (wp_leaf.2 (no ?_))⟩⟩⟩⟩
  · have h0 : (decide ((q.s 2).length ≤ 32)) = false := bn_t e0
    rw [h0]; rfl
  · exact hec
  · have h0 : (decide ((q.s 2).length ≤ 32)) = true := bn_f e0
    have ha : eok f_ak (cmF f_ak q) = true := by rw [← eokO_eq]; exact ea
    have hb : (eS f_ak (cmF f_ak q) == s) = false := bn_t eb
    rw [h0, ha, hb]; rfl
  · have h0 : (decide ((q.s 2).length ≤ 32)) = true := bn_f e0
    have ha : eok f_ak (cmF f_ak q) = true := by rw [← eokO_eq]; exact ea
    have hb : (eS f_ak (cmF f_ak q) == s) = true := bn_f eb
    rw [h0, ha, hb]; rfl
  · have h0 : (decide ((q.s 2).length ≤ 32)) = true := bn_f e0
    have ha : eok f_ak (cmF f_ak q) = false := by rw [← eokO_eq]; exact ea
    rw [h0, ha]; rfl
theorem fillO_av (q : RW) : fillO f_av 1 q = (decide ((q.s 2).length ≤ 32) && true) := by kernel_rfl
theorem dec_av (s : List B) (q : RW) (hq : dqP 3 q s) (hn : fkP f_av (q.s 0)) : LFn Pr 9 [.str s] [] (dV f_av q s) [] := by
  have hec : ecB f_av (cmF f_av q, aF (cmF f_av q).af) = true := ecB_t ⟨.inr (.inr (.inr (.inl rfl))), hn, ⟨by show (0 : Nat) + 0 + 0 ≤ 9223372036854775807; decide, Nat.zero_le _⟩, rfl⟩
  refine dV_r rfl ?_
  have no : okD f_av q s = false → (fun r : Fin × Heap => r = (.ret (dVr f_av q s), [])) (.ret (.tup [.agg ((CM0 noT).csA .nilSl), .bool false]), []) := by
    intro e
    unfold dVr
    rw [if_neg (by rw [e]; decide)]
  have yes : okD f_av q s = true → (fun r : Fin × Heap => r = (.ret (dVr f_av q s), [])) (.ret (.tup [.agg ((cmF f_av q).csA .nilSl), .bool true]), []) := by
    intro e
    unfold dVr
    rw [if_pos e]
  unfold okD at no yes
  rw [fillO_av] at no yes
  refine fnT (OD2_sound f_av 3 q) mixed (by kernel_rfl) LoopsOk.noneT (dc_av_x s q) ?_
  refine wp_chk.2 ⟨by rw [dqB_t hq, fkB_t hn]; rfl, wp_br.2 ⟨fun e0 => wp_chk_true.2 (wp_leaf.2 (no ?_)), fun e0 => wp_chk.2 ⟨?_, wp_br.2 ⟨fun ea => wp_chk_true.2 (wp_br.2 ⟨fun eb => wp_chk_true.2 (wp_leaf.2 (no ?_)), fun eb => wp_chk_true.2 (wp_leaf.2 (yes ?_))⟩), fun ea => wp_chk_true.2 (wp_leaf.2 (no ?_))⟩⟩⟩⟩
  · have h0 : (decide ((q.s 2).length ≤ 32)) = false := bn_t e0
    rw [h0]; rfl
  · exact hec
  · have h0 : (decide ((q.s 2).length ≤ 32)) = true := bn_f e0
    have ha : eok f_av (cmF f_av q) = true := by rw [← eokO_eq]; exact ea
    have hb : (eS f_av (cmF f_av q) == s) = false := bn_t eb
    rw [h0, ha, hb]; rfl
  · have h0 : (decide ((q.s 2).length ≤ 32)) = true := bn_f e0
    have ha : eok f_av (cmF f_av q) = true := by rw [← eokO_eq]; exact ea
    have hb : (eS f_av (cmF f_av q) == s) = true := bn_f eb
    rw [h0, ha, hb]; rfl
  · have h0 : (decide ((q.s 2).length ≤ 32)) = true := bn_f e0
    have ha : eok f_av (cmF f_av q) = false := by rw [← eokO_eq]; exact ea
    rw [h0, ha]; rfl
theorem fillO_an (q : RW) : fillO f_an 1 q = (smallO (q.b 2) (q.s 2) && true) := by kernel_rfl
theorem dec_an (s : List B) (q : RW) (hq : dqP 3 q s) (hn : fkP f_an (q.s 0)) : LFn Pr 9 [.str s] [] (dV f_an q s) [] := by
  have hec : ecB f_an (cmF f_an q, aF (cmF f_an q).af) = true := ecB_t ⟨.inr (.inr (.inr (.inr (.inl rfl)))), hn, ⟨by show (0 : Nat) + 0 + 0 ≤ 9223372036854775807; decide, Nat.zero_le _⟩, rfl⟩
  refine dV_r rfl ?_
  have no : okD f_an q s = false → (fun r : Fin × Heap => r = (.ret (dVr f_an q s), [])) (.ret (.tup [.agg ((CM0 noT).csA .nilSl), .bool false]), []) := by
    intro e
    unfold dVr
    rw [if_neg (by rw [e]; decide)]
  have yes : okD f_an q s = true → (fun r : Fin × Heap => r = (.ret (dVr f_an q s), [])) (.ret (.tup [.agg ((cmF f_an q).csA .nilSl), .bool true]), []) := by
    intro e
    unfold dVr
    rw [if_pos e]
  unfold okD at no yes
  rw [fillO_an] at no yes
  refine fnT (OD2_sound f_an 3 q) mixed (by kernel_rfl) LoopsOk.noneT (dc_an_x s q) ?_
  refine wp_chk.2 ⟨by rw [dqB_t hq, fkB_t hn]; rfl, wp_br.2 ⟨fun e0 => wp_chk_true.2 (wp_leaf.2 (no ?_)), fun e0 => wp_chk.2 ⟨?_, wp_br.2 ⟨fun ea => wp_chk_true.2 (wp_br.2 ⟨fun eb => wp_chk_true.2 (wp_leaf.2 (no ?_)), fun eb => wp_chk_true.2 (wp_leaf.2 (yes ?_))⟩), fun ea => wp_chk_true.2 (wp_leaf.2 (no ?_))⟩⟩⟩⟩
  · have h0 : (smallO (q.b 2) (q.s 2)) = false := bn_t e0
    rw [h0]; rfl
  · exact hec
  · have h0 : (smallO (q.b 2) (q.s 2)) = true := bn_f e0
    have ha : eok f_an (cmF f_an q) = true := by rw [← eokO_eq]; exact ea
    have hb : (eS f_an (cmF f_an q) == s) = false := bn_t eb
    rw [h0, ha, hb]; rfl
  · have h0 : (smallO (q.b 2) (q.s 2)) = true := bn_f e0
    have ha : eok f_an (cmF f_an q) = true := by rw [← eokO_eq]; exact ea
    have hb : (eS f_an (cmF f_an q) == s) = true := bn_f eb
    rw [h0, ha, hb]; rfl
  · have h0 : (smallO (q.b 2) (q.s 2)) = true := bn_f e0
    have ha : eok f_an (cmF f_an q) = false := by rw [← eokO_eq]; exact ea
    rw [h0, ha]; rfl
theorem fillO_as (q : RW) : fillO f_as 1 q = true := by kernel_rfl
theorem dec_as (s : List B) (q : RW) (hq : dqP 3 q s) (hn : fkP f_as (q.s 0)) : LFn Pr 9 [.str s] [] (dV f_as q s) [] := by
  have hec : ecB f_as (cmF f_as q, aF (cmF f_as q).af) = true := ecB_t ⟨.inr (.inr (.inr (.inr (.inr (.inl rfl))))), hn, ⟨by show (0 : Nat) + 0 + 0 ≤ 9223372036854775807; decide, Nat.zero_le _⟩, rfl⟩
  refine dV_r rfl ?_
  have no : okD f_as q s = false → (fun r : Fin × Heap => r = (.ret (dVr f_as q s), [])) (.ret (.tup [.agg ((CM0 noT).csA .nilSl), .bool false]), []) := by
    intro e
    unfold dVr
    rw [if_neg (by rw [e]; decide)]
  have yes : okD f_as q s = true → (fun r : Fin × Heap => r = (.ret (dVr f_as q s), [])) (.ret (.tup [.agg ((cmF f_as q).csA .nilSl), .bool true]), []) := by
    intro e
    unfold dVr
    rw [if_pos e]
  unfold okD at no yes
  rw [fillO_as] at no yes
  refine fnT (OD2_sound f_as 3 q) mixed (by kernel_rfl) LoopsOk.noneT (dc_as_x s q) ?_
  refine wp_chk.2 ⟨?_, wp_br.2 ⟨fun ea => wp_chk_true.2 (wp_br.2 ⟨fun eb => wp_chk_true.2 (wp_leaf.2 (no ?_)), fun eb => wp_chk_true.2 (wp_leaf.2 (yes ?_))⟩), fun ea => wp_chk_true.2 (wp_leaf.2 (no ?_))⟩⟩
  · have h2 : (dqB 3 q s && true && true && (fkB f_as (q.s 0) && true && true && ecB f_as (cmF f_as q, aF (cmF f_as q).af))) = true := by rw [dqB_t hq, fkB_t hn, hec]; rfl
    exact h2
  · have ha : eok f_as (cmF f_as q) = true := by rw [← eokO_eq]; exact ea
    have hb : (eS f_as (cmF f_as q) == s) = false := bn_t eb
    rw [ha, hb]; rfl
  · have ha : eok f_as (cmF f_as q) = true := by rw [← eokO_eq]; exact ea
    have hb : (eS f_as (cmF f_as q) == s) = true := bn_f eb
    rw [ha, hb]; rfl
  · have ha : eok f_as (cmF f_as q) = false := by rw [← eokO_eq]; exact ea
    rw [ha]; rfl
theorem fillO_akv (q : RW) : fillO f_akv 1 q = (decide ((q.s 2).length ≤ 32) && (decide ((q.s 3).length ≤ 32) && true)) := by kernel_rfl
theorem dec_akv (s : List B) (q : RW) (hq : dqP 4 q s) (hn : fkP f_akv (q.s 0)) : LFn Pr 9 [.str s] [] (dV f_akv q s) [] := by
  have hec : ecB f_akv (cmF f_akv q, aF (cmF f_akv q).af) = true := ecB_t ⟨.inr (.inr (.inr (.inr (.inr (.inr (.inl rfl)))))), hn, ⟨by show (0 : Nat) + 0 + 0 ≤ 9223372036854775807; decide, Nat.zero_le _⟩, rfl⟩
  refine dV_r rfl ?_
  have no : okD f_akv q s = false → (fun r : Fin × Heap => r = (.ret (dVr f_akv q s), [])) (.ret (.tup [.agg ((CM0 noT).csA .nilSl), .bool false]), []) := by
    intro e
    unfold dVr
    rw [if_neg (by rw [e]; decide)]
  have yes : okD f_akv q s = true → (fun r : Fin × Heap => r = (.ret (dVr f_akv q s), [])) (.ret (.tup [.agg ((cmF f_akv q).csA .nilSl), .bool true]), []) := by
    intro e
    unfold dVr
    rw [if_pos e]
  unfold okD at no yes
  rw [fillO_akv] at no yes
  refine fnT (OD2_sound f_akv 4 q) mixed (by kernel_rfl) LoopsOk.noneT (dc_akv_x s q) ?_
  refine wp_chk.2 ⟨by rw [dqB_t hq, fkB_t hn]; rfl, wp_br.2 ⟨fun e0 => wp_chk_true.2 (wp_leaf.2 (no ?_)), fun e0 => wp_chk_true.2 (wp_br.2 ⟨fun e1 => wp_chk_true.2 (wp_leaf.2 (no ?_)), fun e1 => wp_chk.2 ⟨?_, wp_br.2 ⟨fun ea => wp_chk_true.2 (wp_br.2 ⟨fun eb => wp_chk_true.2 (wp_leaf.2 (no ?_)), fun eb => wp_chk_true.2 (wp_leaf.2 (yes ?_))⟩), fun ea => wp_chk_true.2 (wp_leaf.2 (no ?_))⟩⟩⟩)⟩⟩
  · have h0 : (decide ((q.s 2).length ≤ 32)) = false := bn_t e0
    rw [h0]; rfl
  · have h0 : (decide ((q.s 2).length ≤ 32)) = true := bn_f e0
    have h1 : (decide ((q.s 3).length ≤ 32)) = false := bn_t e1
    rw [h0, h1]; rfl
  · exact hec
  · have h0 : (decide ((q.s 2).length ≤ 32)) = true := bn_f e0
    have h1 : (decide ((q.s 3).length ≤ 32)) = true := bn_f e1
    have ha : eok f_akv (cmF f_akv q) = true := by rw [← eokO_eq]; exact ea
    have hb : (eS f_akv (cmF f_akv q) == s) = false := bn_t eb
    rw [h0, h1, ha, hb]; rfl
  · have h0 : (decide ((q.s 2).length ≤ 32)) = true := bn_f e0
    have h1 : (decide ((q.s 3).length ≤ 32)) = true := bn_f e1
    have ha : eok f_akv (cmF f_akv q) = true := by rw [← eokO_eq]; exact ea
    have hb : (eS f_akv (cmF f_akv q) == s) = true := bn_f eb
    rw [h0, h1, ha, hb]; rfl
  · have h0 : (decide ((q.s 2).length ≤ 32)) = true := bn_f e0
    have h1 : (decide ((q.s 3).length ≤ 32)) = true := bn_f e1
    have ha : eok f_akv (cmF f_akv q) = false := by rw [← eokO_eq]; exact ea
    rw [h0, h1, ha]; rfl
theorem fillO_e (q : RW) : fillO f_e 1 q = true := by kernel_rfl
theorem dec_e (s : List B) (q : RW) (hq : dqP 1 q s) (hn : fkP f_e (q.s 0)) : LFn Pr 9 [.str s] [] (dV f_e q s) [] := by
  have hec : ecB f_e (cmF f_e q, aF (cmF f_e q).af) = true := ecB_t ⟨.inr (.inr (.inr (.inr (.inr (.inr (.inr (.inl rfl))))))), hn, ⟨by show (0 : Nat) + 0 + 0 ≤ 9223372036854775807; decide, Nat.zero_le _⟩, rfl⟩
  refine dV_r rfl ?_
  have no : okD f_e q s = false → (fun r : Fin × Heap => r = (.ret (dVr f_e q s), [])) (.ret (.tup [.agg ((CM0 noT).csA .nilSl), .bool false]), []) := by
    intro e
    unfold dVr
    rw [if_neg (by rw [e]; decide)]
  have yes : okD f_e q s = true → (fun r : Fin × Heap => r = (.ret (dVr f_e q s), [])) (.ret (.tup [.agg ((cmF f_e q).csA .nilSl), .bool true]), []) := by
    intro e
    unfold dVr
    rw [if_pos e]
  unfold okD at no yes
  rw [fillO_e] at no yes
  refine fnT (OD2_sound f_e 1 q) mixed (by kernel_rfl) LoopsOk.noneT (dc_e_x s q) ?_
  refine wp_chk.2 ⟨?_, wp_br.2 ⟨fun ea => wp_chk_true.2 (wp_br.2 ⟨fun eb => wp_chk_true.2 (wp_leaf.2 (no ?_)), fun eb => wp_chk_true.2 (wp_leaf.2 (yes ?_))⟩), fun ea => wp_chk_true.2 (wp_leaf.2 (no ?_))⟩⟩
  · have h2 : (dqB 1 q s && true && true && (fkB f_e (q.s 0) && true && true && ecB f_e (cmF f_e q, aF (cmF f_e q).af))) = true := by rw [dqB_t hq, fkB_t hn, hec]; rfl
    exact h2
  · have ha : eok f_e (cmF f_e q) = true := by rw [← eokO_eq]; exact ea
    have hb : (eS f_e (cmF f_e q) == s) = false := bn_t eb
    rw [ha, hb]; rfl
  · have ha : eok f_e (cmF f_e q) = true := by rw [← eokO_eq]; exact ea
    have hb : (eS f_e (cmF f_e q) == s) = true := bn_f eb
    rw [ha, hb]; rfl
  · have ha : eok f_e (cmF f_e q) = false := by rw [← eokO_eq]; exact ea
    rw [ha]; rfl
theorem fillO_s (q : RW) : fillO f_s 1 q = true := by kernel_rfl
theorem dec_s (s : List B) (q : RW) (hq : dqP 2 q s) (hn : fkP f_s (q.s 0)) : LFn Pr 9 [.str s] [] (dV f_s q s) [] := by
  have hec : ecB f_s (cmF f_s q, aF (cmF f_s q).af) = true := ecB_t ⟨.inr (.inr (.inr (.inr (.inr (.inr (.inr (.inr (.inl rfl)))))))), hn, ⟨by show (0 : Nat) + 0 + 0 ≤ 9223372036854775807; decide, Nat.zero_le _⟩, rfl⟩
  refine dV_r rfl ?_
  have no : okD f_s q s = false → (fun r : Fin × Heap => r = (.ret (dVr f_s q s), [])) (.ret (.tup [.agg ((CM0 noT).csA .nilSl), .bool false]), []) := by
    intro e
    unfold dVr
    rw [if_neg (by rw [e]; decide)]
  have yes : okD f_s q s = true → (fun r : Fin × Heap => r = (.ret (dVr f_s q s), [])) (.ret (.tup [.agg ((cmF f_s q).csA .nilSl), .bool true]), []) := by
    intro e
    unfold dVr
    rw [if_pos e]
  unfold okD at no yes
  rw [fillO_s] at no yes
  refine fnT (OD2_sound f_s 2 q) mixed (by kernel_rfl) LoopsOk.noneT (dc_s_x s q) ?_
  refine wp_chk.2 ⟨?_, wp_br.2 ⟨fun ea => wp_chk_true.2 (wp_br.2 ⟨fun eb => wp_chk_true.2 (wp_leaf.2 (no ?_)), fun eb => wp_chk_true.2 (wp_leaf.2 (yes ?_))⟩), fun ea => wp_chk_true.2 (wp_leaf.2 (no ?_))⟩⟩
  · have h2 : (dqB 2 q s && true && true && (fkB f_s (q.s 0) && true && true && ecB f_s (cmF f_s q, aF (cmF f_s q).af))) = true := by rw [dqB_t hq, fkB_t hn, hec]; rfl
    exact h2
  · have ha : eok f_s (cmF f_s q) = true := by rw [← eokO_eq]; exact ea
    have hb : (eS f_s (cmF f_s q) == s) = false := bn_t eb
    rw [ha, hb]; rfl
  · have ha : eok f_s (cmF f_s q) = true := by rw [← eokO_eq]; exact ea
    have hb : (eS f_s (cmF f_s q) == s) = true := bn_f eb
    rw [ha, hb]; rfl
  · have ha : eok f_s (cmF f_s q) = false := by rw [← eokO_eq]; exact ea
    rw [ha]; rfl
theorem fillO_t (q : RW) : fillO f_t 1 q = (tdO (q.s 1) && true) := by kernel_rfl
theorem txD_ok {s : List B} {c : CM} (h : txD s = some c) : rgtP c ∧ c.an ≤ most40 := by
  unfold txD at h
  split at h
  · rename_i l hd
    by_cases hx : l.length = 10 ∧ dOk (It.rI l)
    · have e : txQ (It.rI l) = c := by
        rw [if_pos hx] at h
        injection h
      rw [← e]
      refine ⟨hx.2.2.2.2.2, ?_⟩
      have := hx.2.2.2.2.2.2.2.2.1
      rw [m40]; omega
    · rw [if_neg hx] at h
      cases h
  · cases h
theorem dec_t (s : List B) (q : RW) (hq : dqP 2 q s) (hn : fkP f_t (q.s 0)) : LFn Pr 9 [.str s] [] (dV f_t q s) [] := by
  have hec : tdO (q.s 1) = true → ecB f_t (cmF f_t q, aF (cmF f_t q).af) = true := by
    intro h
    obtain ⟨c, hc⟩ : ∃ c, txD (q.s 1) = some c := @of_decide_eq_true _ (Classical.propDecidable _) h
    obtain ⟨⟨_, ⟨_, _, h2, h3, h4⟩, _⟩, h5⟩ := txD_ok hc
    refine ecB_t ⟨.inr (.inr (.inr (.inr (.inr (.inr (.inr (.inr (.inr rfl)))))))), hn, ⟨?_, ?_⟩, rfl⟩
    · show (tdC (q.s 1)).tf.length + (tdC (q.s 1)).tt.length + (tdC (q.s 1)).td.length ≤ 9223372036854775807
      rw [tdC_eq hc]
      have : c.tt.length ≤ 20 := by rcases h3 with h3 | h3 <;> simp [h3]
      omega
    · show (tdC (q.s 1)).an ≤ most40
      rw [tdC_eq hc]; exact h5
  have no : okD f_t q s = false → LFn Pr 9 [.str s] [] (.ret (.tup [.agg ((CM0 noT).csA .nilSl), .bool false])) [] → LFn Pr 9 [.str s] [] (dV f_t q s) [] := by
    intro e H
    unfold dV
    rw [if_neg (by rw [e]; decide)]
    exact LFn.wkRet H (.tup2 (Wks.agg (csA_wk rfl)) (.refl _))
  have go : ∀ r : Fin × Heap, (.chk true (.br (okD f_t q s) (.leaf (.ret (.tup [.agg (cmF f_t q).cs, .bool true]), [])) (.leaf (.ret (.tup [.agg ((CM0 noT).csA .nilSl), .bool false]), []))) : Tr (Fin × Heap)).is r → LFn Pr 9 [.str s] [] r.1 r.2 := by
    refine fnTT (OD2_sound f_t 2 q) mixed (by kernel_rfl) LoopsOk.noneT (dc_t_x s q) (fun r hr => ?_)
    rw [Tr.is_chk] at hr
    have hr := br_is hr.2
    have un : okD f_t q s = ((tdO (q.s 1) && true) && (eok f_t (cmF f_t q) && (eS f_t (cmF f_t q) == s))) := by unfold okD; rw [fillO_t]
    rw [un] at hr
    refine wp_chk.2 ⟨by rw [dqB_t hq, fkB_t hn]; rfl, wp_br.2 ⟨fun e0 => wp_chk.2 ⟨hec e0, wp_br.2 ⟨fun ea => wp_chk_true.2 (wp_br.2 ⟨fun eb => wp_chk_true.2 (wp_leaf.2 ?_), fun eb => wp_chk_true.2 (wp_leaf.2 ?_)⟩), fun ea => wp_chk_true.2 (wp_leaf.2 ?_)⟩⟩, fun e0 => wp_chk_true.2 (wp_leaf.2 ?_)⟩⟩
    · have ha : eok f_t (cmF f_t q) = true := by rw [← eokO_eq]; exact ea
      have hb : (eS f_t (cmF f_t q) == s) = false := bn_t eb
      rw [e0, ha, hb] at hr
      rw [hr]; rfl
    · have ha : eok f_t (cmF f_t q) = true := by rw [← eokO_eq]; exact ea
      have hb : (eS f_t (cmF f_t q) == s) = true := bn_f eb
      rw [e0, ha, hb] at hr
      rw [hr]; rfl
    · have ha : eok f_t (cmF f_t q) = false := by rw [← eokO_eq]; exact ea
      rw [e0, ha] at hr
      rw [hr]; rfl
    · rw [e0] at hr
      rw [hr]; rfl
  cases hx : okD f_t q s with
  | true =>
    have := go (.ret (.tup [.agg (cmF f_t q).cs, .bool true]), []) (by rw [hx]; exact Tr.is_chk.2 ⟨rfl, Tr.is_br.2 (by rw [if_pos rfl]; exact Tr.is_leaf.2 rfl)⟩)
    unfold dV
    rw [if_pos hx]; exact this
  | false => exact no hx (go (.ret (.tup [.agg ((CM0 noT).csA .nilSl), .bool false]), []) (by rw [hx]; exact Tr.is_chk.2 ⟨rfl, Tr.is_br.2 (by rw [if_neg (by decide)]; exact Tr.is_leaf.2 rfl)⟩))
end
end Go.Proofs.YtbgiickegljpoaaDoor.K
end
section
open Go Go.Lh
namespace Go.Proofs.YtbgiickegljpoaaDoor.K
noncomputable section
set_option maxRecDepth 100000
def dnB (s : List B) : Bool := @decide (decF s = none) (Classical.propDecidable _)
def dn_f (s : List B) : Tr (Fin × Heap) := .chk (dnB s) (.leaf (.ret (.tup [.agg [.bool false, .str [], .nilSl], .int .i64 (dcE s)]), []))
theorem dn_ok : ∀ args h r, ((ctT dc_read dn_f) args h).is r → LFn Pr 17 args h r.1 r.2 := by
  intro args h r hr
  refine dc_ok args h r ?_
  unfold ctT at hr ⊢
  split at hr
  · rename_i s hs
    rw [dn_f, Tr.is_chk] at hr
    obtain ⟨h1, hr⟩ := hr
    have h2 : decF s = none := @of_decide_eq_true _ (Classical.propDecidable _) h1
    rw [dc_f, Tr.is_br, if_neg (by rw [dcO_n h2]; decide)]
    exact hr
  · exact hr
def dtB (t s : List B) : Bool := @decide (decF s = some (.txt t)) (Classical.propDecidable _)
def dt_f (t s : List B) : Tr (Fin × Heap) := .chk (dtB t s) (.leaf (.ret (.tup [.agg [.bool false, .str t, .isl 3 0 (fun _ _ => .any)], .int .i64 0]), []))
theorem dt_ok (t : List B) : ∀ args h r, ((ctT dc_read (dt_f t)) args h).is r → LFn Pr 17 args h r.1 r.2 := by
  intro args h r hr
  refine dc_ok args h r ?_
  unfold ctT at hr ⊢
  split at hr
  · rename_i s hs
    rw [dt_f, Tr.is_chk] at hr
    obtain ⟨h1, hr⟩ := hr
    have h2 : decF s = some (.txt t) := @of_decide_eq_true _ (Classical.propDecidable _) h1
    rw [dc_f, Tr.is_br, if_pos (dcO_t h2), dcI_eq h2, itV_txt]
    exact hr
  · exact hr
theorem lookS_no : ∀ {es : List (List B × List B)} {s : List B}, hasS es s = false → lookS es s = []
  | [], s, h => rfl
  | (k, v) :: r, s, h => by
    unfold hasS at h
    unfold lookS
    cases he : eqB k s with
    | true => rw [he] at h; cases h
    | false => rw [he] at h; exact lookS_no (es := r) h
def fuB (s : List B) : Bool := @decide (hasS fieldsL s = false) (Classical.propDecidable _)
def fu_f (s : List B) : Tr (Fin × Heap) := .chk (fuB s) (.leaf (.ret (.tup [.str [], .bool false]), []))
theorem fu_ok : ∀ args h r, ((ctT readS fu_f) args h).is r → LFn Pr 10 args h r.1 r.2 := by
  refine ctT_ok (fun s => [.str s]) (fun _ => []) ?_ (fun a r h => ?_)
  · intro args h a e
    unfold readS at e
    split at e <;> cases e
    exact ⟨rfl, rfl⟩
  · rw [fu_f, Tr.is_chk, Tr.is_leaf] at h
    obtain ⟨h1, rfl⟩ := h
    have h2 : hasS fieldsL a = false := @of_decide_eq_true _ (Classical.propDecidable _) h1
    have := fields_fn a
    rw [h2, lookS_no h2] at this
    exact this
def OnA : OrcT := autoT Pr ext [(17, ctT dc_read dn_f)] [] 3
theorem OnA_sound : OrcSound Pr OnA.o := autoT_sound mixed ext_ok (KOkT.cons (Enters.of (fn := Go.Proofs.Tryd.f17) (by kernel_rfl) (by kernel_rfl)) dn_ok KOkT.nil) (by kernel_rfl) 3
def OnB (t : List B) : OrcT := autoT Pr ext [(17, ctT dc_read (dt_f t))] [] 3
theorem OnB_sound (t : List B) : OrcSound Pr (OnB t).o := autoT_sound mixed ext_ok (KOkT.cons (Enters.of (fn := Go.Proofs.Tryd.f17) (by kernel_rfl) (by kernel_rfl)) (dt_ok t) KOkT.nil) (by kernel_rfl) 3
def OnD (n : Nat) (q : RW) : OrcT := autoT Pr ext [(17, ctT dc_read (dq_f n q)), (10, ctT readS fu_f)] [] 3
theorem OnD_sound (n : Nat) (q : RW) : OrcSound Pr (OnD n q).o := autoT_sound mixed ext_ok (KOkT.cons (Enters.of (fn := Go.Proofs.Tryd.f17) (by kernel_rfl) (by kernel_rfl)) (dq_ok n q) (KOkT.cons (Enters.of (fn := Go.Proofs.Tryd.f10) (by kernel_rfl) (by kernel_rfl)) fu_ok KOkT.nil)) (by kernel_rfl) 3
def OnE (f : List B) (n : Nat) (q : RW) : OrcT := autoT Pr ext [(17, ctT dc_read (dq_f n q)), (10, ctT readS (fk_f f))] [] 3
theorem OnE_sound (f : List B) (n : Nat) (q : RW) : OrcSound Pr (OnE f n q).o := autoT_sound mixed ext_ok (KOkT.cons (Enters.of (fn := Go.Proofs.Tryd.f17) (by kernel_rfl) (by kernel_rfl)) (dq_ok n q) (KOkT.cons (Enters.of (fn := Go.Proofs.Tryd.f10) (by kernel_rfl) (by kernel_rfl)) (fk_ok f) KOkT.nil)) (by kernel_rfl) 3
def OnU : OrcT := autoT Pr ext [(10, ctT readS fu_f)] [] 3
theorem OnU_sound : OrcSound Pr OnU.o := autoT_sound mixed ext_ok (KOkT.cons (Enters.of (fn := Go.Proofs.Tryd.f10) (by kernel_rfl) (by kernel_rfl)) fu_ok KOkT.nil) (by kernel_rfl) 3
theorem eU_x (c : CM) : Tr.prune (Tr.Sh.any.l.l.l.l)
 (execBF Pr OnU noLoopsT (100 : Nat) Go.Proofs.Tryd.f8 [V.agg c.cs] []) =
 Tr.chk (fuB c.nm && true && true && true)
 (Tr.leaf (Fin.ret (V.tup [V.str (bytesOf (ByteArray.mk #[])), V.bool false]), [])) := by kernel_rfl
theorem dA_x (s : List B) : Tr.prune (Tr.Sh.any.l.l.l.l.both Tr.Sh.any.l.r.r.r)
 (execBF Pr OnA noLoopsT (100 : Nat) Go.Proofs.Tryd.f9 [V.str s] []) =
 Tr.chk (dnB s && true && true)
 (Tr.br (dcE s != (0 : Int))
 (Tr.chk true
 (Tr.leaf
 (Fin.ret
 (V.tup
 [V.agg
 ((CM0 noT).csA .nilSl),
 V.bool false]),
 [])))
 (Tr.chk true
 (Tr.leaf
 (Fin.ret
 (V.tup
 [V.agg
 ((CM0 noT).csA .nilSl),
 V.bool false]),
 [])))) := by kernel_rfl
theorem dB_x (t : List B) (s : List B) : Tr.prune (Tr.Sh.any.l.r.r.r.r)
 (execBF Pr (OnB t) noLoopsT (100 : Nat) Go.Proofs.Tryd.f9 [V.str s] []) =
 Tr.chk (dtB t s && true && true && true)
 (Tr.leaf
 (Fin.ret
 (V.tup
 [V.agg
 ((CM0 noT).csA .nilSl),
 V.bool false]),
 [])) := by kernel_rfl
theorem dC_x (q : RW) (s : List B) : Tr.prune (Tr.Sh.any.l.r.r.r.r)
 (execBF Pr (OnD (0 : Nat) q) noLoopsT (100 : Nat) Go.Proofs.Tryd.f9 [V.str s] []) =
 Tr.chk (dqB (0 : Nat) q s && true && true && true)
 (Tr.leaf
 (Fin.ret
 (V.tup
 [V.agg
 ((CM0 noT).csA .nilSl),
 V.bool false]),
 [])) := by kernel_rfl
theorem dD_x (n : Nat) (q : RW) (s : List B) : Tr.prune ((Tr.Sh.any.both (lsh 8 Tr.Sh.any)).r.r.r.r)
 (execBF Pr (OnD n q) noLoopsT (100 : Nat) Go.Proofs.Tryd.f9 [V.str s] []) =
 Tr.chk (dqB n q s && true && true && true)
 (Tr.br ((↑n : Int) == (0 : Int))
 (Tr.chk true
 (Tr.leaf
 (Fin.ret
 (V.tup
 [V.agg
 ((CM0 noT).csA .nilSl),
 V.bool false]),
 [])))
 (Tr.chk
 (decide ((0 : Int) < (↑n : Int)) && (decide ((0 : Nat) < n) && true && true) &&
 (fuB (q.s (0 : Nat)) && true && true) &&
 true)
 (Tr.leaf
 (Fin.ret
 (V.tup
 [V.agg
 ((CM0 noT).csA .nilSl),
 V.bool false]),
 [])))) := by kernel_rfl
theorem dE_x (f : List B) (n : Nat) (q : RW) (s : List B) : Tr.prune ((Tr.Sh.any.both
 (Tr.Sh.any.both Tr.Sh.any).r.r.r.r.r.r.r).r.r.r.r)
 (execBYE Pr (OnE f n q) noLoopsT (100 : Nat) Go.Proofs.Tryd.f9 (0 : Nat) (Tell.mk [] [] []) (Tell.mk [] [] [])
 (takeSeq (5 : Nat) (bodyOf Go.Proofs.Tryd.f9)) [((0 : Nat), V.str s)] []) =
 Tr.chk (dqB n q s && true && true && true)
 (Tr.br ((↑n : Int) == (0 : Int))
 (Tr.chk true
 (Tr.leaf
 (Sum.inl
 (Fin.ret
 (V.tup
 [V.agg
 ((CM0 noT).csA .nilSl),
 V.bool false]),
 []))))
 (Tr.chk
 (decide ((0 : Int) < (↑n : Int)) && (decide ((0 : Nat) < n) && true && true) &&
 (fkB f (q.s (0 : Nat)) && true && true) &&
 true)
 (Tr.br ((↑n : Int) != wrapI IntKind.i64 ((1 : Int) + (↑f.length : Int)))
 (Tr.chk true
 (Tr.leaf
 (Sum.inl
 (Fin.ret
 (V.tup
 [V.agg
 ((CM0 noT).csA .nilSl),
 V.bool false]),
 []))))
 (Tr.leaf (Sum.inr (X.normal, [], [])))))) := by kernel_rfl
end
end Go.Proofs.YtbgiickegljpoaaDoor.K
end
section
open Go Go.Lh
namespace Go.Proofs.YtbgiickegljpoaaDoor.K
noncomputable section
set_option maxRecDepth 100000
def nmL (l : List It) : List B := (It.rI l).s 0
def dcC (s : List B) : Option CM := match decF s with
  | some (.lst l) => @ite _ (l.length = (lookS fieldsL (nmL l)).length + 1 ∧ hasS fieldsL (nmL l) = true ∧ okD (lookS fieldsL (nmL l)) (It.rI l) s = true) (Classical.propDecidable _) (some (cmF (lookS fieldsL (nmL l)) (It.rI l))) none
  | _ => none
theorem fields_val : ∀ p ∈ fieldsL, p.2 = f_t ∨ p.2 = f_n ∨ p.2 = f_a ∨ p.2 = f_ak ∨ p.2 = f_av ∨ p.2 = f_an ∨ p.2 = f_as ∨ p.2 = f_akv ∨ p.2 = f_e ∨ p.2 = f_s := by decide
theorem fields_len : ∀ p ∈ fieldsL, p.2.length ≤ 3 := by decide
theorem fk_isF {s : List B} (h : hasS fieldsL s = true) : isF (lookS fieldsL s) := by
  obtain ⟨p, h1, h2, h3⟩ := hasS_mem h
  rw [h3]
  rcases fields_val p h1 with h | h | h | h | h | h | h | h | h | h
  · exact .inr (.inr (.inr (.inr (.inr (.inr (.inr (.inr (.inr h))))))))
  · exact .inl h
  · exact .inr (.inl h)
  · exact .inr (.inr (.inl h))
  · exact .inr (.inr (.inr (.inl h)))
  · exact .inr (.inr (.inr (.inr (.inl h))))
  · exact .inr (.inr (.inr (.inr (.inr (.inl h)))))
  · exact .inr (.inr (.inr (.inr (.inr (.inr (.inl h))))))
  · exact .inr (.inr (.inr (.inr (.inr (.inr (.inr (.inl h)))))))
  · exact .inr (.inr (.inr (.inr (.inr (.inr (.inr (.inr (.inl h))))))))
theorem fk_len3 {s : List B} (h : hasS fieldsL s = true) : (lookS fieldsL s).length ≤ 3 := by
  obtain ⟨p, h1, h2, h3⟩ := hasS_mem h
  rw [h3]
  exact fields_len p h1
theorem dec_all {f : List B} (hf : isF f) (s : List B) (q : RW) (hq : dqP (f.length + 1) q s) (hn : fkP f (q.s 0)) : LFn Pr 9 [.str s] [] (dV f q s) [] := by
  rcases hf with rfl | rfl | rfl | rfl | rfl | rfl | rfl | rfl | rfl | rfl
  · exact dec_n s q hq hn
  · exact dec_a s q hq hn
  · exact dec_ak s q hq hn
  · exact dec_av s q hq hn
  · exact dec_an s q hq hn
  · exact dec_as s q hq hn
  · exact dec_akv s q hq hn
  · exact dec_e s q hq hn
  · exact dec_s s q hq hn
  · exact dec_t s q hq hn
theorem dnB_t {s : List B} (h : decF s = none) : dnB s = true := @decide_eq_true _ (Classical.propDecidable _) h
theorem dtB_t {t s : List B} (h : decF s = some (.txt t)) : dtB t s = true := @decide_eq_true _ (Classical.propDecidable _) h
theorem fuB_t {s : List B} (h : hasS fieldsL s = false) : fuB s = true := @decide_eq_true _ (Classical.propDecidable _) h
theorem zero_wk : V.Wk (.tup [.agg ((CM0 noT).csA .nilSl), .bool false]) (.tup [.agg (CM0 noT).cs, .bool false]) := .tup2 (Wks.agg (csA_wk rfl)) (.refl _)
theorem decode_fn (s : List B) : LFn Pr 9 [.str s] [] (dcV (dcC s)) [] := by
  cases h : decF s with
  | none =>
    have e : dcC s = none := by unfold dcC; rw [h]
    rw [e]
    refine LFn.wkRet ?_ zero_wk
    refine fnT OnA_sound mixed (by kernel_rfl) LoopsOk.noneT (dA_x s) ?_
    refine wp_chk.2 ⟨by rw [dnB_t h]; rfl, wp_br.2 ⟨fun _ => wp_chk_true.2 (wp_leaf.2 rfl), fun _ => wp_chk_true.2 (wp_leaf.2 rfl)⟩⟩
  | some x =>
    cases x with
    | txt t =>
      have e : dcC s = none := by unfold dcC; rw [h]
      rw [e]
      refine LFn.wkRet ?_ zero_wk
      refine fnT (OnB_sound t) mixed (by kernel_rfl) LoopsOk.noneT (dB_x t s) ?_
      refine wp_chk.2 ⟨by rw [dtB_t h]; rfl, wp_leaf.2 rfl⟩
    | lst l =>
      have hq : dqP l.length (It.rI l) s := ⟨l, h, rfl, rfl⟩
      by_cases hl : l.length = 0
      · have e : dcC s = none := by
          unfold dcC; rw [h]; simp only
          rw [if_neg (fun e => by omega)]
        rw [e]
        rw [hl] at hq
        refine LFn.wkRet ?_ zero_wk
        refine fnT (OnD_sound 0 (It.rI l)) mixed (by kernel_rfl) LoopsOk.noneT (dC_x (It.rI l) s) ?_
        refine wp_chk.2 ⟨by rw [dqB_t hq]; rfl, wp_leaf.2 rfl⟩
      · cases hh : hasS fieldsL (nmL l) with
        | false =>
          have e : dcC s = none := by
            unfold dcC; rw [h]; simp only
            rw [if_neg (fun e => by rw [hh] at e; cases e.2.1)]
          rw [e]
          refine LFn.wkRet ?_ zero_wk
          refine fnT (OnD_sound l.length (It.rI l)) mixed (by kernel_rfl) LoopsOk.noneT (dD_x l.length (It.rI l) s) ?_
          refine wp_chk.2 ⟨by rw [dqB_t hq]; rfl, wp_br.2 ⟨fun _ => wp_chk_true.2 (wp_leaf.2 rfl), fun _ => wp_chk.2 ⟨?_, wp_leaf.2 rfl⟩⟩⟩
          have e1 : fuB ((It.rI l).s 0) = true := fuB_t hh
          rw [e1, decide_eq_true (show (0 : Int) < (l.length : Int) by omega), decide_eq_true (show 0 < l.length by omega)]; rfl
        | true =>
          have hn : fkP (lookS fieldsL (nmL l)) ((It.rI l).s 0) := ⟨rfl, hh⟩
          by_cases hlen : l.length = (lookS fieldsL (nmL l)).length + 1
          · have hF : isF (lookS fieldsL (nmL l)) := fk_isF hh
            have H := dec_all hF s (It.rI l) (by rw [← hlen]; exact hq) hn
            have e : dcV (dcC s) = dV (lookS fieldsL (nmL l)) (It.rI l) s := by
              unfold dcC dV; rw [h]; simp only
              by_cases ho : okD (lookS fieldsL (nmL l)) (It.rI l) s = true
              · rw [if_pos ⟨hlen, hh, ho⟩, if_pos ho]
              · rw [if_neg (fun e => ho e.2.2), if_neg ho]
            rw [e]; exact H
          · have e : dcC s = none := by
              unfold dcC; rw [h]; simp only
              rw [if_neg (fun e => hlen e.1)]
            rw [e]
            have hf3 := fk_len3 hh
            refine LFn.wkRet ?_ zero_wk
            refine EndsIn.done (fn := Go.Proofs.Tryd.f9) (by kernel_rfl) (by kernel_rfl) (by kernel_rfl) ?_
            refine EndsIn.cutY (L := noLoopsT) 5 (OnE_sound (lookS fieldsL (nmL l)) l.length (It.rI l)) mixed (by kernel_rfl) noLoops_all (by kernel_rfl) (dE_x (lookS fieldsL (nmL l)) l.length (It.rI l) s) ?_
            refine wp_chk.2 ⟨by rw [dqB_t hq]; rfl, wp_br.2 ⟨fun _ => wp_chk_true.2 (wp_leaf.2 ⟨trivial, .inr ⟨_, rfl, .inl rfl⟩⟩), fun _ => wp_chk.2 ⟨?_, wp_br.2 ⟨fun _ => wp_chk_true.2 (wp_leaf.2 ⟨trivial, .inr ⟨_, rfl, .inl rfl⟩⟩), fun e9 => ?_⟩⟩⟩⟩
            · have e1 : fkB (lookS fieldsL (nmL l)) ((It.rI l).s 0) = true := fkB_t hn
              rw [e1, decide_eq_true (show (0 : Int) < (l.length : Int) by omega), decide_eq_true (show 0 < l.length by omega)]; rfl
            · exfalso
              have e8 : (1 : Int) + ((lookS fieldsL (nmL l)).length : Int) = (((lookS fieldsL (nmL l)).length + 1 : Nat) : Int) := by omega
              rw [e8, wrapI_nat (by omega)] at e9
              have := bne_eq_false_iff_eq.1 e9
              omega
def ddO (s : List B) : Bool := @decide (∃ c, dcC s = some c) (Classical.propDecidable _)
def ddC (s : List B) : CM := @ite _ True (Classical.propDecidable True) ((dcC s).getD (CM0 noT)) (CM0 noT)
theorem ddC_eq {s : List B} {c : CM} (h : dcC s = some c) : ddC s = c := by unfold ddC; rw [if_pos trivial, h]; rfl
theorem ddO_t {s : List B} {c : CM} (h : dcC s = some c) : ddO s = true := @decide_eq_true _ (Classical.propDecidable _) ⟨c, h⟩
theorem ddO_n {s : List B} (h : dcC s = none) : ddO s = false := @decide_eq_false _ (Classical.propDecidable _) (by rw [h]; rintro ⟨c, e⟩; cases e)
def dd_f (s : List B) : Tr (Fin × Heap) := .br (ddO s) (.leaf (.ret (.tup [.agg (ddC s).cs, .bool true]), [])) (.leaf (.ret (.tup [.agg (CM0 noT).cs, .bool false]), []))
theorem dd_ok : ∀ args h r, ((ctT readS dd_f) args h).is r → LFn Pr 9 args h r.1 r.2 := by
  refine ctT_ok (fun s => [.str s]) (fun _ => []) ?_ (fun s r h => ?_)
  · intro args h a e
    unfold readS at e
    split at e <;> cases e
    exact ⟨rfl, rfl⟩
  · have h := br_is h
    subst h
    have H := decode_fn s
    cases hc : dcC s with
    | none => rw [hc] at H; rw [if_neg (by rw [ddO_n hc]; decide)]; exact H
    | some c => rw [hc] at H; rw [if_pos (ddO_t hc), ddC_eq hc]; exact H
def eeP (a : CM × (Nat → Nat → V)) : Prop := okC a.1 ∧ a.2 = aF a.1.af
def eeB (a : CM × (Nat → Nat → V)) : Bool := @decide (eeP a) (Classical.propDecidable _)
def eeOk (c : CM) : Prop := hasS fieldsL c.nm = true ∧ eok (lookS fieldsL c.nm) c = true
def eeO (c : CM) : Bool := @decide (eeOk c) (Classical.propDecidable _)
def eeS (c : CM) : List B := @ite _ True (Classical.propDecidable True) (eS (lookS fieldsL c.nm) c) []
theorem eeS_eq (c : CM) : eeS c = eS (lookS fieldsL c.nm) c := if_pos trivial
theorem eeO_iff {c : CM} : eeO c = true ↔ eeOk c := ⟨@of_decide_eq_true _ (Classical.propDecidable _), @decide_eq_true _ (Classical.propDecidable _)⟩
theorem eeB_t {c : CM} (h : okC c) : eeB (c, aF c.af) = true := @decide_eq_true _ (Classical.propDecidable _) ⟨h, rfl⟩
def eeV (c : CM) : Fin := if eeO c = true then .ret (.tup [.str (eeS c), .bool true]) else .ret (.tup [.str [], .bool false])
theorem encode_c (c : CM) (h : okC c) : LFn Pr 8 [.agg c.cs] [] (eeV c) [] := by
  cases hh : hasS fieldsL c.nm with
  | true =>
    have H := enc_all (fk_isF hh) c ⟨rfl, hh⟩ h
    unfold eV at H
    unfold eeV
    by_cases hx : eok (lookS fieldsL c.nm) c = true
    · rw [if_pos hx] at H
      rw [if_pos (eeO_iff.2 ⟨hh, hx⟩), eeS_eq]; exact H
    · rw [if_neg hx] at H
      rw [if_neg (fun e => hx (eeO_iff.1 e).2)]; exact H
  | false =>
    unfold eeV
    rw [if_neg (fun e => by have := (eeO_iff.1 e).1; rw [hh] at this; cases this)]
    refine fnT OnU_sound mixed (by kernel_rfl) LoopsOk.noneT (eU_x c) ?_
    exact wp_chk.2 ⟨by rw [fuB_t hh]; rfl, wp_leaf.2 rfl⟩
def ee_f (a : CM × (Nat → Nat → V)) : Tr (Fin × Heap) := .chk (eeB a) (.br (eeO a.1) (.leaf (.ret (.tup [.str (eeS a.1), .bool true]), [])) (.leaf (.ret (.tup [.str [], .bool false]), [])))
theorem ee_ok : ∀ args h r, ((ctT ca_read ee_f) args h).is r → LFn Pr 8 args h r.1 r.2 := by
  intro args h r hr
  unfold ctT at hr
  split at hr
  · rename_i a e
    rw [ee_f, Tr.is_chk] at hr
    obtain ⟨h1, hr⟩ := hr
    have hr := br_is hr
    subst hr
    obtain ⟨h2, h3⟩ : eeP a := @of_decide_eq_true _ (Classical.propDecidable _) h1
    obtain ⟨hw, rfl⟩ := ca_wk e h3
    have H := LFn.wkArgs (encode_c a.1 h2) hw
    unfold eeV at H
    by_cases hh : eeO a.1 = true
    · rw [if_pos hh] at H ⊢; exact H
    · rw [if_neg hh] at H ⊢; exact H
  · exact (Tr.is_no.1 hr).elim
end
end Go.Proofs.YtbgiickegljpoaaDoor.K
end
