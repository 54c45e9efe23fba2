/- The functions that this law reaches: what each comes to. -/
import Derived.Test.YtbgiickegljpoaaDoorCCCuts2
set_option linter.unusedSimpArgs false
set_option linter.unusedVariables false
section
open Go Go.Lh
namespace Go.Proofs.YtbgiickegljpoaaDoor.K
noncomputable section
set_option maxRecDepth 100000
def nmL (l : List It) : List B := (It.rI l).s 0
def dcC (s : List B) : Option CM := match decF s with
  | some (.lst l) => @ite _ (l.length = (lookS fieldsL (nmL l)).length + 1 ∧ hasS fieldsL (nmL l) = true ∧ okD (lookS fieldsL (nmL l)) (It.rI l) s = true) (Classical.propDecidable _) (some (cmF (lookS fieldsL (nmL l)) (It.rI l))) none
  | _ => none
def noTx (s : List B) : Prop := ∀ l, decF s = some (.lst l) → hasS fieldsL (nmL l) = true → l.length = 2 → lookS fieldsL (nmL l) ≠ f_t
theorem fields_val : ∀ p ∈ fieldsL, p.2 = f_t ∨ p.2 = f_n ∨ p.2 = f_a ∨ p.2 = f_ak ∨ p.2 = f_av ∨ p.2 = f_an ∨ p.2 = f_as ∨ p.2 = f_akv ∨ p.2 = f_e ∨ p.2 = f_s := by decide
theorem fields_len : ∀ p ∈ fieldsL, p.2.length ≤ 3 := by decide
theorem fk_isF {s : List B} (h : hasS fieldsL s = true) : lookS fieldsL s = f_t ∨ isF (lookS fieldsL s) := by
  obtain ⟨p, h1, h2, h3⟩ := hasS_mem h
  rw [h3]
  exact fields_val p h1
theorem fk_len3 {s : List B} (h : hasS fieldsL s = true) : (lookS fieldsL s).length ≤ 3 := by
  obtain ⟨p, h1, h2, h3⟩ := hasS_mem h
  rw [h3]
  exact fields_len p h1
theorem dec_all {f : List B} (hf : isF f) (s : List B) (q : RW) (hq : dqP (f.length + 1) q s) (hn : fkP f (q.s 0)) : LFn Pr 9 [.str s] [] (dV f q s) [] := by
  rcases hf with rfl | rfl | rfl | rfl | rfl | rfl | rfl | rfl | rfl
  · exact dec_n s q hq hn
  · exact dec_a s q hq hn
  · exact dec_ak s q hq hn
  · exact dec_av s q hq hn
  · exact dec_an s q hq hn
  · exact dec_as s q hq hn
  · exact dec_akv s q hq hn
  · exact dec_e s q hq hn
  · exact dec_s s q hq hn
theorem dnB_t {s : List B} (h : decF s = none) : dnB s = true := @decide_eq_true _ (Classical.propDecidable _) h
theorem dtB_t {t s : List B} (h : decF s = some (.txt t)) : dtB t s = true := @decide_eq_true _ (Classical.propDecidable _) h
theorem fuB_t {s : List B} (h : hasS fieldsL s = false) : fuB s = true := @decide_eq_true _ (Classical.propDecidable _) h
theorem decode_fn (s : List B) (hx : noTx s) : LFn Pr 9 [.str s] [] (dcV (dcC s)) [] := by
  cases h : decF s with
  | none =>
    have e : dcC s = none := by unfold dcC; rw [h]
    rw [e]
    refine fnT OnA_sound mixed (by kernel_rfl) LoopsOk.noneT (dA_x s) ?_
    refine wp_chk.2 ⟨by rw [dnB_t h]; rfl, wp_br.2 ⟨fun _ => wp_chk_true.2 (wp_leaf.2 rfl), fun _ => wp_chk_true.2 (wp_leaf.2 rfl)⟩⟩
  | some x =>
    cases x with
    | txt t =>
      have e : dcC s = none := by unfold dcC; rw [h]
      rw [e]
      refine fnT (OnB_sound t) mixed (by kernel_rfl) LoopsOk.noneT (dB_x t s) ?_
      refine wp_chk.2 ⟨by rw [dtB_t h]; rfl, wp_leaf.2 rfl⟩
    | lst l =>
      have hq : dqP l.length (It.rI l) s := ⟨l, h, rfl, rfl⟩
      by_cases hl : l.length = 0
      · have e : dcC s = none := by
          unfold dcC; rw [h]; simp only
          rw [if_neg (fun e => by omega)]
        rw [e]
        rw [hl] at hq
        refine fnT (OnD_sound 0 (It.rI l)) mixed (by kernel_rfl) LoopsOk.noneT (dC_x (It.rI l) s) ?_
        refine wp_chk.2 ⟨by rw [dqB_t hq]; rfl, wp_leaf.2 rfl⟩
      · cases hh : hasS fieldsL (nmL l) with
        | false =>
          have e : dcC s = none := by
            unfold dcC; rw [h]; simp only
            rw [if_neg (fun e => by rw [hh] at e; cases e.2.1)]
          rw [e]
          refine fnT (OnD_sound l.length (It.rI l)) mixed (by kernel_rfl) LoopsOk.noneT (dD_x l.length (It.rI l) s) ?_
          refine wp_chk.2 ⟨by rw [dqB_t hq]; rfl, wp_br.2 ⟨fun _ => wp_chk_true.2 (wp_leaf.2 rfl), fun _ => wp_chk.2 ⟨?_, wp_leaf.2 rfl⟩⟩⟩
          have e1 : fuB ((It.rI l).s 0) = true := fuB_t hh
          rw [e1, decide_eq_true (show (0 : Int) < (l.length : Int) by omega), decide_eq_true (show 0 < l.length by omega)]; rfl
        | true =>
          have hn : fkP (lookS fieldsL (nmL l)) ((It.rI l).s 0) := ⟨rfl, hh⟩
          by_cases hlen : l.length = (lookS fieldsL (nmL l)).length + 1
          · have hF : isF (lookS fieldsL (nmL l)) := by
              rcases fk_isF hh with h9 | h9
              · exact absurd h9 (hx l h hh (by rw [hlen, h9]; rfl))
              · exact h9
            have H := dec_all hF s (It.rI l) (by rw [← hlen]; exact hq) hn
            have e : dcV (dcC s) = dV (lookS fieldsL (nmL l)) (It.rI l) s := by
              unfold dcC dV; rw [h]; simp only
              by_cases ho : okD (lookS fieldsL (nmL l)) (It.rI l) s = true
              · rw [if_pos ⟨hlen, hh, ho⟩, if_pos ho]
              · rw [if_neg (fun e => ho e.2.2), if_neg ho]
            rw [e]; exact H
          · have e : dcC s = none := by
              unfold dcC; rw [h]; simp only
              rw [if_neg (fun e => hlen e.1)]
            rw [e]
            have hf3 := fk_len3 hh
            refine EndsIn.done (fn := Go.Proofs.Tryd.f9) (by kernel_rfl) (by kernel_rfl) (by kernel_rfl) ?_
            refine EndsIn.cutY (L := noLoopsT) 5 (OnE_sound (lookS fieldsL (nmL l)) l.length (It.rI l)) mixed (by kernel_rfl) noLoops_all (by kernel_rfl) (dE_x (lookS fieldsL (nmL l)) l.length (It.rI l) s) ?_
            refine wp_chk.2 ⟨by rw [dqB_t hq]; rfl, wp_br.2 ⟨fun _ => wp_chk_true.2 (wp_leaf.2 ⟨trivial, .inr ⟨_, rfl, .inl rfl⟩⟩), fun _ => wp_chk.2 ⟨?_, wp_br.2 ⟨fun _ => wp_chk_true.2 (wp_leaf.2 ⟨trivial, .inr ⟨_, rfl, .inl rfl⟩⟩), fun e9 => ?_⟩⟩⟩⟩
            · have e1 : fkB (lookS fieldsL (nmL l)) ((It.rI l).s 0) = true := fkB_t hn
              rw [e1, decide_eq_true (show (0 : Int) < (l.length : Int) by omega), decide_eq_true (show 0 < l.length by omega)]; rfl
            · exfalso
              have e8 : (1 : Int) + ((lookS fieldsL (nmL l)).length : Int) = (((lookS fieldsL (nmL l)).length + 1 : Nat) : Int) := by omega
              rw [e8, wrapI_nat (by omega)] at e9
              have := bne_eq_false_iff_eq.1 e9
              omega
/-- as an oracle answers -/
def ddB (s : List B) : Bool := @decide (noTx s) (Classical.propDecidable _)
def ddO (s : List B) : Bool := @decide (∃ c, dcC s = some c) (Classical.propDecidable _)
def ddC (s : List B) : CM := @ite _ True (Classical.propDecidable True) ((dcC s).getD (CM0 noT)) (CM0 noT)
theorem ddC_eq {s : List B} {c : CM} (h : dcC s = some c) : ddC s = c := by unfold ddC; rw [if_pos trivial, h]; rfl
theorem ddO_t {s : List B} {c : CM} (h : dcC s = some c) : ddO s = true := @decide_eq_true _ (Classical.propDecidable _) ⟨c, h⟩
theorem ddO_n {s : List B} (h : dcC s = none) : ddO s = false := @decide_eq_false _ (Classical.propDecidable _) (by rw [h]; rintro ⟨c, e⟩; cases e)
theorem ddB_t {s : List B} (h : noTx s) : ddB s = true := @decide_eq_true _ (Classical.propDecidable _) h
theorem noTx_none {s : List B} (h : decF s = none) : noTx s := by intro l e; rw [h] at e; cases e
theorem dcC_none {s : List B} (h : decF s = none) : dcC s = none := by unfold dcC; rw [h]
def dd_f (s : List B) : Tr (Fin × Heap) := .chk (ddB s) (.br (ddO s) (.leaf (.ret (.tup [.agg ((ddC s).cs .nilSl), .bool true]), [])) (.leaf (.ret (.tup [.agg ((CM0 noT).cs .nilSl), .bool false]), [])))
theorem dd_ok : ∀ args h r, ((ctT readS dd_f) args h).is r → LFn Pr 9 args h r.1 r.2 := by
  refine ctT_ok (fun s => [.str s]) (fun _ => []) ?_ (fun s r h => ?_)
  · intro args h a e
    unfold readS at e
    split at e <;> cases e
    exact ⟨rfl, rfl⟩
  · rw [dd_f, Tr.is_chk, Tr.is_br] at h
    obtain ⟨h1, h⟩ := h
    have h2 : noTx s := @of_decide_eq_true _ (Classical.propDecidable _) h1
    have H := decode_fn s h2
    cases hc : dcC s with
    | none =>
      rw [hc] at H
      rw [if_neg (by rw [ddO_n hc]; decide), Tr.is_leaf] at h
      subst h; exact H
    | some c =>
      rw [hc] at H
      rw [if_pos (ddO_t hc), Tr.is_leaf, ddC_eq hc] at h
      subst h; exact H
/-- Encode of any command but for transactions -/
def eeP (c : CM) : Prop := isF (lookS fieldsL c.nm) ∧ hasS fieldsL c.nm = true ∧ okC c
def eeB (c : CM) : Bool := @decide (eeP c) (Classical.propDecidable _)
def eeO (c : CM) : Bool := @decide (eok (lookS fieldsL c.nm) c = true) (Classical.propDecidable _)
def eeS (c : CM) : List B := @ite _ True (Classical.propDecidable True) (eS (lookS fieldsL c.nm) c) []
theorem eeS_eq (c : CM) : eeS c = eS (lookS fieldsL c.nm) c := if_pos trivial
theorem eeO_eq (c : CM) : eeO c = eok (lookS fieldsL c.nm) c := eokO_eq (lookS fieldsL c.nm) c
theorem eeB_t {c : CM} (h : eeP c) : eeB c = true := @decide_eq_true _ (Classical.propDecidable _) h
def ee_f (c : CM) : Tr (Fin × Heap) := .chk (eeB c) (.br (eeO c) (.leaf (.ret (.tup [.str (eeS c), .bool true]), [])) (.leaf (.ret (.tup [.str [], .bool false]), [])))
theorem ee_ok : ∀ args h r, ((ctT ca_read ee_f) args h).is r → LFn Pr 8 args h r.1 r.2 := by
  intro args h r hr
  unfold ctT at hr
  split at hr
  · rename_i c hc
    rw [ee_f, Tr.is_chk] at hr
    obtain ⟨h1, hr⟩ := hr
    obtain ⟨h2, h3, h4⟩ : eeP c := @of_decide_eq_true _ (Classical.propDecidable _) h1
    refine ecm_ok (lookS fieldsL c.nm) args h r ?_
    unfold ctT
    rw [hc]
    show (ecm_f (lookS fieldsL c.nm) c).is r
    rw [ecm_f, Tr.is_chk]
    rw [eeS_eq] at hr
    exact ⟨ecB_t ⟨h2, ⟨rfl, h3⟩, h4⟩, hr⟩
  · exact (Tr.is_no.1 hr).elim
end
end Go.Proofs.YtbgiickegljpoaaDoor.K
end
section
open Go Go.Lh
namespace Go.Proofs.YtbgiickegljpoaaDoor.K
noncomputable section
set_option maxRecDepth 100000
def OCh : OrcT := autoT Pr ext [] [19,39] 4
theorem OCh_sound : OrcSound Pr OCh.o := autoT_sound mixed ext_ok KOkT.nil (by kernel_rfl) 4
theorem ch_x (s : List B) : Tr.prune ((Tr.Sh.any.both
    (Tr.Sh.any.both
        (Tr.Sh.any.both
            (Tr.Sh.any.both
                (Tr.Sh.any.both
                    (Tr.Sh.any.both
                        (Tr.Sh.any.both
                            (Tr.Sh.any.both
                                (Tr.Sh.any.both
                                    (Tr.Sh.any.both
                                        (Tr.Sh.any.both
                                            (Tr.Sh.any.both
                                                (Tr.Sh.any.both Tr.Sh.any.r).l).l).l).l).l).l).l).l).l).l).l).l).l)
  (execBF Pr OCh noLoopsT (100 : Nat) Go.Proofs.Tryd.f11 [V.str s] []) =
  Tr.chk true
  (Tr.br
    (s ==
      bytesOf
        (ByteArray.mk
          #[OfNat.ofNat (115 : Nat), OfNat.ofNat (101 : Nat), OfNat.ofNat (110 : Nat), OfNat.ofNat (100 : Nat)]))
    (Tr.chk true (Tr.leaf (Fin.ret (V.bool true), [])))
    (Tr.chk true
      (Tr.br
        (s ==
          bytesOf
            (ByteArray.mk
              #[OfNat.ofNat (109 : Nat), OfNat.ofNat (105 : Nat), OfNat.ofNat (110 : Nat), OfNat.ofNat (101 : Nat)]))
        (Tr.chk true (Tr.leaf (Fin.ret (V.bool true), [])))
        (Tr.chk true
          (Tr.br
            (s ==
              bytesOf
                (ByteArray.mk
                  #[OfNat.ofNat (119 : Nat), OfNat.ofNat (97 : Nat), OfNat.ofNat (114 : Nat), OfNat.ofNat (112 : Nat)]))
            (Tr.chk true (Tr.leaf (Fin.ret (V.bool true), [])))
            (Tr.chk true
              (Tr.br
                (s ==
                  bytesOf
                    (ByteArray.mk
                      #[OfNat.ofNat (97 : Nat), OfNat.ofNat (117 : Nat), OfNat.ofNat (116 : Nat),
                        OfNat.ofNat (111 : Nat)]))
                (Tr.chk true (Tr.leaf (Fin.ret (V.bool true), [])))
                (Tr.chk true
                  (Tr.br
                    (s ==
                      bytesOf
                        (ByteArray.mk
                          #[OfNat.ofNat (115 : Nat), OfNat.ofNat (101 : Nat), OfNat.ofNat (116 : Nat),
                            OfNat.ofNat (98 : Nat), OfNat.ofNat (97 : Nat), OfNat.ofNat (108 : Nat),
                            OfNat.ofNat (97 : Nat), OfNat.ofNat (110 : Nat), OfNat.ofNat (99 : Nat),
                            OfNat.ofNat (101 : Nat)]))
                    (Tr.chk true (Tr.leaf (Fin.ret (V.bool true), [])))
                    (Tr.chk true
                      (Tr.br
                        (s ==
                          bytesOf
                            (ByteArray.mk
                              #[OfNat.ofNat (115 : Nat), OfNat.ofNat (101 : Nat), OfNat.ofNat (116 : Nat),
                                OfNat.ofNat (110 : Nat), OfNat.ofNat (111 : Nat), OfNat.ofNat (110 : Nat),
                                OfNat.ofNat (99 : Nat), OfNat.ofNat (101 : Nat)]))
                        (Tr.chk true (Tr.leaf (Fin.ret (V.bool true), [])))
                        (Tr.chk true
                          (Tr.br
                            (s ==
                              bytesOf
                                (ByteArray.mk
                                  #[OfNat.ofNat (115 : Nat), OfNat.ofNat (101 : Nat), OfNat.ofNat (116 : Nat),
                                    OfNat.ofNat (99 : Nat), OfNat.ofNat (111 : Nat), OfNat.ofNat (100 : Nat),
                                    OfNat.ofNat (101 : Nat)]))
                            (Tr.chk true (Tr.leaf (Fin.ret (V.bool true), [])))
                            (Tr.chk true
                              (Tr.br
                                (s ==
                                  bytesOf
                                    (ByteArray.mk
                                      #[OfNat.ofNat (115 : Nat), OfNat.ofNat (101 : Nat), OfNat.ofNat (116 : Nat),
                                        OfNat.ofNat (115 : Nat), OfNat.ofNat (108 : Nat), OfNat.ofNat (111 : Nat),
                                        OfNat.ofNat (116 : Nat)]))
                                (Tr.chk true (Tr.leaf (Fin.ret (V.bool true), [])))
                                (Tr.chk true
                                  (Tr.br
                                    (s ==
                                      bytesOf
                                        (ByteArray.mk
                                          #[OfNat.ofNat (105 : Nat), OfNat.ofNat (109 : Nat), OfNat.ofNat (112 : Nat),
                                            OfNat.ofNat (101 : Nat), OfNat.ofNat (114 : Nat), OfNat.ofNat (115 : Nat),
                                            OfNat.ofNat (111 : Nat), OfNat.ofNat (110 : Nat), OfNat.ofNat (97 : Nat),
                                            OfNat.ofNat (116 : Nat), OfNat.ofNat (101 : Nat)]))
                                    (Tr.chk true (Tr.leaf (Fin.ret (V.bool true), [])))
                                    (Tr.chk true
                                      (Tr.br
                                        (s ==
                                          bytesOf
                                            (ByteArray.mk
                                              #[OfNat.ofNat (115 : Nat), OfNat.ofNat (116 : Nat),
                                                OfNat.ofNat (111 : Nat), OfNat.ofNat (112 : Nat)]))
                                        (Tr.chk true (Tr.leaf (Fin.ret (V.bool true), [])))
                                        (Tr.chk true
                                          (Tr.br
                                            (s ==
                                              bytesOf
                                                (ByteArray.mk
                                                  #[OfNat.ofNat (115 : Nat), OfNat.ofNat (110 : Nat),
                                                    OfNat.ofNat (97 : Nat), OfNat.ofNat (112 : Nat),
                                                    OfNat.ofNat (115 : Nat), OfNat.ofNat (104 : Nat),
                                                    OfNat.ofNat (111 : Nat), OfNat.ofNat (116 : Nat)]))
                                            (Tr.chk true (Tr.leaf (Fin.ret (V.bool true), [])))
                                            (Tr.chk true
                                              (Tr.br
                                                (s ==
                                                  bytesOf
                                                    (ByteArray.mk
                                                      #[OfNat.ofNat (114 : Nat), OfNat.ofNat (101 : Nat),
                                                        OfNat.ofNat (118 : Nat), OfNat.ofNat (101 : Nat),
                                                        OfNat.ofNat (114 : Nat), OfNat.ofNat (116 : Nat)]))
                                                (Tr.chk true (Tr.leaf (Fin.ret (V.bool true), [])))
                                                (Tr.chk true
                                                  (Tr.br
                                                    (s ==
                                                      bytesOf
                                                        (ByteArray.mk
                                                          #[OfNat.ofNat (108 : Nat), OfNat.ofNat (111 : Nat),
                                                            OfNat.ofNat (97 : Nat), OfNat.ofNat (100 : Nat)]))
                                                    (Tr.chk true (Tr.leaf (Fin.ret (V.bool true), [])))
                                                    (Tr.chk true
                                                      (Tr.leaf
                                                        (Fin.ret (V.bool false),
                                                          [])))))))))))))))))))))))))))) := by kernel_rfl
def chgL : List (List B) := [n_send, n_mine, n_warp, n_auto, n_setbalance, n_setnonce, n_setcode, n_setslot, n_impersonate, n_stop, n_snapshot, n_revert, n_load]
def chgB (s : List B) : Bool := (s == n_send) || (s == n_mine) || (s == n_warp) || (s == n_auto) || (s == n_setbalance) || (s == n_setnonce) || (s == n_setcode) || (s == n_setslot) || (s == n_impersonate) || (s == n_stop) || (s == n_snapshot) || (s == n_revert) || (s == n_load)
theorem ofW_bytes (w : W4) : ofW w.bytes = w := by
  unfold ofW; rw [if_pos (by rw [W4.bytes_length]; decide), W4.ofBytes_bytes]
theorem smO_numB (n : BitVec 64) : smallO false (numB n) = true := by rw [smallO_eq]; exact numB_small n
theorem deps_txt : ∀ xs : List (List B), It.deps (xs.map .txt) ≤ 1
  | [] => by rw [List.map_nil, It.deps]; exact Nat.zero_le _
  | x :: r => by
    have := deps_txt r
    rw [List.map_cons, It.deps, It.dep]
    omega
theorem bw {b : Bool} (h : b = true) : (b && true) = true := by rw [h]; rfl
theorem list_beq (s : List B) : (s == s) = true := by simp
def pick_n (c : CM) : CM := ({ CM0 c.nm with n := c.n } : CM)
theorem cmF_n (c : CM) : cmF f_n (It.rI ((eTs f_n c).map .txt)) = pick_n c := by
  show ({ CM0 c.nm with n := smallN false (numB c.n) } : CM) = pick_n c
  rw [smallN_numB]
  try rfl
theorem fo_n (c : CM) : fillO f_n 1 (It.rI ((eTs f_n c).map .txt)) = true := by
  rw [fillO_n]
  show (smallO false (numB c.n) && true) = true
  simp only [smO_numB, W4.bytes_length, Bool.and_true, Bool.true_and]
theorem eok_pick_n (c : CM) (h : eok f_n c = true) : eok f_n (pick_n c) = true := by
  rw [eok_n] at h ⊢
  rw [Bool.and_eq_true] at h ⊢
  refine ⟨?_, h.2⟩
  rw [bareB_n]
  try rfl
theorem eTs_pick_n (c : CM) : eTs f_n (pick_n c) = eTs f_n c := rfl
theorem back_n (c : CM) (hn : fkP f_n c.nm) (h : eok f_n c = true) (hl : (enc (eIt f_n c)).length ≤ 65536) : dcC (eS f_n c) = some (pick_n c) := by
  have hd : decF (eS f_n c) = some (eIt f_n c) := by
    rw [eS_eq]
    exact decF_fwd _ (by unfold eIt; rw [It.dep]; have := deps_txt (eTs f_n c); omega) hl
  have hs : eS f_n (pick_n c) = eS f_n c := by rw [eS_eq, eS_eq, eIt, eIt, eTs_pick_n]
  have hnm : nmL ((eTs f_n c).map .txt) = c.nm := rfl
  unfold dcC
  rw [hd]
  unfold eIt
  simp only
  rw [hnm, hn.1, hn.2]
  have ho : okD f_n (It.rI ((eTs f_n c).map .txt)) (eS f_n c) = true := by
    unfold okD
    rw [fo_n, cmF_n, eok_pick_n c h, hs, list_beq]; rfl
  rw [if_pos ⟨rfl, rfl, ho⟩, cmF_n]
def pick_a (c : CM) : CM := ({ CM0 c.nm with ad := c.ad } : CM)
theorem cmF_a (c : CM) : cmF f_a (It.rI ((eTs f_a c).map .txt)) = pick_a c := by
  show ({ CM0 c.nm with ad := c.ad } : CM) = pick_a c
  rfl
theorem fo_a (c : CM) : fillO f_a 1 (It.rI ((eTs f_a c).map .txt)) = true := by
  rw [fillO_a]
theorem eok_pick_a (c : CM) (h : eok f_a c = true) : eok f_a (pick_a c) = true := by
  rw [eok_a] at h ⊢
  rw [Bool.and_eq_true] at h ⊢
  refine ⟨?_, h.2⟩
  rw [bareB_a]
  try rfl
theorem eTs_pick_a (c : CM) : eTs f_a (pick_a c) = eTs f_a c := rfl
theorem back_a (c : CM) (hn : fkP f_a c.nm) (h : eok f_a c = true) (hl : (enc (eIt f_a c)).length ≤ 65536) : dcC (eS f_a c) = some (pick_a c) := by
  have hd : decF (eS f_a c) = some (eIt f_a c) := by
    rw [eS_eq]
    exact decF_fwd _ (by unfold eIt; rw [It.dep]; have := deps_txt (eTs f_a c); omega) hl
  have hs : eS f_a (pick_a c) = eS f_a c := by rw [eS_eq, eS_eq, eIt, eIt, eTs_pick_a]
  have hnm : nmL ((eTs f_a c).map .txt) = c.nm := rfl
  unfold dcC
  rw [hd]
  unfold eIt
  simp only
  rw [hnm, hn.1, hn.2]
  have ho : okD f_a (It.rI ((eTs f_a c).map .txt)) (eS f_a c) = true := by
    unfold okD
    rw [fo_a, cmF_a, eok_pick_a c h, hs, list_beq]; rfl
  rw [if_pos ⟨rfl, rfl, ho⟩, cmF_a]
def pick_ak (c : CM) : CM := ({ CM0 c.nm with ad := c.ad, k := c.k } : CM)
theorem cmF_ak (c : CM) : cmF f_ak (It.rI ((eTs f_ak c).map .txt)) = pick_ak c := by
  show ({ CM0 c.nm with ad := c.ad, k := ofW c.k.bytes } : CM) = pick_ak c
  rw [ofW_bytes]
  try rfl
theorem fo_ak (c : CM) : fillO f_ak 1 (It.rI ((eTs f_ak c).map .txt)) = true := by
  rw [fillO_ak]
  show (decide (c.k.bytes.length ≤ 32) && true) = true
  simp only [smO_numB, W4.bytes_length, Bool.and_true, Bool.true_and]
  try decide
theorem eok_pick_ak (c : CM) (h : eok f_ak c = true) : eok f_ak (pick_ak c) = true := by
  rw [eok_ak] at h ⊢
  rw [Bool.and_eq_true] at h ⊢
  refine ⟨?_, h.2⟩
  rw [bareB_ak]
  try rfl
theorem eTs_pick_ak (c : CM) : eTs f_ak (pick_ak c) = eTs f_ak c := rfl
theorem back_ak (c : CM) (hn : fkP f_ak c.nm) (h : eok f_ak c = true) (hl : (enc (eIt f_ak c)).length ≤ 65536) : dcC (eS f_ak c) = some (pick_ak c) := by
  have hd : decF (eS f_ak c) = some (eIt f_ak c) := by
    rw [eS_eq]
    exact decF_fwd _ (by unfold eIt; rw [It.dep]; have := deps_txt (eTs f_ak c); omega) hl
  have hs : eS f_ak (pick_ak c) = eS f_ak c := by rw [eS_eq, eS_eq, eIt, eIt, eTs_pick_ak]
  have hnm : nmL ((eTs f_ak c).map .txt) = c.nm := rfl
  unfold dcC
  rw [hd]
  unfold eIt
  simp only
  rw [hnm, hn.1, hn.2]
  have ho : okD f_ak (It.rI ((eTs f_ak c).map .txt)) (eS f_ak c) = true := by
    unfold okD
    rw [fo_ak, cmF_ak, eok_pick_ak c h, hs, list_beq]; rfl
  rw [if_pos ⟨rfl, rfl, ho⟩, cmF_ak]
def pick_av (c : CM) : CM := ({ CM0 c.nm with ad := c.ad, v := c.v } : CM)
theorem cmF_av (c : CM) : cmF f_av (It.rI ((eTs f_av c).map .txt)) = pick_av c := by
  show ({ CM0 c.nm with ad := c.ad, v := ofW c.v.bytes } : CM) = pick_av c
  rw [ofW_bytes]
  try rfl
theorem fo_av (c : CM) : fillO f_av 1 (It.rI ((eTs f_av c).map .txt)) = true := by
  rw [fillO_av]
  show (decide (c.v.bytes.length ≤ 32) && true) = true
  simp only [smO_numB, W4.bytes_length, Bool.and_true, Bool.true_and]
  try decide
theorem eok_pick_av (c : CM) (h : eok f_av c = true) : eok f_av (pick_av c) = true := by
  rw [eok_av] at h ⊢
  rw [Bool.and_eq_true] at h ⊢
  refine ⟨?_, h.2⟩
  rw [bareB_av]
  try rfl
theorem eTs_pick_av (c : CM) : eTs f_av (pick_av c) = eTs f_av c := rfl
theorem back_av (c : CM) (hn : fkP f_av c.nm) (h : eok f_av c = true) (hl : (enc (eIt f_av c)).length ≤ 65536) : dcC (eS f_av c) = some (pick_av c) := by
  have hd : decF (eS f_av c) = some (eIt f_av c) := by
    rw [eS_eq]
    exact decF_fwd _ (by unfold eIt; rw [It.dep]; have := deps_txt (eTs f_av c); omega) hl
  have hs : eS f_av (pick_av c) = eS f_av c := by rw [eS_eq, eS_eq, eIt, eIt, eTs_pick_av]
  have hnm : nmL ((eTs f_av c).map .txt) = c.nm := rfl
  unfold dcC
  rw [hd]
  unfold eIt
  simp only
  rw [hnm, hn.1, hn.2]
  have ho : okD f_av (It.rI ((eTs f_av c).map .txt)) (eS f_av c) = true := by
    unfold okD
    rw [fo_av, cmF_av, eok_pick_av c h, hs, list_beq]; rfl
  rw [if_pos ⟨rfl, rfl, ho⟩, cmF_av]
def pick_an (c : CM) : CM := ({ CM0 c.nm with ad := c.ad, n := c.n } : CM)
theorem cmF_an (c : CM) : cmF f_an (It.rI ((eTs f_an c).map .txt)) = pick_an c := by
  show ({ CM0 c.nm with ad := c.ad, n := smallN false (numB c.n) } : CM) = pick_an c
  rw [smallN_numB]
  try rfl
theorem fo_an (c : CM) : fillO f_an 1 (It.rI ((eTs f_an c).map .txt)) = true := by
  rw [fillO_an]
  show (smallO false (numB c.n) && true) = true
  simp only [smO_numB, W4.bytes_length, Bool.and_true, Bool.true_and]
theorem eok_pick_an (c : CM) (h : eok f_an c = true) : eok f_an (pick_an c) = true := by
  rw [eok_an] at h ⊢
  rw [Bool.and_eq_true] at h ⊢
  refine ⟨?_, h.2⟩
  rw [bareB_an]
  try rfl
theorem eTs_pick_an (c : CM) : eTs f_an (pick_an c) = eTs f_an c := rfl
theorem back_an (c : CM) (hn : fkP f_an c.nm) (h : eok f_an c = true) (hl : (enc (eIt f_an c)).length ≤ 65536) : dcC (eS f_an c) = some (pick_an c) := by
  have hd : decF (eS f_an c) = some (eIt f_an c) := by
    rw [eS_eq]
    exact decF_fwd _ (by unfold eIt; rw [It.dep]; have := deps_txt (eTs f_an c); omega) hl
  have hs : eS f_an (pick_an c) = eS f_an c := by rw [eS_eq, eS_eq, eIt, eIt, eTs_pick_an]
  have hnm : nmL ((eTs f_an c).map .txt) = c.nm := rfl
  unfold dcC
  rw [hd]
  unfold eIt
  simp only
  rw [hnm, hn.1, hn.2]
  have ho : okD f_an (It.rI ((eTs f_an c).map .txt)) (eS f_an c) = true := by
    unfold okD
    rw [fo_an, cmF_an, eok_pick_an c h, hs, list_beq]; rfl
  rw [if_pos ⟨rfl, rfl, ho⟩, cmF_an]
def pick_as (c : CM) : CM := ({ CM0 c.nm with ad := c.ad, s := c.s } : CM)
theorem cmF_as (c : CM) : cmF f_as (It.rI ((eTs f_as c).map .txt)) = pick_as c := by
  show ({ CM0 c.nm with ad := c.ad, s := c.s } : CM) = pick_as c
  rfl
theorem fo_as (c : CM) : fillO f_as 1 (It.rI ((eTs f_as c).map .txt)) = true := by
  rw [fillO_as]
theorem eok_pick_as (c : CM) (h : eok f_as c = true) : eok f_as (pick_as c) = true := by
  rw [eok_as] at h ⊢
  rw [Bool.and_eq_true] at h ⊢
  refine ⟨?_, h.2⟩
  rw [bareB_as]
  try rfl
theorem eTs_pick_as (c : CM) : eTs f_as (pick_as c) = eTs f_as c := rfl
theorem back_as (c : CM) (hn : fkP f_as c.nm) (h : eok f_as c = true) (hl : (enc (eIt f_as c)).length ≤ 65536) : dcC (eS f_as c) = some (pick_as c) := by
  have hd : decF (eS f_as c) = some (eIt f_as c) := by
    rw [eS_eq]
    exact decF_fwd _ (by unfold eIt; rw [It.dep]; have := deps_txt (eTs f_as c); omega) hl
  have hs : eS f_as (pick_as c) = eS f_as c := by rw [eS_eq, eS_eq, eIt, eIt, eTs_pick_as]
  have hnm : nmL ((eTs f_as c).map .txt) = c.nm := rfl
  unfold dcC
  rw [hd]
  unfold eIt
  simp only
  rw [hnm, hn.1, hn.2]
  have ho : okD f_as (It.rI ((eTs f_as c).map .txt)) (eS f_as c) = true := by
    unfold okD
    rw [fo_as, cmF_as, eok_pick_as c h, hs, list_beq]; rfl
  rw [if_pos ⟨rfl, rfl, ho⟩, cmF_as]
def pick_akv (c : CM) : CM := ({ CM0 c.nm with ad := c.ad, k := c.k, v := c.v } : CM)
theorem cmF_akv (c : CM) : cmF f_akv (It.rI ((eTs f_akv c).map .txt)) = pick_akv c := by
  show ({ CM0 c.nm with ad := c.ad, k := ofW c.k.bytes, v := ofW c.v.bytes } : CM) = pick_akv c
  rw [ofW_bytes, ofW_bytes]
  try rfl
theorem fo_akv (c : CM) : fillO f_akv 1 (It.rI ((eTs f_akv c).map .txt)) = true := by
  rw [fillO_akv]
  show (decide (c.k.bytes.length ≤ 32) && (decide (c.v.bytes.length ≤ 32) && true)) = true
  simp only [smO_numB, W4.bytes_length, Bool.and_true, Bool.true_and]
  try decide
theorem eok_pick_akv (c : CM) (h : eok f_akv c = true) : eok f_akv (pick_akv c) = true := by
  rw [eok_akv] at h ⊢
  rw [Bool.and_eq_true] at h ⊢
  refine ⟨?_, h.2⟩
  rw [bareB_akv]
  try rfl
theorem eTs_pick_akv (c : CM) : eTs f_akv (pick_akv c) = eTs f_akv c := rfl
theorem back_akv (c : CM) (hn : fkP f_akv c.nm) (h : eok f_akv c = true) (hl : (enc (eIt f_akv c)).length ≤ 65536) : dcC (eS f_akv c) = some (pick_akv c) := by
  have hd : decF (eS f_akv c) = some (eIt f_akv c) := by
    rw [eS_eq]
    exact decF_fwd _ (by unfold eIt; rw [It.dep]; have := deps_txt (eTs f_akv c); omega) hl
  have hs : eS f_akv (pick_akv c) = eS f_akv c := by rw [eS_eq, eS_eq, eIt, eIt, eTs_pick_akv]
  have hnm : nmL ((eTs f_akv c).map .txt) = c.nm := rfl
  unfold dcC
  rw [hd]
  unfold eIt
  simp only
  rw [hnm, hn.1, hn.2]
  have ho : okD f_akv (It.rI ((eTs f_akv c).map .txt)) (eS f_akv c) = true := by
    unfold okD
    rw [fo_akv, cmF_akv, eok_pick_akv c h, hs, list_beq]; rfl
  rw [if_pos ⟨rfl, rfl, ho⟩, cmF_akv]
def pick_e (c : CM) : CM := (CM0 c.nm)
theorem cmF_e (c : CM) : cmF f_e (It.rI ((eTs f_e c).map .txt)) = pick_e c := by
  show (CM0 c.nm) = pick_e c
  rfl
theorem fo_e (c : CM) : fillO f_e 1 (It.rI ((eTs f_e c).map .txt)) = true := by
  rw [fillO_e]
theorem eok_pick_e (c : CM) (h : eok f_e c = true) : eok f_e (pick_e c) = true := by
  rw [eok_e] at h ⊢
  rw [Bool.and_eq_true] at h ⊢
  refine ⟨?_, h.2⟩
  rw [bareB_e]
  try rfl
theorem eTs_pick_e (c : CM) : eTs f_e (pick_e c) = eTs f_e c := rfl
theorem back_e (c : CM) (hn : fkP f_e c.nm) (h : eok f_e c = true) (hl : (enc (eIt f_e c)).length ≤ 65536) : dcC (eS f_e c) = some (pick_e c) := by
  have hd : decF (eS f_e c) = some (eIt f_e c) := by
    rw [eS_eq]
    exact decF_fwd _ (by unfold eIt; rw [It.dep]; have := deps_txt (eTs f_e c); omega) hl
  have hs : eS f_e (pick_e c) = eS f_e c := by rw [eS_eq, eS_eq, eIt, eIt, eTs_pick_e]
  have hnm : nmL ((eTs f_e c).map .txt) = c.nm := rfl
  unfold dcC
  rw [hd]
  unfold eIt
  simp only
  rw [hnm, hn.1, hn.2]
  have ho : okD f_e (It.rI ((eTs f_e c).map .txt)) (eS f_e c) = true := by
    unfold okD
    rw [fo_e, cmF_e, eok_pick_e c h, hs, list_beq]; rfl
  rw [if_pos ⟨rfl, rfl, ho⟩, cmF_e]
def pick_s (c : CM) : CM := ({ CM0 c.nm with s := c.s } : CM)
theorem cmF_s (c : CM) : cmF f_s (It.rI ((eTs f_s c).map .txt)) = pick_s c := by
  show ({ CM0 c.nm with s := c.s } : CM) = pick_s c
  rfl
theorem fo_s (c : CM) : fillO f_s 1 (It.rI ((eTs f_s c).map .txt)) = true := by
  rw [fillO_s]
theorem eok_pick_s (c : CM) (h : eok f_s c = true) : eok f_s (pick_s c) = true := by
  rw [eok_s] at h ⊢
  rw [Bool.and_eq_true] at h ⊢
  refine ⟨?_, h.2⟩
  rw [bareB_s]
  try rfl
theorem eTs_pick_s (c : CM) : eTs f_s (pick_s c) = eTs f_s c := rfl
theorem back_s (c : CM) (hn : fkP f_s c.nm) (h : eok f_s c = true) (hl : (enc (eIt f_s c)).length ≤ 65536) : dcC (eS f_s c) = some (pick_s c) := by
  have hd : decF (eS f_s c) = some (eIt f_s c) := by
    rw [eS_eq]
    exact decF_fwd _ (by unfold eIt; rw [It.dep]; have := deps_txt (eTs f_s c); omega) hl
  have hs : eS f_s (pick_s c) = eS f_s c := by rw [eS_eq, eS_eq, eIt, eIt, eTs_pick_s]
  have hnm : nmL ((eTs f_s c).map .txt) = c.nm := rfl
  unfold dcC
  rw [hd]
  unfold eIt
  simp only
  rw [hnm, hn.1, hn.2]
  have ho : okD f_s (It.rI ((eTs f_s c).map .txt)) (eS f_s c) = true := by
    unfold okD
    rw [fo_s, cmF_s, eok_pick_s c h, hs, list_beq]; rfl
  rw [if_pos ⟨rfl, rfl, ho⟩, cmF_s]
theorem changes_fn (s : List B) : LFn Pr 11 [.str s] [] (.ret (.bool (chgB s))) [] := by
  have yes : chgB s = true → (fun r : Fin × Heap => r = (.ret (.bool (chgB s)), [])) (.ret (.bool true), []) := by intro e; rw [e]
  have no : chgB s = false → (fun r : Fin × Heap => r = (.ret (.bool (chgB s)), [])) (.ret (.bool false), []) := by intro e; rw [e]
  refine fnT OCh_sound mixed (by kernel_rfl) LoopsOk.noneT (ch_x s) ?_
  refine wp_chk_true.2 (wp_br.2 ⟨fun e0 => wp_chk_true.2 (wp_leaf.2 (yes ?_)), fun e0 => wp_chk_true.2 (wp_br.2 ⟨fun e1 => wp_chk_true.2 (wp_leaf.2 (yes ?_)), fun e1 => wp_chk_true.2 (wp_br.2 ⟨fun e2 => wp_chk_true.2 (wp_leaf.2 (yes ?_)), fun e2 => wp_chk_true.2 (wp_br.2 ⟨fun e3 => wp_chk_true.2 (wp_leaf.2 (yes ?_)), fun e3 => wp_chk_true.2 (wp_br.2 ⟨fun e4 => wp_chk_true.2 (wp_leaf.2 (yes ?_)), fun e4 => wp_chk_true.2 (wp_br.2 ⟨fun e5 => wp_chk_true.2 (wp_leaf.2 (yes ?_)), fun e5 => wp_chk_true.2 (wp_br.2 ⟨fun e6 => wp_chk_true.2 (wp_leaf.2 (yes ?_)), fun e6 => wp_chk_true.2 (wp_br.2 ⟨fun e7 => wp_chk_true.2 (wp_leaf.2 (yes ?_)), fun e7 => wp_chk_true.2 (wp_br.2 ⟨fun e8 => wp_chk_true.2 (wp_leaf.2 (yes ?_)), fun e8 => wp_chk_true.2 (wp_br.2 ⟨fun e9 => wp_chk_true.2 (wp_leaf.2 (yes ?_)), fun e9 => wp_chk_true.2 (wp_br.2 ⟨fun e10 => wp_chk_true.2 (wp_leaf.2 (yes ?_)), fun e10 => wp_chk_true.2 (wp_br.2 ⟨fun e11 => wp_chk_true.2 (wp_leaf.2 (yes ?_)), fun e11 => wp_chk_true.2 (wp_br.2 ⟨fun e12 => wp_chk_true.2 (wp_leaf.2 (yes ?_)), fun e12 => wp_chk_true.2 (wp_leaf.2 (no ?_))⟩)⟩)⟩)⟩)⟩)⟩)⟩)⟩)⟩)⟩)⟩)⟩)⟩)
  · have h0 : (s == n_send) = true := e0
    simp only [chgB, h0, Bool.or_true, Bool.true_or, Bool.false_or, Bool.or_false]
  · have h0 : (s == n_send) = false := e0
    have h1 : (s == n_mine) = true := e1
    simp only [chgB, h0, h1, Bool.or_true, Bool.true_or, Bool.false_or, Bool.or_false]
  · have h0 : (s == n_send) = false := e0
    have h1 : (s == n_mine) = false := e1
    have h2 : (s == n_warp) = true := e2
    simp only [chgB, h0, h1, h2, Bool.or_true, Bool.true_or, Bool.false_or, Bool.or_false]
  · have h0 : (s == n_send) = false := e0
    have h1 : (s == n_mine) = false := e1
    have h2 : (s == n_warp) = false := e2
    have h3 : (s == n_auto) = true := e3
    simp only [chgB, h0, h1, h2, h3, Bool.or_true, Bool.true_or, Bool.false_or, Bool.or_false]
  · have h0 : (s == n_send) = false := e0
    have h1 : (s == n_mine) = false := e1
    have h2 : (s == n_warp) = false := e2
    have h3 : (s == n_auto) = false := e3
    have h4 : (s == n_setbalance) = true := e4
    simp only [chgB, h0, h1, h2, h3, h4, Bool.or_true, Bool.true_or, Bool.false_or, Bool.or_false]
  · have h0 : (s == n_send) = false := e0
    have h1 : (s == n_mine) = false := e1
    have h2 : (s == n_warp) = false := e2
    have h3 : (s == n_auto) = false := e3
    have h4 : (s == n_setbalance) = false := e4
    have h5 : (s == n_setnonce) = true := e5
    simp only [chgB, h0, h1, h2, h3, h4, h5, Bool.or_true, Bool.true_or, Bool.false_or, Bool.or_false]
  · have h0 : (s == n_send) = false := e0
    have h1 : (s == n_mine) = false := e1
    have h2 : (s == n_warp) = false := e2
    have h3 : (s == n_auto) = false := e3
    have h4 : (s == n_setbalance) = false := e4
    have h5 : (s == n_setnonce) = false := e5
    have h6 : (s == n_setcode) = true := e6
    simp only [chgB, h0, h1, h2, h3, h4, h5, h6, Bool.or_true, Bool.true_or, Bool.false_or, Bool.or_false]
  · have h0 : (s == n_send) = false := e0
    have h1 : (s == n_mine) = false := e1
    have h2 : (s == n_warp) = false := e2
    have h3 : (s == n_auto) = false := e3
    have h4 : (s == n_setbalance) = false := e4
    have h5 : (s == n_setnonce) = false := e5
    have h6 : (s == n_setcode) = false := e6
    have h7 : (s == n_setslot) = true := e7
    simp only [chgB, h0, h1, h2, h3, h4, h5, h6, h7, Bool.or_true, Bool.true_or, Bool.false_or, Bool.or_false]
  · have h0 : (s == n_send) = false := e0
    have h1 : (s == n_mine) = false := e1
    have h2 : (s == n_warp) = false := e2
    have h3 : (s == n_auto) = false := e3
    have h4 : (s == n_setbalance) = false := e4
    have h5 : (s == n_setnonce) = false := e5
    have h6 : (s == n_setcode) = false := e6
    have h7 : (s == n_setslot) = false := e7
    have h8 : (s == n_impersonate) = true := e8
    simp only [chgB, h0, h1, h2, h3, h4, h5, h6, h7, h8, Bool.or_true, Bool.true_or, Bool.false_or, Bool.or_false]
  · have h0 : (s == n_send) = false := e0
    have h1 : (s == n_mine) = false := e1
    have h2 : (s == n_warp) = false := e2
    have h3 : (s == n_auto) = false := e3
    have h4 : (s == n_setbalance) = false := e4
    have h5 : (s == n_setnonce) = false := e5
    have h6 : (s == n_setcode) = false := e6
    have h7 : (s == n_setslot) = false := e7
    have h8 : (s == n_impersonate) = false := e8
    have h9 : (s == n_stop) = true := e9
    simp only [chgB, h0, h1, h2, h3, h4, h5, h6, h7, h8, h9, Bool.or_true, Bool.true_or, Bool.false_or, Bool.or_false]
  · have h0 : (s == n_send) = false := e0
    have h1 : (s == n_mine) = false := e1
    have h2 : (s == n_warp) = false := e2
    have h3 : (s == n_auto) = false := e3
    have h4 : (s == n_setbalance) = false := e4
    have h5 : (s == n_setnonce) = false := e5
    have h6 : (s == n_setcode) = false := e6
    have h7 : (s == n_setslot) = false := e7
    have h8 : (s == n_impersonate) = false := e8
    have h9 : (s == n_stop) = false := e9
    have h10 : (s == n_snapshot) = true := e10
    simp only [chgB, h0, h1, h2, h3, h4, h5, h6, h7, h8, h9, h10, Bool.or_true, Bool.true_or, Bool.false_or, Bool.or_false]
  · have h0 : (s == n_send) = false := e0
    have h1 : (s == n_mine) = false := e1
    have h2 : (s == n_warp) = false := e2
    have h3 : (s == n_auto) = false := e3
    have h4 : (s == n_setbalance) = false := e4
    have h5 : (s == n_setnonce) = false := e5
    have h6 : (s == n_setcode) = false := e6
    have h7 : (s == n_setslot) = false := e7
    have h8 : (s == n_impersonate) = false := e8
    have h9 : (s == n_stop) = false := e9
    have h10 : (s == n_snapshot) = false := e10
    have h11 : (s == n_revert) = true := e11
    simp only [chgB, h0, h1, h2, h3, h4, h5, h6, h7, h8, h9, h10, h11, Bool.or_true, Bool.true_or, Bool.false_or, Bool.or_false]
  · have h0 : (s == n_send) = false := e0
    have h1 : (s == n_mine) = false := e1
    have h2 : (s == n_warp) = false := e2
    have h3 : (s == n_auto) = false := e3
    have h4 : (s == n_setbalance) = false := e4
    have h5 : (s == n_setnonce) = false := e5
    have h6 : (s == n_setcode) = false := e6
    have h7 : (s == n_setslot) = false := e7
    have h8 : (s == n_impersonate) = false := e8
    have h9 : (s == n_stop) = false := e9
    have h10 : (s == n_snapshot) = false := e10
    have h11 : (s == n_revert) = false := e11
    have h12 : (s == n_load) = true := e12
    simp only [chgB, h0, h1, h2, h3, h4, h5, h6, h7, h8, h9, h10, h11, h12, Bool.or_true, Bool.true_or, Bool.false_or, Bool.or_false]
  · have h0 : (s == n_send) = false := e0
    have h1 : (s == n_mine) = false := e1
    have h2 : (s == n_warp) = false := e2
    have h3 : (s == n_auto) = false := e3
    have h4 : (s == n_setbalance) = false := e4
    have h5 : (s == n_setnonce) = false := e5
    have h6 : (s == n_setcode) = false := e6
    have h7 : (s == n_setslot) = false := e7
    have h8 : (s == n_impersonate) = false := e8
    have h9 : (s == n_stop) = false := e9
    have h10 : (s == n_snapshot) = false := e10
    have h11 : (s == n_revert) = false := e11
    have h12 : (s == n_load) = false := e12
    simp only [chgB, h0, h1, h2, h3, h4, h5, h6, h7, h8, h9, h10, h11, h12, Bool.or_true, Bool.true_or, Bool.false_or, Bool.or_false]
end
end Go.Proofs.YtbgiickegljpoaaDoor.K
end
section
open Go Go.Lh
namespace Go.Proofs.YtbgiickegljpoaaDoor.K
noncomputable section
set_option maxRecDepth 100000
def KX2 : KnownT := (8, ctT ca_read ee_f) :: (9, ctT readS dd_f) :: (10, fi_g) :: (11, ctS fun s => .bool (chgB s)) :: []
theorem KX2_ok : KOkT Pr KX2 := KOkT.cons (Enters.of (fn := Go.Proofs.Tryd.f8) (by kernel_rfl) (by kernel_rfl)) ee_ok (KOkT.cons (Enters.of (fn := Go.Proofs.Tryd.f9) (by kernel_rfl) (by kernel_rfl)) dd_ok (KOkT.cons (Enters.of (fn := Go.Proofs.Tryd.f10) (by kernel_rfl) (by kernel_rfl)) fi_ok (KOkT.cons (Enters.of (fn := Go.Proofs.Tryd.f11) (by kernel_rfl) (by kernel_rfl)) (ctS_ok changes_fn) KOkT.nil)))
def OX2 : OrcT := autoT Pr ext KX2 [] 3
theorem OX2_sound : OrcSound Pr OX2.o := autoT_sound mixed ext_ok KX2_ok (by kernel_rfl) 3
def cm5 : CM := { CM0 n_mine with n := BitVec.ofInt 64 5 }
def cmx : CM := { CM0 n_mine with s := [120#8] }
theorem exa_x : Tr.prune (Tr.Sh.any.both Tr.Sh.any) (execBYE Pr OX2 noLoopsT 100 Go.Proofs.Tryd.f7 0 ⟨[1,2],[],[]⟩ ⟨[],[],[]⟩ (takeSeq 1 (bodyOf Go.Proofs.Tryd.f7)) [] []) =
  .chk (eeB cm5) (.br (eeO cm5) (.chk true (.leaf (.inr (.normal, [(1,.str (eeS cm5)),(2,.bool true)], [])))) (.chk true (.leaf (.inr (.normal, [(1,.str []),(2,.bool false)], []))))) := by kernel_rfl
theorem exb_x (s : List B) (ok : Bool) : Tr.prune (Tr.Sh.any.both Tr.Sh.any)
  (execBYE Pr OX2 noLoopsT (100 : Nat) Go.Proofs.Tryd.f7 (0 : Nat)
  (Tell.mk [(2 : Nat), (3 : Nat), (4 : Nat)] [(0 : Nat)] []) (Tell.mk [] [] [])
  (takeSeq (0 : Nat) (dropSeq (1 : Nat) (bodyOf Go.Proofs.Tryd.f7))) [((1 : Nat), V.str s), ((2 : Nat), V.bool ok)] []) =
  Tr.chk (ddB s)
  (Tr.br (ddO s)
    (Tr.chk true
      (Tr.leaf
        (Sum.inr
          (X.normal, [((2 : Nat), V.bool ok), ((3 : Nat), V.ptr (0 : Nat) (0 : Nat)), ((4 : Nat), V.bool true)],
            [Blk.vals
                [V.str (ddC s).nm, V.str (ddC s).ad, V.u64 (ddC s).n, V.u64 (ddC s).k.a, V.u64 (ddC s).k.b,
                  V.u64 (ddC s).k.c, V.u64 (ddC s).k.d, V.u64 (ddC s).v.a, V.u64 (ddC s).v.b, V.u64 (ddC s).v.c,
                  V.u64 (ddC s).v.d, V.str (ddC s).s, V.int IntKind.i64 (ddC s).tk, V.str (ddC s).tf, V.str (ddC s).tt,
                  V.u64 (ddC s).tn, V.u64 (ddC s).tg, V.u64 (ddC s).tp.a, V.u64 (ddC s).tp.b, V.u64 (ddC s).tp.c,
                  V.u64 (ddC s).tp.d, V.u64 (ddC s).ti.a, V.u64 (ddC s).ti.b, V.u64 (ddC s).ti.c, V.u64 (ddC s).ti.d,
                  V.u64 (ddC s).tv.a, V.u64 (ddC s).tv.b, V.u64 (ddC s).tv.c, V.u64 (ddC s).tv.d, V.str (ddC s).td,
                  V.nilSl]]))))
    (Tr.chk true
      (Tr.leaf
        (Sum.inr
          (X.normal, [((2 : Nat), V.bool ok), ((3 : Nat), V.ptr (0 : Nat) (0 : Nat)), ((4 : Nat), V.bool false)],
            [Blk.vals
                [V.str (CM0 noT).nm, V.str (CM0 noT).ad, V.u64 (CM0 noT).n, V.u64 (CM0 noT).k.a, V.u64 (CM0 noT).k.b,
                  V.u64 (CM0 noT).k.c, V.u64 (CM0 noT).k.d, V.u64 (CM0 noT).v.a, V.u64 (CM0 noT).v.b,
                  V.u64 (CM0 noT).v.c, V.u64 (CM0 noT).v.d, V.str (CM0 noT).s, V.int IntKind.i64 (0 : Int),
                  V.str (CM0 noT).tf, V.str (CM0 noT).tt, V.u64 (CM0 noT).tn, V.u64 (CM0 noT).tg, V.u64 (CM0 noT).tp.a,
                  V.u64 (CM0 noT).tp.b, V.u64 (CM0 noT).tp.c, V.u64 (CM0 noT).tp.d, V.u64 (CM0 noT).ti.a,
                  V.u64 (CM0 noT).ti.b, V.u64 (CM0 noT).ti.c, V.u64 (CM0 noT).ti.d, V.u64 (CM0 noT).tv.a,
                  V.u64 (CM0 noT).tv.b, V.u64 (CM0 noT).tv.c, V.u64 (CM0 noT).tv.d, V.str (CM0 noT).td,
                  V.nilSl]]))))) := by kernel_rfl
theorem exc_x (ok is : Bool) (c : CM) : Tr.prune (Tr.Sh.any.both Tr.Sh.any) (execBYE Pr OX2 noLoopsT 100 Go.Proofs.Tryd.f7 0 ⟨[2,3,4,6],[0],[]⟩ ⟨[],[],[]⟩ (takeSeq 0 (dropSeq 2 (bodyOf Go.Proofs.Tryd.f7))) [(2,.bool ok),(3,.ptr 0 0),(4,.bool is)] [.vals (c.cs .nilSl)]) =
  .chk (eeB cmx) (.br (eeO cmx) (.chk true (.leaf (.inr (.normal, [(2,.bool ok),(3,.ptr 0 0),(4,.bool is),(6,.bool true)], [.vals (c.cs .nilSl)])))) (.chk true (.leaf (.inr (.normal, [(2,.bool ok),(3,.ptr 0 0),(4,.bool is),(6,.bool false)], [.vals (c.cs .nilSl)]))))) := by kernel_rfl
theorem exd_x (ok : Bool) (is : Bool) (no : Bool) (c : CM) : Tr.prune (((((Tr.Sh.any.l.l.l.l.l.both
                            Tr.Sh.any.r.r.r.r.r).l.both
                      Tr.Sh.any.r.r.r.r.r.r.r).l.l.both
              Tr.Sh.any.r.r.r.r.r.r.r.r.r.r).l.l.both
      Tr.Sh.any.r.r.r.r.r.r.r.r.r.r.r.r.r).both
  Tr.Sh.any.r.r.r.r.r.r.r.r.r.r.r.r.r.r)
  (execBR Pr OX2 noLoopsT (100 : Nat) Go.Proofs.Tryd.f7 (0 : Nat)
  (dropSeq (2 : Nat) (dropSeq (0 : Nat) (bodyOf Go.Proofs.Tryd.f7)))
  [((2 : Nat), V.bool ok), ((3 : Nat), V.ptr (0 : Nat) (0 : Nat)), ((4 : Nat), V.bool is), ((6 : Nat), V.bool no)]
  [Blk.vals (c.cs V.nilSl)]) =
  Tr.chk true
  (Tr.br ok
    (Tr.chk true
      (Tr.br is
        (Tr.chk true
          (Tr.br
            (c.nm ==
              bytesOf
                (ByteArray.mk
                  #[OfNat.ofNat (109 : Nat), OfNat.ofNat (105 : Nat), OfNat.ofNat (110 : Nat),
                    OfNat.ofNat (101 : Nat)]))
            (Tr.chk true
              (Tr.br (c.n == BitVec.ofInt (64 : Nat) (5 : Int))
                (Tr.chk true
                  (Tr.br (!no) (Tr.chk true (Tr.leaf (Fin.ret (V.bool true), [])))
                    (Tr.chk true (Tr.leaf (Fin.ret (V.bool false), [])))))
                (Tr.chk true (Tr.leaf (Fin.ret (V.bool false), [])))))
            (Tr.chk true (Tr.leaf (Fin.ret (V.bool false), [])))))
        (Tr.chk true (Tr.leaf (Fin.ret (V.bool false), [])))))
    (Tr.chk true (Tr.leaf (Fin.ret (V.bool false), [])))) := by kernel_rfl
end
end Go.Proofs.YtbgiickegljpoaaDoor.K
end
section
open Go Go.Lh
namespace Go.Proofs.YtbgiickegljpoaaDoor.K
noncomputable section
set_option maxRecDepth 100000
theorem isF_ne {f : List B} (h : isF f) : f ≠ f_t := by
  rcases h with rfl | rfl | rfl | rfl | rfl | rfl | rfl | rfl | rfl <;> decide
theorem len_n (c : CM) (hn : fkP f_n c.nm) (h : eok f_n c = true) : (enc (eIt f_n c)).length ≤ 65536 := by
  rw [eok_n] at h
  simp only [Bool.and_eq_true, beq_iff_eq, decide_eq_true_eq, and_true] at h
  have h1 := fk_len hn
  have h2 := numB_len8 c.n
  have h3 := W4.bytes_length c.k
  have h4 := W4.bytes_length c.v
  have h5 := lst_len (eTs f_n c)
  rw [eTs_n] at h5
  simp only [List.map_cons, List.map_nil, List.sum_cons, List.sum_nil] at h5
  show (enc (.lst ((eTs f_n c).map .txt))).length ≤ 65536
  rw [eTs_n]
  simp only [List.map_cons, List.map_nil]
  omega
theorem bk_n (c : CM) (hn : fkP f_n c.nm) (h : eok f_n c = true) : dcC (eeS c) = some (pick_n c) ∧ noTx (eeS c) ∧ decF (eeS c) = some (eIt f_n c) := by
  have e : eeS c = eS f_n c := by rw [eeS_eq, hn.1]
  have hd : decF (eS f_n c) = some (eIt f_n c) := by
    rw [eS_eq]
    exact decF_fwd _ (by unfold eIt; rw [It.dep]; have := deps_txt (eTs f_n c); omega) (len_n c hn h)
  rw [e]
  refine ⟨back_n c hn h (len_n c hn h), ?_, hd⟩
  intro l hl _ _
  rw [hd] at hl
  unfold eIt at hl
  cases hl
  show lookS fieldsL c.nm ≠ f_t
  rw [hn.1]
  exact isF_ne (.inl rfl)
theorem eo_n (c : CM) (hn : fkP f_n c.nm) : eeO c = eok f_n c := by rw [eeO_eq, hn.1]
theorem ep_n (c : CM) (hn : fkP f_n c.nm) (hc : okC c) : eeP c := ⟨by rw [hn.1]; exact .inl rfl, hn.2, hc⟩
theorem len_a (c : CM) (hn : fkP f_a c.nm) (h : eok f_a c = true) : (enc (eIt f_a c)).length ≤ 65536 := by
  rw [eok_a] at h
  simp only [Bool.and_eq_true, beq_iff_eq, decide_eq_true_eq, and_true] at h
  have h1 := fk_len hn
  have h2 := numB_len8 c.n
  have h3 := W4.bytes_length c.k
  have h4 := W4.bytes_length c.v
  have h5 := lst_len (eTs f_a c)
  rw [eTs_a] at h5
  simp only [List.map_cons, List.map_nil, List.sum_cons, List.sum_nil] at h5
  show (enc (.lst ((eTs f_a c).map .txt))).length ≤ 65536
  rw [eTs_a]
  simp only [List.map_cons, List.map_nil]
  omega
theorem bk_a (c : CM) (hn : fkP f_a c.nm) (h : eok f_a c = true) : dcC (eeS c) = some (pick_a c) ∧ noTx (eeS c) ∧ decF (eeS c) = some (eIt f_a c) := by
  have e : eeS c = eS f_a c := by rw [eeS_eq, hn.1]
  have hd : decF (eS f_a c) = some (eIt f_a c) := by
    rw [eS_eq]
    exact decF_fwd _ (by unfold eIt; rw [It.dep]; have := deps_txt (eTs f_a c); omega) (len_a c hn h)
  rw [e]
  refine ⟨back_a c hn h (len_a c hn h), ?_, hd⟩
  intro l hl _ _
  rw [hd] at hl
  unfold eIt at hl
  cases hl
  show lookS fieldsL c.nm ≠ f_t
  rw [hn.1]
  exact isF_ne (.inr (.inl rfl))
theorem eo_a (c : CM) (hn : fkP f_a c.nm) : eeO c = eok f_a c := by rw [eeO_eq, hn.1]
theorem ep_a (c : CM) (hn : fkP f_a c.nm) (hc : okC c) : eeP c := ⟨by rw [hn.1]; exact .inr (.inl rfl), hn.2, hc⟩
theorem len_ak (c : CM) (hn : fkP f_ak c.nm) (h : eok f_ak c = true) : (enc (eIt f_ak c)).length ≤ 65536 := by
  rw [eok_ak] at h
  simp only [Bool.and_eq_true, beq_iff_eq, decide_eq_true_eq, and_true] at h
  have h1 := fk_len hn
  have h2 := numB_len8 c.n
  have h3 := W4.bytes_length c.k
  have h4 := W4.bytes_length c.v
  have h5 := lst_len (eTs f_ak c)
  rw [eTs_ak] at h5
  simp only [List.map_cons, List.map_nil, List.sum_cons, List.sum_nil] at h5
  show (enc (.lst ((eTs f_ak c).map .txt))).length ≤ 65536
  rw [eTs_ak]
  simp only [List.map_cons, List.map_nil]
  omega
theorem bk_ak (c : CM) (hn : fkP f_ak c.nm) (h : eok f_ak c = true) : dcC (eeS c) = some (pick_ak c) ∧ noTx (eeS c) ∧ decF (eeS c) = some (eIt f_ak c) := by
  have e : eeS c = eS f_ak c := by rw [eeS_eq, hn.1]
  have hd : decF (eS f_ak c) = some (eIt f_ak c) := by
    rw [eS_eq]
    exact decF_fwd _ (by unfold eIt; rw [It.dep]; have := deps_txt (eTs f_ak c); omega) (len_ak c hn h)
  rw [e]
  refine ⟨back_ak c hn h (len_ak c hn h), ?_, hd⟩
  intro l hl _ _
  rw [hd] at hl
  unfold eIt at hl
  cases hl
  show lookS fieldsL c.nm ≠ f_t
  rw [hn.1]
  exact isF_ne (.inr (.inr (.inl rfl)))
theorem eo_ak (c : CM) (hn : fkP f_ak c.nm) : eeO c = eok f_ak c := by rw [eeO_eq, hn.1]
theorem ep_ak (c : CM) (hn : fkP f_ak c.nm) (hc : okC c) : eeP c := ⟨by rw [hn.1]; exact .inr (.inr (.inl rfl)), hn.2, hc⟩
theorem len_av (c : CM) (hn : fkP f_av c.nm) (h : eok f_av c = true) : (enc (eIt f_av c)).length ≤ 65536 := by
  rw [eok_av] at h
  simp only [Bool.and_eq_true, beq_iff_eq, decide_eq_true_eq, and_true] at h
  have h1 := fk_len hn
  have h2 := numB_len8 c.n
  have h3 := W4.bytes_length c.k
  have h4 := W4.bytes_length c.v
  have h5 := lst_len (eTs f_av c)
  rw [eTs_av] at h5
  simp only [List.map_cons, List.map_nil, List.sum_cons, List.sum_nil] at h5
  show (enc (.lst ((eTs f_av c).map .txt))).length ≤ 65536
  rw [eTs_av]
  simp only [List.map_cons, List.map_nil]
  omega
theorem bk_av (c : CM) (hn : fkP f_av c.nm) (h : eok f_av c = true) : dcC (eeS c) = some (pick_av c) ∧ noTx (eeS c) ∧ decF (eeS c) = some (eIt f_av c) := by
  have e : eeS c = eS f_av c := by rw [eeS_eq, hn.1]
  have hd : decF (eS f_av c) = some (eIt f_av c) := by
    rw [eS_eq]
    exact decF_fwd _ (by unfold eIt; rw [It.dep]; have := deps_txt (eTs f_av c); omega) (len_av c hn h)
  rw [e]
  refine ⟨back_av c hn h (len_av c hn h), ?_, hd⟩
  intro l hl _ _
  rw [hd] at hl
  unfold eIt at hl
  cases hl
  show lookS fieldsL c.nm ≠ f_t
  rw [hn.1]
  exact isF_ne (.inr (.inr (.inr (.inl rfl))))
theorem eo_av (c : CM) (hn : fkP f_av c.nm) : eeO c = eok f_av c := by rw [eeO_eq, hn.1]
theorem ep_av (c : CM) (hn : fkP f_av c.nm) (hc : okC c) : eeP c := ⟨by rw [hn.1]; exact .inr (.inr (.inr (.inl rfl))), hn.2, hc⟩
theorem len_an (c : CM) (hn : fkP f_an c.nm) (h : eok f_an c = true) : (enc (eIt f_an c)).length ≤ 65536 := by
  rw [eok_an] at h
  simp only [Bool.and_eq_true, beq_iff_eq, decide_eq_true_eq, and_true] at h
  have h1 := fk_len hn
  have h2 := numB_len8 c.n
  have h3 := W4.bytes_length c.k
  have h4 := W4.bytes_length c.v
  have h5 := lst_len (eTs f_an c)
  rw [eTs_an] at h5
  simp only [List.map_cons, List.map_nil, List.sum_cons, List.sum_nil] at h5
  show (enc (.lst ((eTs f_an c).map .txt))).length ≤ 65536
  rw [eTs_an]
  simp only [List.map_cons, List.map_nil]
  omega
theorem bk_an (c : CM) (hn : fkP f_an c.nm) (h : eok f_an c = true) : dcC (eeS c) = some (pick_an c) ∧ noTx (eeS c) ∧ decF (eeS c) = some (eIt f_an c) := by
  have e : eeS c = eS f_an c := by rw [eeS_eq, hn.1]
  have hd : decF (eS f_an c) = some (eIt f_an c) := by
    rw [eS_eq]
    exact decF_fwd _ (by unfold eIt; rw [It.dep]; have := deps_txt (eTs f_an c); omega) (len_an c hn h)
  rw [e]
  refine ⟨back_an c hn h (len_an c hn h), ?_, hd⟩
  intro l hl _ _
  rw [hd] at hl
  unfold eIt at hl
  cases hl
  show lookS fieldsL c.nm ≠ f_t
  rw [hn.1]
  exact isF_ne (.inr (.inr (.inr (.inr (.inl rfl)))))
theorem eo_an (c : CM) (hn : fkP f_an c.nm) : eeO c = eok f_an c := by rw [eeO_eq, hn.1]
theorem ep_an (c : CM) (hn : fkP f_an c.nm) (hc : okC c) : eeP c := ⟨by rw [hn.1]; exact .inr (.inr (.inr (.inr (.inl rfl)))), hn.2, hc⟩
theorem len_as (c : CM) (hn : fkP f_as c.nm) (h : eok f_as c = true) : (enc (eIt f_as c)).length ≤ 65536 := by
  rw [eok_as] at h
  simp only [Bool.and_eq_true, beq_iff_eq, decide_eq_true_eq, and_true] at h
  have h1 := fk_len hn
  have h2 := numB_len8 c.n
  have h3 := W4.bytes_length c.k
  have h4 := W4.bytes_length c.v
  have h5 := lst_len (eTs f_as c)
  rw [eTs_as] at h5
  simp only [List.map_cons, List.map_nil, List.sum_cons, List.sum_nil] at h5
  show (enc (.lst ((eTs f_as c).map .txt))).length ≤ 65536
  rw [eTs_as]
  simp only [List.map_cons, List.map_nil]
  omega
theorem bk_as (c : CM) (hn : fkP f_as c.nm) (h : eok f_as c = true) : dcC (eeS c) = some (pick_as c) ∧ noTx (eeS c) ∧ decF (eeS c) = some (eIt f_as c) := by
  have e : eeS c = eS f_as c := by rw [eeS_eq, hn.1]
  have hd : decF (eS f_as c) = some (eIt f_as c) := by
    rw [eS_eq]
    exact decF_fwd _ (by unfold eIt; rw [It.dep]; have := deps_txt (eTs f_as c); omega) (len_as c hn h)
  rw [e]
  refine ⟨back_as c hn h (len_as c hn h), ?_, hd⟩
  intro l hl _ _
  rw [hd] at hl
  unfold eIt at hl
  cases hl
  show lookS fieldsL c.nm ≠ f_t
  rw [hn.1]
  exact isF_ne (.inr (.inr (.inr (.inr (.inr (.inl rfl))))))
theorem eo_as (c : CM) (hn : fkP f_as c.nm) : eeO c = eok f_as c := by rw [eeO_eq, hn.1]
theorem ep_as (c : CM) (hn : fkP f_as c.nm) (hc : okC c) : eeP c := ⟨by rw [hn.1]; exact .inr (.inr (.inr (.inr (.inr (.inl rfl))))), hn.2, hc⟩
theorem len_akv (c : CM) (hn : fkP f_akv c.nm) (h : eok f_akv c = true) : (enc (eIt f_akv c)).length ≤ 65536 := by
  rw [eok_akv] at h
  simp only [Bool.and_eq_true, beq_iff_eq, decide_eq_true_eq, and_true] at h
  have h1 := fk_len hn
  have h2 := numB_len8 c.n
  have h3 := W4.bytes_length c.k
  have h4 := W4.bytes_length c.v
  have h5 := lst_len (eTs f_akv c)
  rw [eTs_akv] at h5
  simp only [List.map_cons, List.map_nil, List.sum_cons, List.sum_nil] at h5
  show (enc (.lst ((eTs f_akv c).map .txt))).length ≤ 65536
  rw [eTs_akv]
  simp only [List.map_cons, List.map_nil]
  omega
theorem bk_akv (c : CM) (hn : fkP f_akv c.nm) (h : eok f_akv c = true) : dcC (eeS c) = some (pick_akv c) ∧ noTx (eeS c) ∧ decF (eeS c) = some (eIt f_akv c) := by
  have e : eeS c = eS f_akv c := by rw [eeS_eq, hn.1]
  have hd : decF (eS f_akv c) = some (eIt f_akv c) := by
    rw [eS_eq]
    exact decF_fwd _ (by unfold eIt; rw [It.dep]; have := deps_txt (eTs f_akv c); omega) (len_akv c hn h)
  rw [e]
  refine ⟨back_akv c hn h (len_akv c hn h), ?_, hd⟩
  intro l hl _ _
  rw [hd] at hl
  unfold eIt at hl
  cases hl
  show lookS fieldsL c.nm ≠ f_t
  rw [hn.1]
  exact isF_ne (.inr (.inr (.inr (.inr (.inr (.inr (.inl rfl)))))))
theorem eo_akv (c : CM) (hn : fkP f_akv c.nm) : eeO c = eok f_akv c := by rw [eeO_eq, hn.1]
theorem ep_akv (c : CM) (hn : fkP f_akv c.nm) (hc : okC c) : eeP c := ⟨by rw [hn.1]; exact .inr (.inr (.inr (.inr (.inr (.inr (.inl rfl)))))), hn.2, hc⟩
theorem len_e (c : CM) (hn : fkP f_e c.nm) (h : eok f_e c = true) : (enc (eIt f_e c)).length ≤ 65536 := by
  rw [eok_e] at h
  simp only [Bool.and_eq_true, beq_iff_eq, decide_eq_true_eq, and_true] at h
  have h1 := fk_len hn
  have h2 := numB_len8 c.n
  have h3 := W4.bytes_length c.k
  have h4 := W4.bytes_length c.v
  have h5 := lst_len (eTs f_e c)
  rw [eTs_e] at h5
  simp only [List.map_cons, List.map_nil, List.sum_cons, List.sum_nil] at h5
  show (enc (.lst ((eTs f_e c).map .txt))).length ≤ 65536
  rw [eTs_e]
  simp only [List.map_cons, List.map_nil]
  omega
theorem bk_e (c : CM) (hn : fkP f_e c.nm) (h : eok f_e c = true) : dcC (eeS c) = some (pick_e c) ∧ noTx (eeS c) ∧ decF (eeS c) = some (eIt f_e c) := by
  have e : eeS c = eS f_e c := by rw [eeS_eq, hn.1]
  have hd : decF (eS f_e c) = some (eIt f_e c) := by
    rw [eS_eq]
    exact decF_fwd _ (by unfold eIt; rw [It.dep]; have := deps_txt (eTs f_e c); omega) (len_e c hn h)
  rw [e]
  refine ⟨back_e c hn h (len_e c hn h), ?_, hd⟩
  intro l hl _ _
  rw [hd] at hl
  unfold eIt at hl
  cases hl
  show lookS fieldsL c.nm ≠ f_t
  rw [hn.1]
  exact isF_ne (.inr (.inr (.inr (.inr (.inr (.inr (.inr (.inl rfl))))))))
theorem eo_e (c : CM) (hn : fkP f_e c.nm) : eeO c = eok f_e c := by rw [eeO_eq, hn.1]
theorem ep_e (c : CM) (hn : fkP f_e c.nm) (hc : okC c) : eeP c := ⟨by rw [hn.1]; exact .inr (.inr (.inr (.inr (.inr (.inr (.inr (.inl rfl))))))), hn.2, hc⟩
theorem len_s (c : CM) (hn : fkP f_s c.nm) (h : eok f_s c = true) : (enc (eIt f_s c)).length ≤ 65536 := by
  rw [eok_s] at h
  simp only [Bool.and_eq_true, beq_iff_eq, decide_eq_true_eq, and_true] at h
  have h1 := fk_len hn
  have h2 := numB_len8 c.n
  have h3 := W4.bytes_length c.k
  have h4 := W4.bytes_length c.v
  have h5 := lst_len (eTs f_s c)
  rw [eTs_s] at h5
  simp only [List.map_cons, List.map_nil, List.sum_cons, List.sum_nil] at h5
  show (enc (.lst ((eTs f_s c).map .txt))).length ≤ 65536
  rw [eTs_s]
  simp only [List.map_cons, List.map_nil]
  omega
theorem bk_s (c : CM) (hn : fkP f_s c.nm) (h : eok f_s c = true) : dcC (eeS c) = some (pick_s c) ∧ noTx (eeS c) ∧ decF (eeS c) = some (eIt f_s c) := by
  have e : eeS c = eS f_s c := by rw [eeS_eq, hn.1]
  have hd : decF (eS f_s c) = some (eIt f_s c) := by
    rw [eS_eq]
    exact decF_fwd _ (by unfold eIt; rw [It.dep]; have := deps_txt (eTs f_s c); omega) (len_s c hn h)
  rw [e]
  refine ⟨back_s c hn h (len_s c hn h), ?_, hd⟩
  intro l hl _ _
  rw [hd] at hl
  unfold eIt at hl
  cases hl
  show lookS fieldsL c.nm ≠ f_t
  rw [hn.1]
  exact isF_ne (.inr (.inr (.inr (.inr (.inr (.inr (.inr (.inr (rfl)))))))))
theorem eo_s (c : CM) (hn : fkP f_s c.nm) : eeO c = eok f_s c := by rw [eeO_eq, hn.1]
theorem ep_s (c : CM) (hn : fkP f_s c.nm) (hc : okC c) : eeP c := ⟨by rw [hn.1]; exact .inr (.inr (.inr (.inr (.inr (.inr (.inr (.inr (rfl)))))))), hn.2, hc⟩
theorem fk_mine : fkP f_n n_mine := ⟨by decide, by decide⟩
theorem ex_fn : LFn Pr 7 [] [] (.ret (.bool true)) [] := by
  have k1 : eok f_n cm5 = true := by kernel_rfl
  have k2 : eok f_n cmx = false := by kernel_rfl
  have p1 : eeB cm5 = true := eeB_t (ep_n cm5 fk_mine (by show 0 + 0 + 0 ≤ _; decide))
  have p2 : eeB cmx = true := eeB_t (ep_n cmx fk_mine (by show 0 + 0 + 0 ≤ _; decide))
  have o1 : eeO cm5 = true := by rw [eo_n cm5 fk_mine, k1]
  have o2 : eeO cmx = false := by rw [eo_n cmx fk_mine, k2]
  obtain ⟨d1, d2, _⟩ := bk_n cm5 fk_mine k1
  have d3 : dcC (eeS cm5) = some cm5 := d1
  refine EndsIn.done (fn := Go.Proofs.Tryd.f7) (by kernel_rfl) (by kernel_rfl) (by kernel_rfl) ?_
  refine EndsIn.cutY (L := noLoopsT) 1 OX2_sound mixed (by kernel_rfl) noLoops_all (by kernel_rfl) exa_x ?_
  refine wp_chk.2 ⟨p1, wp_br.2 ⟨fun _ => wp_chk_true.2 (wp_leaf.2 ⟨clo_nil, .inl ⟨_, _, rfl, ?_⟩⟩), fun e => by rw [o1] at e; cases e⟩⟩
  refine EndsIn.cutY (L := noLoopsT) 0 OX2_sound mixed (by kernel_rfl) noLoops_all (by kernel_rfl) (exb_x (eeS cm5) true) ?_
  refine wp_chk.2 ⟨ddB_t d2, wp_br.2 ⟨fun _ => wp_chk_true.2 (wp_leaf.2 ⟨clo_nil, .inl ⟨_, _, rfl, ?_⟩⟩), fun e => by rw [ddO_t d3] at e; cases e⟩⟩
  rw [ddC_eq d3]
  refine EndsIn.cutY (L := noLoopsT) 0 OX2_sound mixed (by kernel_rfl) noLoops_all (by kernel_rfl) (exc_x true true cm5) ?_
  refine wp_chk.2 ⟨p2, wp_br.2 ⟨fun e => (by rw [o2] at e; cases e), fun _ => wp_chk_true.2 (wp_leaf.2 ⟨clo_nil, .inl ⟨_, _, rfl, ?_⟩⟩)⟩⟩
  refine EndsIn.last (L := noLoopsT) OX2_sound mixed noLoops_all (by kernel_rfl) (exd_x true true false cm5) ?_
  refine wp_chk_true.2 (wp_br.2 ⟨fun _ => wp_chk_true.2 (wp_br.2 ⟨fun _ => wp_chk_true.2 (wp_br.2 ⟨fun _ => wp_chk_true.2 (wp_br.2 ⟨fun _ => wp_chk_true.2 (wp_br.2 ⟨fun _ => wp_chk_true.2 (wp_leaf.2 rfl), fun e => by cases e⟩), fun e => absurd e (by decide)⟩), fun e => absurd e (by decide)⟩), fun e => by cases e⟩), fun e => by cases e⟩)
def ex_g : List V → Heap → Tr (Fin × Heap) := fun args h => match args, h with
  | [], [] => .leaf (.ret (.bool true), [])
  | _, _ => .no
theorem ex_ok2 : ∀ args h r, (ex_g args h).is r → LFn Pr 7 args h r.1 r.2 := by
  intro args h r e
  unfold ex_g at e
  split at e
  · rw [Tr.is_leaf] at e; subst e; exact ex_fn
  · exact (Tr.is_no.1 e).elim
def KL2 : KnownT := (7, ex_g) :: KX2
theorem KL2_ok : KOkT Pr KL2 := KOkT.cons (Enters.of (fn := Go.Proofs.Tryd.f7) (by kernel_rfl) (by kernel_rfl)) ex_ok2 KX2_ok
def OL2 : OrcT := autoT Pr ext KL2 [] 3
theorem OL2_sound : OrcSound Pr OL2.o := autoT_sound mixed ext_ok KL2_ok (by kernel_rfl) 3
end
end Go.Proofs.YtbgiickegljpoaaDoor.K
end
section
open Go Go.Lh
namespace Go.Proofs.YtbgiickegljpoaaDoor.K
noncomputable section
set_option maxRecDepth 100000
def a20 : List B := [48#8, 49#8, 50#8, 51#8, 52#8, 53#8, 54#8, 55#8, 56#8, 57#8, 48#8, 49#8, 50#8, 51#8, 52#8, 53#8, 54#8, 55#8, 56#8, 57#8]
def cutB : Code := bodyOf Go.Proofs.Tryd.f6
theorem cu1_x (n : BitVec 64) (v : W4) (cut : B) (more : B) : Tr.prune (Tr.Sh.any.r)
  (execBYE Pr OL2 noLoopsT (100 : Nat) Go.Proofs.Tryd.f6 (0 : Nat)
  (Tell.mk [(0 : Nat), (2 : Nat), (3 : Nat), (5 : Nat), (9 : Nat)] [(0 : Nat)] []) (Tell.mk [] [] [])
  (takeSeq (2 : Nat) cutB) [((0 : Nat), V.u64 n), ((1 : Nat), v.v), ((2 : Nat), V.u8 cut), ((3 : Nat), V.u8 more)] []) =
  Tr.chk true
  (Tr.leaf
    (Sum.inr
      (X.normal,
        [((0 : Nat), V.u64 n), ((2 : Nat), V.u8 cut), ((3 : Nat), V.u8 more), ((5 : Nat), V.ptr (0 : Nat) (0 : Nat)),
          ((9 : Nat), V.bool true)],
        [Blk.b64 [v.a, v.b, v.c, v.d]]))) := by kernel_rfl
theorem cu2_x (n : BitVec 64) (v : W4) (cut : B) (more : B) : Tr.prune (Tr.Sh.any.both Tr.Sh.any)
  (execBYE Pr OL2 noLoopsT (100 : Nat) Go.Proofs.Tryd.f6 (0 : Nat)
  (Tell.mk [(2 : Nat), (3 : Nat), (5 : Nat), (9 : Nat), (10 : Nat), (11 : Nat)] [(0 : Nat)] []) (Tell.mk [] [] [])
  (takeSeq (0 : Nat) (dropSeq (2 : Nat) cutB))
  [((0 : Nat), V.u64 n), ((2 : Nat), V.u8 cut), ((3 : Nat), V.u8 more), ((5 : Nat), V.ptr (0 : Nat) (0 : Nat)),
    ((9 : Nat), V.bool true)]
  [Blk.b64 [v.a, v.b, v.c, v.d]]) =
  Tr.chk
  (eeB
    (CM.mk
      (bytesOf
        (ByteArray.mk
          #[OfNat.ofNat (115 : Nat), OfNat.ofNat (101 : Nat), OfNat.ofNat (116 : Nat), OfNat.ofNat (110 : Nat),
            OfNat.ofNat (111 : Nat), OfNat.ofNat (110 : Nat), OfNat.ofNat (99 : Nat), OfNat.ofNat (101 : Nat)]))
      (bytesOf
        (ByteArray.mk
          #[OfNat.ofNat (48 : Nat), OfNat.ofNat (49 : Nat), OfNat.ofNat (50 : Nat), OfNat.ofNat (51 : Nat),
            OfNat.ofNat (52 : Nat), OfNat.ofNat (53 : Nat), OfNat.ofNat (54 : Nat), OfNat.ofNat (55 : Nat),
            OfNat.ofNat (56 : Nat), OfNat.ofNat (57 : Nat), OfNat.ofNat (48 : Nat), OfNat.ofNat (49 : Nat),
            OfNat.ofNat (50 : Nat), OfNat.ofNat (51 : Nat), OfNat.ofNat (52 : Nat), OfNat.ofNat (53 : Nat),
            OfNat.ofNat (54 : Nat), OfNat.ofNat (55 : Nat), OfNat.ofNat (56 : Nat), OfNat.ofNat (57 : Nat)]))
      n
      (W4.mk (BitVec.ofInt (64 : Nat) (0 : Int)) (BitVec.ofInt (64 : Nat) (0 : Int)) (BitVec.ofInt (64 : Nat) (0 : Int))
        (BitVec.ofInt (64 : Nat) (0 : Int)))
      (W4.mk (BitVec.ofInt (64 : Nat) (0 : Int)) (BitVec.ofInt (64 : Nat) (0 : Int)) (BitVec.ofInt (64 : Nat) (0 : Int))
        (BitVec.ofInt (64 : Nat) (0 : Int)))
      (bytesOf (ByteArray.mk #[])) (0 : Int) (bytesOf (ByteArray.mk #[])) (bytesOf (ByteArray.mk #[]))
      (BitVec.ofInt (64 : Nat) (0 : Int)) (BitVec.ofInt (64 : Nat) (0 : Int))
      (W4.mk (BitVec.ofInt (64 : Nat) (0 : Int)) (BitVec.ofInt (64 : Nat) (0 : Int)) (BitVec.ofInt (64 : Nat) (0 : Int))
        (BitVec.ofInt (64 : Nat) (0 : Int)))
      (W4.mk (BitVec.ofInt (64 : Nat) (0 : Int)) (BitVec.ofInt (64 : Nat) (0 : Int)) (BitVec.ofInt (64 : Nat) (0 : Int))
        (BitVec.ofInt (64 : Nat) (0 : Int)))
      (W4.mk (BitVec.ofInt (64 : Nat) (0 : Int)) (BitVec.ofInt (64 : Nat) (0 : Int)) (BitVec.ofInt (64 : Nat) (0 : Int))
        (BitVec.ofInt (64 : Nat) (0 : Int)))
      (bytesOf (ByteArray.mk #[]))))
  (Tr.br
    (eeO
      (CM.mk
        (bytesOf
          (ByteArray.mk
            #[OfNat.ofNat (115 : Nat), OfNat.ofNat (101 : Nat), OfNat.ofNat (116 : Nat), OfNat.ofNat (110 : Nat),
              OfNat.ofNat (111 : Nat), OfNat.ofNat (110 : Nat), OfNat.ofNat (99 : Nat), OfNat.ofNat (101 : Nat)]))
        (bytesOf
          (ByteArray.mk
            #[OfNat.ofNat (48 : Nat), OfNat.ofNat (49 : Nat), OfNat.ofNat (50 : Nat), OfNat.ofNat (51 : Nat),
              OfNat.ofNat (52 : Nat), OfNat.ofNat (53 : Nat), OfNat.ofNat (54 : Nat), OfNat.ofNat (55 : Nat),
              OfNat.ofNat (56 : Nat), OfNat.ofNat (57 : Nat), OfNat.ofNat (48 : Nat), OfNat.ofNat (49 : Nat),
              OfNat.ofNat (50 : Nat), OfNat.ofNat (51 : Nat), OfNat.ofNat (52 : Nat), OfNat.ofNat (53 : Nat),
              OfNat.ofNat (54 : Nat), OfNat.ofNat (55 : Nat), OfNat.ofNat (56 : Nat), OfNat.ofNat (57 : Nat)]))
        n
        (W4.mk (BitVec.ofInt (64 : Nat) (0 : Int)) (BitVec.ofInt (64 : Nat) (0 : Int))
          (BitVec.ofInt (64 : Nat) (0 : Int)) (BitVec.ofInt (64 : Nat) (0 : Int)))
        (W4.mk (BitVec.ofInt (64 : Nat) (0 : Int)) (BitVec.ofInt (64 : Nat) (0 : Int))
          (BitVec.ofInt (64 : Nat) (0 : Int)) (BitVec.ofInt (64 : Nat) (0 : Int)))
        (bytesOf (ByteArray.mk #[])) (0 : Int) (bytesOf (ByteArray.mk #[])) (bytesOf (ByteArray.mk #[]))
        (BitVec.ofInt (64 : Nat) (0 : Int)) (BitVec.ofInt (64 : Nat) (0 : Int))
        (W4.mk (BitVec.ofInt (64 : Nat) (0 : Int)) (BitVec.ofInt (64 : Nat) (0 : Int))
          (BitVec.ofInt (64 : Nat) (0 : Int)) (BitVec.ofInt (64 : Nat) (0 : Int)))
        (W4.mk (BitVec.ofInt (64 : Nat) (0 : Int)) (BitVec.ofInt (64 : Nat) (0 : Int))
          (BitVec.ofInt (64 : Nat) (0 : Int)) (BitVec.ofInt (64 : Nat) (0 : Int)))
        (W4.mk (BitVec.ofInt (64 : Nat) (0 : Int)) (BitVec.ofInt (64 : Nat) (0 : Int))
          (BitVec.ofInt (64 : Nat) (0 : Int)) (BitVec.ofInt (64 : Nat) (0 : Int)))
        (bytesOf (ByteArray.mk #[]))))
    (Tr.chk true
      (Tr.leaf
        (Sum.inr
          (X.normal,
            [((2 : Nat), V.u8 cut), ((3 : Nat), V.u8 more), ((5 : Nat), V.ptr (0 : Nat) (0 : Nat)),
              ((9 : Nat), V.bool true),
              ((10 : Nat),
                V.str
                  (eeS
                    (CM.mk
                      (bytesOf
                        (ByteArray.mk
                          #[OfNat.ofNat (115 : Nat), OfNat.ofNat (101 : Nat), OfNat.ofNat (116 : Nat),
                            OfNat.ofNat (110 : Nat), OfNat.ofNat (111 : Nat), OfNat.ofNat (110 : Nat),
                            OfNat.ofNat (99 : Nat), OfNat.ofNat (101 : Nat)]))
                      (bytesOf
                        (ByteArray.mk
                          #[OfNat.ofNat (48 : Nat), OfNat.ofNat (49 : Nat), OfNat.ofNat (50 : Nat),
                            OfNat.ofNat (51 : Nat), OfNat.ofNat (52 : Nat), OfNat.ofNat (53 : Nat),
                            OfNat.ofNat (54 : Nat), OfNat.ofNat (55 : Nat), OfNat.ofNat (56 : Nat),
                            OfNat.ofNat (57 : Nat), OfNat.ofNat (48 : Nat), OfNat.ofNat (49 : Nat),
                            OfNat.ofNat (50 : Nat), OfNat.ofNat (51 : Nat), OfNat.ofNat (52 : Nat),
                            OfNat.ofNat (53 : Nat), OfNat.ofNat (54 : Nat), OfNat.ofNat (55 : Nat),
                            OfNat.ofNat (56 : Nat), OfNat.ofNat (57 : Nat)]))
                      n
                      (W4.mk (BitVec.ofInt (64 : Nat) (0 : Int)) (BitVec.ofInt (64 : Nat) (0 : Int))
                        (BitVec.ofInt (64 : Nat) (0 : Int)) (BitVec.ofInt (64 : Nat) (0 : Int)))
                      (W4.mk (BitVec.ofInt (64 : Nat) (0 : Int)) (BitVec.ofInt (64 : Nat) (0 : Int))
                        (BitVec.ofInt (64 : Nat) (0 : Int)) (BitVec.ofInt (64 : Nat) (0 : Int)))
                      (bytesOf (ByteArray.mk #[])) (0 : Int) (bytesOf (ByteArray.mk #[])) (bytesOf (ByteArray.mk #[]))
                      (BitVec.ofInt (64 : Nat) (0 : Int)) (BitVec.ofInt (64 : Nat) (0 : Int))
                      (W4.mk (BitVec.ofInt (64 : Nat) (0 : Int)) (BitVec.ofInt (64 : Nat) (0 : Int))
                        (BitVec.ofInt (64 : Nat) (0 : Int)) (BitVec.ofInt (64 : Nat) (0 : Int)))
                      (W4.mk (BitVec.ofInt (64 : Nat) (0 : Int)) (BitVec.ofInt (64 : Nat) (0 : Int))
                        (BitVec.ofInt (64 : Nat) (0 : Int)) (BitVec.ofInt (64 : Nat) (0 : Int)))
                      (W4.mk (BitVec.ofInt (64 : Nat) (0 : Int)) (BitVec.ofInt (64 : Nat) (0 : Int))
                        (BitVec.ofInt (64 : Nat) (0 : Int)) (BitVec.ofInt (64 : Nat) (0 : Int)))
                      (bytesOf (ByteArray.mk #[]))))),
              ((11 : Nat), V.bool true)],
            [Blk.b64 [v.a, v.b, v.c, v.d]]))))
    (Tr.chk true
      (Tr.leaf
        (Sum.inr
          (X.normal,
            [((2 : Nat), V.u8 cut), ((3 : Nat), V.u8 more), ((5 : Nat), V.ptr (0 : Nat) (0 : Nat)),
              ((9 : Nat), V.bool true), ((10 : Nat), V.str []), ((11 : Nat), V.bool false)],
            [Blk.b64 [v.a, v.b, v.c, v.d]]))))) := by kernel_rfl
theorem cu3_x (a : List B) (ok : Bool) (v : W4) (cut : B) (more : B) : Tr.prune (Tr.Sh.any.both Tr.Sh.any)
  (execBYE Pr OL2 noLoopsT (100 : Nat) Go.Proofs.Tryd.f6 (0 : Nat)
  (Tell.mk [(2 : Nat), (3 : Nat), (9 : Nat), (10 : Nat), (11 : Nat), (12 : Nat), (13 : Nat)] [] []) (Tell.mk [] [] [])
  (takeSeq (0 : Nat) (dropSeq (3 : Nat) cutB))
  [((2 : Nat), V.u8 cut), ((3 : Nat), V.u8 more), ((5 : Nat), V.ptr (0 : Nat) (0 : Nat)), ((9 : Nat), V.bool true),
    ((10 : Nat), V.str a), ((11 : Nat), V.bool ok)]
  [Blk.b64 [v.a, v.b, v.c, v.d]]) =
  Tr.chk
  (eeB
    (CM.mk
      (bytesOf
        (ByteArray.mk
          #[OfNat.ofNat (115 : Nat), OfNat.ofNat (101 : Nat), OfNat.ofNat (116 : Nat), OfNat.ofNat (98 : Nat),
            OfNat.ofNat (97 : Nat), OfNat.ofNat (108 : Nat), OfNat.ofNat (97 : Nat), OfNat.ofNat (110 : Nat),
            OfNat.ofNat (99 : Nat), OfNat.ofNat (101 : Nat)]))
      (bytesOf
        (ByteArray.mk
          #[OfNat.ofNat (48 : Nat), OfNat.ofNat (49 : Nat), OfNat.ofNat (50 : Nat), OfNat.ofNat (51 : Nat),
            OfNat.ofNat (52 : Nat), OfNat.ofNat (53 : Nat), OfNat.ofNat (54 : Nat), OfNat.ofNat (55 : Nat),
            OfNat.ofNat (56 : Nat), OfNat.ofNat (57 : Nat), OfNat.ofNat (48 : Nat), OfNat.ofNat (49 : Nat),
            OfNat.ofNat (50 : Nat), OfNat.ofNat (51 : Nat), OfNat.ofNat (52 : Nat), OfNat.ofNat (53 : Nat),
            OfNat.ofNat (54 : Nat), OfNat.ofNat (55 : Nat), OfNat.ofNat (56 : Nat), OfNat.ofNat (57 : Nat)]))
      (BitVec.ofInt (64 : Nat) (0 : Int))
      (W4.mk (BitVec.ofInt (64 : Nat) (0 : Int)) (BitVec.ofInt (64 : Nat) (0 : Int)) (BitVec.ofInt (64 : Nat) (0 : Int))
        (BitVec.ofInt (64 : Nat) (0 : Int)))
      v (bytesOf (ByteArray.mk #[])) (0 : Int) (bytesOf (ByteArray.mk #[])) (bytesOf (ByteArray.mk #[]))
      (BitVec.ofInt (64 : Nat) (0 : Int)) (BitVec.ofInt (64 : Nat) (0 : Int))
      (W4.mk (BitVec.ofInt (64 : Nat) (0 : Int)) (BitVec.ofInt (64 : Nat) (0 : Int)) (BitVec.ofInt (64 : Nat) (0 : Int))
        (BitVec.ofInt (64 : Nat) (0 : Int)))
      (W4.mk (BitVec.ofInt (64 : Nat) (0 : Int)) (BitVec.ofInt (64 : Nat) (0 : Int)) (BitVec.ofInt (64 : Nat) (0 : Int))
        (BitVec.ofInt (64 : Nat) (0 : Int)))
      (W4.mk (BitVec.ofInt (64 : Nat) (0 : Int)) (BitVec.ofInt (64 : Nat) (0 : Int)) (BitVec.ofInt (64 : Nat) (0 : Int))
        (BitVec.ofInt (64 : Nat) (0 : Int)))
      (bytesOf (ByteArray.mk #[]))))
  (Tr.br
    (eeO
      (CM.mk
        (bytesOf
          (ByteArray.mk
            #[OfNat.ofNat (115 : Nat), OfNat.ofNat (101 : Nat), OfNat.ofNat (116 : Nat), OfNat.ofNat (98 : Nat),
              OfNat.ofNat (97 : Nat), OfNat.ofNat (108 : Nat), OfNat.ofNat (97 : Nat), OfNat.ofNat (110 : Nat),
              OfNat.ofNat (99 : Nat), OfNat.ofNat (101 : Nat)]))
        (bytesOf
          (ByteArray.mk
            #[OfNat.ofNat (48 : Nat), OfNat.ofNat (49 : Nat), OfNat.ofNat (50 : Nat), OfNat.ofNat (51 : Nat),
              OfNat.ofNat (52 : Nat), OfNat.ofNat (53 : Nat), OfNat.ofNat (54 : Nat), OfNat.ofNat (55 : Nat),
              OfNat.ofNat (56 : Nat), OfNat.ofNat (57 : Nat), OfNat.ofNat (48 : Nat), OfNat.ofNat (49 : Nat),
              OfNat.ofNat (50 : Nat), OfNat.ofNat (51 : Nat), OfNat.ofNat (52 : Nat), OfNat.ofNat (53 : Nat),
              OfNat.ofNat (54 : Nat), OfNat.ofNat (55 : Nat), OfNat.ofNat (56 : Nat), OfNat.ofNat (57 : Nat)]))
        (BitVec.ofInt (64 : Nat) (0 : Int))
        (W4.mk (BitVec.ofInt (64 : Nat) (0 : Int)) (BitVec.ofInt (64 : Nat) (0 : Int))
          (BitVec.ofInt (64 : Nat) (0 : Int)) (BitVec.ofInt (64 : Nat) (0 : Int)))
        v (bytesOf (ByteArray.mk #[])) (0 : Int) (bytesOf (ByteArray.mk #[])) (bytesOf (ByteArray.mk #[]))
        (BitVec.ofInt (64 : Nat) (0 : Int)) (BitVec.ofInt (64 : Nat) (0 : Int))
        (W4.mk (BitVec.ofInt (64 : Nat) (0 : Int)) (BitVec.ofInt (64 : Nat) (0 : Int))
          (BitVec.ofInt (64 : Nat) (0 : Int)) (BitVec.ofInt (64 : Nat) (0 : Int)))
        (W4.mk (BitVec.ofInt (64 : Nat) (0 : Int)) (BitVec.ofInt (64 : Nat) (0 : Int))
          (BitVec.ofInt (64 : Nat) (0 : Int)) (BitVec.ofInt (64 : Nat) (0 : Int)))
        (W4.mk (BitVec.ofInt (64 : Nat) (0 : Int)) (BitVec.ofInt (64 : Nat) (0 : Int))
          (BitVec.ofInt (64 : Nat) (0 : Int)) (BitVec.ofInt (64 : Nat) (0 : Int)))
        (bytesOf (ByteArray.mk #[]))))
    (Tr.chk true
      (Tr.leaf
        (Sum.inr
          (X.normal,
            [((2 : Nat), V.u8 cut), ((3 : Nat), V.u8 more), ((9 : Nat), V.bool true), ((10 : Nat), V.str a),
              ((11 : Nat), V.bool ok),
              ((12 : Nat),
                V.str
                  (eeS
                    (CM.mk
                      (bytesOf
                        (ByteArray.mk
                          #[OfNat.ofNat (115 : Nat), OfNat.ofNat (101 : Nat), OfNat.ofNat (116 : Nat),
                            OfNat.ofNat (98 : Nat), OfNat.ofNat (97 : Nat), OfNat.ofNat (108 : Nat),
                            OfNat.ofNat (97 : Nat), OfNat.ofNat (110 : Nat), OfNat.ofNat (99 : Nat),
                            OfNat.ofNat (101 : Nat)]))
                      (bytesOf
                        (ByteArray.mk
                          #[OfNat.ofNat (48 : Nat), OfNat.ofNat (49 : Nat), OfNat.ofNat (50 : Nat),
                            OfNat.ofNat (51 : Nat), OfNat.ofNat (52 : Nat), OfNat.ofNat (53 : Nat),
                            OfNat.ofNat (54 : Nat), OfNat.ofNat (55 : Nat), OfNat.ofNat (56 : Nat),
                            OfNat.ofNat (57 : Nat), OfNat.ofNat (48 : Nat), OfNat.ofNat (49 : Nat),
                            OfNat.ofNat (50 : Nat), OfNat.ofNat (51 : Nat), OfNat.ofNat (52 : Nat),
                            OfNat.ofNat (53 : Nat), OfNat.ofNat (54 : Nat), OfNat.ofNat (55 : Nat),
                            OfNat.ofNat (56 : Nat), OfNat.ofNat (57 : Nat)]))
                      (BitVec.ofInt (64 : Nat) (0 : Int))
                      (W4.mk (BitVec.ofInt (64 : Nat) (0 : Int)) (BitVec.ofInt (64 : Nat) (0 : Int))
                        (BitVec.ofInt (64 : Nat) (0 : Int)) (BitVec.ofInt (64 : Nat) (0 : Int)))
                      v (bytesOf (ByteArray.mk #[])) (0 : Int) (bytesOf (ByteArray.mk #[])) (bytesOf (ByteArray.mk #[]))
                      (BitVec.ofInt (64 : Nat) (0 : Int)) (BitVec.ofInt (64 : Nat) (0 : Int))
                      (W4.mk (BitVec.ofInt (64 : Nat) (0 : Int)) (BitVec.ofInt (64 : Nat) (0 : Int))
                        (BitVec.ofInt (64 : Nat) (0 : Int)) (BitVec.ofInt (64 : Nat) (0 : Int)))
                      (W4.mk (BitVec.ofInt (64 : Nat) (0 : Int)) (BitVec.ofInt (64 : Nat) (0 : Int))
                        (BitVec.ofInt (64 : Nat) (0 : Int)) (BitVec.ofInt (64 : Nat) (0 : Int)))
                      (W4.mk (BitVec.ofInt (64 : Nat) (0 : Int)) (BitVec.ofInt (64 : Nat) (0 : Int))
                        (BitVec.ofInt (64 : Nat) (0 : Int)) (BitVec.ofInt (64 : Nat) (0 : Int)))
                      (bytesOf (ByteArray.mk #[]))))),
              ((13 : Nat), V.bool true)],
            []))))
    (Tr.chk true
      (Tr.leaf
        (Sum.inr
          (X.normal,
            [((2 : Nat), V.u8 cut), ((3 : Nat), V.u8 more), ((9 : Nat), V.bool true), ((10 : Nat), V.str a),
              ((11 : Nat), V.bool ok), ((12 : Nat), V.str []), ((13 : Nat), V.bool false)],
            []))))) := by kernel_rfl
theorem cu4_x (a : List B) (b : List B) (cut : B) (more : B) : Tr.prune ((Tr.Sh.any.l.l.l.both
            (Tr.Sh.any.both Tr.Sh.any).r.r).r.r.r.r.r)
  (execBYE Pr OL2 noLoopsT (100 : Nat) Go.Proofs.Tryd.f6 (0 : Nat)
  (Tell.mk [(2 : Nat), (3 : Nat), (9 : Nat), (10 : Nat), (12 : Nat)] [] []) (Tell.mk [] [] [])
  (takeSeq (0 : Nat) (dropSeq (4 : Nat) cutB))
  [((2 : Nat), V.u8 cut), ((3 : Nat), V.u8 more), ((9 : Nat), V.bool true), ((10 : Nat), V.str a),
    ((11 : Nat), V.bool true), ((12 : Nat), V.str b), ((13 : Nat), V.bool true)]
  []) =
  Tr.chk true
  (Tr.br ((↑a.length : Int) == (0 : Int)) (Tr.chk true (Tr.leaf (Sum.inl (Fin.ret (V.bool false), []))))
    (Tr.chk true
      (Tr.br ((↑b.length : Int) == (0 : Int)) (Tr.chk true (Tr.leaf (Sum.inl (Fin.ret (V.bool false), []))))
        (Tr.leaf
          (Sum.inr
            (X.normal,
              [((2 : Nat), V.u8 cut), ((3 : Nat), V.u8 more), ((9 : Nat), V.bool true), ((10 : Nat), V.str a),
                ((12 : Nat), V.str b)],
              [])))))) := by kernel_rfl
theorem cu5_x (a : List B) (b : List B) (cut : B) (more : B) : Tr.prune (Tr.Sh.any.both Tr.Sh.any)
  (execBYE Pr OL2 noLoopsT (100 : Nat) Go.Proofs.Tryd.f6 (0 : Nat)
  (Tell.mk [(2 : Nat), (3 : Nat), (9 : Nat), (10 : Nat), (12 : Nat), (15 : Nat)] [] []) (Tell.mk [] [] [])
  (takeSeq (0 : Nat) (dropSeq (5 : Nat) cutB))
  [((2 : Nat), V.u8 cut), ((3 : Nat), V.u8 more), ((9 : Nat), V.bool true), ((10 : Nat), V.str a),
    ((12 : Nat), V.str b)]
  []) =
  Tr.chk
  (!decide ((↑a.length : Int) = (0 : Int)) &&
    (decide ((some ((↑(BitVec.toNat cut) : Int).tmod (↑a.length : Int))).getD (↑a.length : Int) ≤ (↑a.length : Int)) &&
      ddB (List.take ((some ((↑(BitVec.toNat cut) : Int).tmod (↑a.length : Int))).getD (↑a.length : Int)).toNat a)))
  (Tr.br (ddO (List.take ((some ((↑(BitVec.toNat cut) : Int).tmod (↑a.length : Int))).getD (↑a.length : Int)).toNat a))
    (Tr.chk true
      (Tr.leaf
        (Sum.inr
          (X.normal,
            [((2 : Nat), V.u8 cut), ((3 : Nat), V.u8 more), ((9 : Nat), V.bool true), ((10 : Nat), V.str a),
              ((12 : Nat), V.str b), ((15 : Nat), V.bool true)],
            []))))
    (Tr.chk true
      (Tr.leaf
        (Sum.inr
          (X.normal,
            [((2 : Nat), V.u8 cut), ((3 : Nat), V.u8 more), ((9 : Nat), V.bool true), ((10 : Nat), V.str a),
              ((12 : Nat), V.str b), ((15 : Nat), V.bool false)],
            []))))) := by kernel_rfl
theorem cu6_x (a : List B) (b : List B) (cut : B) (more : B) (c : Bool) : Tr.prune (Tr.Sh.any.both Tr.Sh.any)
  (execBYE Pr OL2 noLoopsT (100 : Nat) Go.Proofs.Tryd.f6 (0 : Nat)
  (Tell.mk [(2 : Nat), (3 : Nat), (9 : Nat), (12 : Nat), (15 : Nat), (17 : Nat)] [] []) (Tell.mk [] [] [])
  (takeSeq (0 : Nat) (dropSeq (6 : Nat) cutB))
  [((2 : Nat), V.u8 cut), ((3 : Nat), V.u8 more), ((9 : Nat), V.bool true), ((10 : Nat), V.str a),
    ((12 : Nat), V.str b), ((15 : Nat), V.bool c)]
  []) =
  Tr.chk (decide (a.length + (1 : Nat) ≤ (9223372036854775807 : Nat)) && ddB (a ++ [more]))
  (Tr.br (ddO (a ++ [more]))
    (Tr.chk true
      (Tr.leaf
        (Sum.inr
          (X.normal,
            [((2 : Nat), V.u8 cut), ((3 : Nat), V.u8 more), ((9 : Nat), V.bool true), ((12 : Nat), V.str b),
              ((15 : Nat), V.bool c), ((17 : Nat), V.bool true)],
            []))))
    (Tr.chk true
      (Tr.leaf
        (Sum.inr
          (X.normal,
            [((2 : Nat), V.u8 cut), ((3 : Nat), V.u8 more), ((9 : Nat), V.bool true), ((12 : Nat), V.str b),
              ((15 : Nat), V.bool c), ((17 : Nat), V.bool false)],
            []))))) := by kernel_rfl
theorem cu7_x (b : List B) (cut : B) (more : B) (c : Bool) (d : Bool) : Tr.prune (Tr.Sh.any.both Tr.Sh.any)
  (execBYE Pr OL2 noLoopsT (100 : Nat) Go.Proofs.Tryd.f6 (0 : Nat)
  (Tell.mk [(3 : Nat), (9 : Nat), (12 : Nat), (15 : Nat), (17 : Nat), (19 : Nat)] [] []) (Tell.mk [] [] [])
  (takeSeq (0 : Nat) (dropSeq (7 : Nat) cutB))
  [((2 : Nat), V.u8 cut), ((3 : Nat), V.u8 more), ((9 : Nat), V.bool true), ((12 : Nat), V.str b),
    ((15 : Nat), V.bool c), ((17 : Nat), V.bool d)]
  []) =
  Tr.chk
  (!decide ((↑b.length : Int) = (0 : Int)) &&
    (decide ((some ((↑(BitVec.toNat cut) : Int).tmod (↑b.length : Int))).getD (↑b.length : Int) ≤ (↑b.length : Int)) &&
      ddB (List.take ((some ((↑(BitVec.toNat cut) : Int).tmod (↑b.length : Int))).getD (↑b.length : Int)).toNat b)))
  (Tr.br (ddO (List.take ((some ((↑(BitVec.toNat cut) : Int).tmod (↑b.length : Int))).getD (↑b.length : Int)).toNat b))
    (Tr.chk true
      (Tr.leaf
        (Sum.inr
          (X.normal,
            [((3 : Nat), V.u8 more), ((9 : Nat), V.bool true), ((12 : Nat), V.str b), ((15 : Nat), V.bool c),
              ((17 : Nat), V.bool d), ((19 : Nat), V.bool true)],
            []))))
    (Tr.chk true
      (Tr.leaf
        (Sum.inr
          (X.normal,
            [((3 : Nat), V.u8 more), ((9 : Nat), V.bool true), ((12 : Nat), V.str b), ((15 : Nat), V.bool c),
              ((17 : Nat), V.bool d), ((19 : Nat), V.bool false)],
            []))))) := by kernel_rfl
theorem cu8_x (b : List B) (more : B) (c : Bool) (d : Bool) (e : Bool) : Tr.prune (Tr.Sh.any.both Tr.Sh.any)
  (execBYE Pr OL2 noLoopsT (100 : Nat) Go.Proofs.Tryd.f6 (0 : Nat)
  (Tell.mk [(9 : Nat), (15 : Nat), (17 : Nat), (19 : Nat), (21 : Nat)] [] []) (Tell.mk [] [] [])
  (takeSeq (0 : Nat) (dropSeq (8 : Nat) cutB))
  [((3 : Nat), V.u8 more), ((9 : Nat), V.bool true), ((12 : Nat), V.str b), ((15 : Nat), V.bool c),
    ((17 : Nat), V.bool d), ((19 : Nat), V.bool e)]
  []) =
  Tr.chk (decide ((1 : Nat) + b.length ≤ (9223372036854775807 : Nat)) && ddB ([more] ++ b))
  (Tr.br (ddO ([more] ++ b))
    (Tr.chk true
      (Tr.leaf
        (Sum.inr
          (X.normal,
            [((9 : Nat), V.bool true), ((15 : Nat), V.bool c), ((17 : Nat), V.bool d), ((19 : Nat), V.bool e),
              ((21 : Nat), V.bool true)],
            []))))
    (Tr.chk true
      (Tr.leaf
        (Sum.inr
          (X.normal,
            [((9 : Nat), V.bool true), ((15 : Nat), V.bool c), ((17 : Nat), V.bool d), ((19 : Nat), V.bool e),
              ((21 : Nat), V.bool false)],
            []))))) := by kernel_rfl
theorem cu9_x (c : Bool) (d : Bool) (e : Bool) (f : Bool) : Tr.prune ((((Tr.Sh.any.l.both Tr.Sh.any.r).l.both
            Tr.Sh.any.r.r.r).l.both
      Tr.Sh.any.r.r.r.r.r).l.l)
  (execBR Pr OL2 noLoopsT (100 : Nat) Go.Proofs.Tryd.f6 (0 : Nat) (dropSeq (9 : Nat) cutB)
  [((9 : Nat), V.bool true), ((15 : Nat), V.bool c), ((17 : Nat), V.bool d), ((19 : Nat), V.bool e),
    ((21 : Nat), V.bool f)]
  []) =
  Tr.chk true
  (Tr.br (!c)
    (Tr.chk true
      (Tr.br (!d)
        (Tr.chk true
          (Tr.br (!e) (Tr.chk true (Tr.leaf (Fin.ret (V.bool !f), [])))
            (Tr.chk true (Tr.leaf (Fin.ret (V.bool false), [])))))
        (Tr.chk true (Tr.leaf (Fin.ret (V.bool false), [])))))
    (Tr.chk true (Tr.leaf (Fin.ret (V.bool false), [])))) := by kernel_rfl
end
end Go.Proofs.YtbgiickegljpoaaDoor.K
end
section
open Go Go.Lh
namespace Go.Proofs.YtbgiickegljpoaaDoor.K
noncomputable section
set_option maxRecDepth 100000
theorem no_head {base : B} {n : Nat} {p b : List B} {m : B} (h : headO base n ++ p = m :: b) (hp : p.length = n) (hb : b.length = 67) (h0 : b.getD 0 0 = 248#8) : False := by
  rw [headO_eq] at h
  unfold headB at h
  split at h
  · have := congrArg List.length h
    simp only [List.length_append, List.length_cons, List.length_nil] at this
    omega
  · have hnl := numB_len8 (BitVec.ofNat 64 n)
    simp only [List.cons_append, List.cons.injEq] at h
    obtain ⟨_, h⟩ := h
    have hlen := congrArg List.length h
    rw [List.length_append, hb, hp] at hlen
    have h1 : (numB (BitVec.ofNat 64 n)).length ≤ 1 := (numB_le (BitVec.ofNat 64 n) 1).2 (by rw [BitVec.toNat_ofNat]; omega)
    have hn : n = 66 ∨ n = 67 := by omega
    rcases hn with rfl | rfl
    · have e : numB (BitVec.ofNat 64 66) = [66#8] := by rw [numB_eq]; decide
      rw [e] at h
      rw [← h] at h0
      exact absurd h0 (by show ¬ (66#8 = 248#8); decide)
    · have e : numB (BitVec.ofNat 64 67) = [67#8] := by rw [numB_eq]; decide
      rw [e] at hlen
      simp at hlen
theorem no_shift {x : It} {b : List B} {m : B} (h : enc x = m :: b) (hb : b.length = 67) (h0 : b.getD 0 0 = 248#8) : False := by
  cases x with
  | txt t =>
    rw [enc_txt_eq] at h
    split at h
    · rename_i ht
      have := congrArg List.length h
      rw [List.length_cons, hb] at this
      omega
    · exact no_head h rfl hb h0
  | lst l =>
    rw [enc_lst] at h
    exact no_head h rfl hb h0
theorem enc_short {t : List B} (h1 : t.length ≤ 55) (h2 : t.length ≠ 1) : (enc (.txt t)).length = t.length + 1 := by
  rw [enc_txt_eq, if_neg (fun e => h2 e.1), headO_eq, headB, if_pos h1, List.length_append]
  simp only [List.length_cons, List.length_nil]
  omega
def cA (n : BitVec 64) : CM := { CM0 n_setnonce with ad := a20, n := n }
def cB (v : W4) : CM := { CM0 n_setbalance with ad := a20, v := v }
theorem fk_sn : fkP f_an n_setnonce := ⟨by decide, by decide⟩
theorem fk_sb : fkP f_av n_setbalance := ⟨by decide, by decide⟩
theorem eok_A (n : BitVec 64) : eok f_an (cA n) = true := by
  rw [eok_an, bareB_an]; rfl
theorem eok_B (v : W4) : eok f_av (cB v) = true := by
  rw [eok_av, bareB_av]; rfl
theorem dep_eIt (f : List B) (c : CM) : (eIt f c).dep ≤ 64 := by
  unfold eIt; rw [It.dep]; have := deps_txt (eTs f c); omega
theorem tm {c : Nat} {l : Nat} (hl : 0 < l) : ((some ((c : Int).tmod (l : Int))).getD (l : Int)).toNat < l ∧ (some ((c : Int).tmod (l : Int))).getD (l : Int) ≤ (l : Int) := by
  show ((c : Int).tmod (l : Int)).toNat < l ∧ (c : Int).tmod (l : Int) ≤ (l : Int)
  rw [Int.tmod_eq_emod_of_nonneg (by omega)]
  have h1 := Int.emod_nonneg (c : Int) (show (l : Int) ≠ 0 by omega)
  have h2 := Int.emod_lt_of_pos (c : Int) (show (0 : Int) < (l : Int) by omega)
  omega
theorem cmdCuts_fn (n : BitVec 64) (v : W4) (cut more : B) : LFn Pr 6 [.u64 n, v.v, .u8 cut, .u8 more] [] (.ret (.bool true)) [] := by
  obtain ⟨_, _, dA⟩ := bk_an (cA n) fk_sn (eok_A n)
  obtain ⟨_, _, dB⟩ := bk_av (cB v) fk_sb (eok_B v)
  obtain ⟨eA, lA⟩ := decF_back dA
  obtain ⟨eB, lB⟩ := decF_back dB
  have oA : eeO (cA n) = true := by rw [eo_an (cA n) fk_sn]; exact eok_A n
  have oB : eeO (cB v) = true := by rw [eo_av (cB v) fk_sb]; exact eok_B v
  have pA : eeB (cA n) = true := eeB_t (ep_an (cA n) fk_sn (by show 0 + 0 + 0 ≤ _; decide))
  have pB : eeB (cB v) = true := eeB_t (ep_av (cB v) fk_sb (by show 0 + 0 + 0 ≤ _; decide))
  have gA : ∀ m, m < (eeS (cA n)).length → decF ((eeS (cA n)).take m) = none := by
    intro m hm
    rw [← eA] at hm lA ⊢
    exact decF_cut _ (dep_eIt _ _) lA m hm
  have gB : ∀ m, m < (eeS (cB v)).length → decF ((eeS (cB v)).take m) = none := by
    intro m hm
    rw [← eB] at hm lB ⊢
    exact decF_cut _ (dep_eIt _ _) lB m hm
  have gM : decF (eeS (cA n) ++ [more]) = none := by
    rw [← eA] at lA ⊢
    exact decF_behind _ (dep_eIt _ _) lA more []
  have lb : (eeS (cB v)).length = 67 ∧ (eeS (cB v)).getD 0 0 = 248#8 := by
    rw [← eB, eIt, eTs_av, enc_lst]
    have hl : (encs ([(cB v).nm, (cB v).ad, (cB v).v.bytes].map .txt)).length = 65 := by
      simp only [List.map_cons, List.map_nil, encs_cons, encs_nil, List.length_append, List.length_nil]
      rw [enc_short (t := (cB v).nm) (by show n_setbalance.length ≤ 55; decide) (by show n_setbalance.length ≠ 1; decide), enc_short (t := (cB v).ad) (by show a20.length ≤ 55; decide) (by show a20.length ≠ 1; decide), enc_short (t := (cB v).v.bytes) (by rw [W4.bytes_length]; decide) (by rw [W4.bytes_length]; decide), W4.bytes_length]
      rfl
    rw [hl]
    have e65 : numB (BitVec.ofNat 64 65) = [65#8] := by rw [numB_eq]; decide
    have e : headO 192#8 65 = [248#8, 65#8] := by rw [headO_eq, headB, if_neg (by decide), e65]; decide
    rw [e]
    refine ⟨?_, rfl⟩
    rw [List.length_append, hl]; rfl
  have gS : decF ([more] ++ eeS (cB v)) = none := by
    cases hd : decF ([more] ++ eeS (cB v)) with
    | none => rfl
    | some x => exact (no_shift (decF_back hd).1 lb.1 lb.2).elim
  have zA : 0 < (eeS (cA n)).length := by
    rw [← eA, eIt, enc_lst, List.length_append]
    have := headO_len 192#8 (encs ((eTs f_an (cA n)).map .txt)).length
    omega
  have zB : 0 < (eeS (cB v)).length := by omega
  refine EndsIn.done (fn := Go.Proofs.Tryd.f6) (by kernel_rfl) (by kernel_rfl) (by kernel_rfl) ?_
  refine EndsIn.cutY (L := noLoopsT) 2 OL2_sound mixed (by kernel_rfl) noLoops_all (by kernel_rfl) (cu1_x n v cut more) ?_
  refine wp_chk_true.2 (wp_leaf.2 ⟨clo_nil, .inl ⟨_, _, rfl, ?_⟩⟩)
  refine EndsIn.cutY (L := noLoopsT) 0 OL2_sound mixed (by kernel_rfl) noLoops_all (by kernel_rfl) (cu2_x n v cut more) ?_
  refine wp_chk.2 ⟨pA, wp_br.2 ⟨fun _ => wp_chk_true.2 (wp_leaf.2 ⟨clo_nil, .inl ⟨_, _, rfl, ?_⟩⟩), fun e => absurd (oA.symm.trans e) (by decide)⟩⟩
  show EndsIn Pr _ 0 _ [(2,.u8 cut),(3,.u8 more),(5,.ptr 0 0),(9,.bool true),(10,.str (eeS (cA n))),(11,.bool true)] [.b64 [v.a,v.b,v.c,v.d]] _ _
  generalize eeS (cA n) = a at *
  refine EndsIn.cutY (L := noLoopsT) 0 OL2_sound mixed (by kernel_rfl) noLoops_all (by kernel_rfl) (cu3_x a true v cut more) ?_
  refine wp_chk.2 ⟨pB, wp_br.2 ⟨fun _ => wp_chk_true.2 (wp_leaf.2 ⟨clo_nil, .inl ⟨_, _, rfl, ?_⟩⟩), fun e => absurd (oB.symm.trans e) (by decide)⟩⟩
  show EndsIn Pr _ 0 _ [(2,.u8 cut),(3,.u8 more),(9,.bool true),(10,.str a),(11,.bool true),(12,.str (eeS (cB v))),(13,.bool true)] [] _ _
  generalize eeS (cB v) = b at *
  refine EndsIn.cutY (L := noLoopsT) 0 OL2_sound mixed (by kernel_rfl) noLoops_all (by kernel_rfl) (cu4_x a b cut more) ?_
  refine wp_chk_true.2 (wp_br.2 ⟨fun e => absurd (beq_iff_eq.1 e) (by omega), fun _ => wp_chk_true.2 (wp_br.2 ⟨fun e => absurd (beq_iff_eq.1 e) (by omega), fun _ => wp_leaf.2 ⟨clo_nil, .inl ⟨_, _, rfl, ?_⟩⟩⟩)⟩)
  refine EndsIn.cutY (L := noLoopsT) 0 OL2_sound mixed (by kernel_rfl) noLoops_all (by kernel_rfl) (cu5_x a b cut more) ?_
  have tA := tm (c := cut.toNat) zA
  have tB := tm (c := cut.toNat) zB
  have hA := gA _ tA.1
  have hB := gB _ tB.1
  refine wp_chk.2 ⟨?_, wp_br.2 ⟨fun e => absurd ((ddO_n (dcC_none hA)).symm.trans e) (by decide), fun _ => wp_chk_true.2 (wp_leaf.2 ⟨clo_nil, .inl ⟨_, _, rfl, ?_⟩⟩)⟩⟩
  · rw [ddB_t (noTx_none hA), decide_eq_true tA.2, decide_eq_false (show ¬ ((a.length : Int) = 0) by omega)]; rfl
  refine EndsIn.cutY (L := noLoopsT) 0 OL2_sound mixed (by kernel_rfl) noLoops_all (by kernel_rfl) (cu6_x a b cut more false) ?_
  refine wp_chk.2 ⟨?_, wp_br.2 ⟨fun e => absurd ((ddO_n (dcC_none gM)).symm.trans e) (by decide), fun _ => wp_chk_true.2 (wp_leaf.2 ⟨clo_nil, .inl ⟨_, _, rfl, ?_⟩⟩)⟩⟩
  · rw [ddB_t (noTx_none gM), decide_eq_true (show a.length + 1 ≤ 9223372036854775807 by omega)]; rfl
  refine EndsIn.cutY (L := noLoopsT) 0 OL2_sound mixed (by kernel_rfl) noLoops_all (by kernel_rfl) (cu7_x b cut more false false) ?_
  refine wp_chk.2 ⟨?_, wp_br.2 ⟨fun e => absurd ((ddO_n (dcC_none hB)).symm.trans e) (by decide), fun _ => wp_chk_true.2 (wp_leaf.2 ⟨clo_nil, .inl ⟨_, _, rfl, ?_⟩⟩)⟩⟩
  · rw [ddB_t (noTx_none hB), decide_eq_true tB.2, decide_eq_false (show ¬ ((b.length : Int) = 0) by omega)]; rfl
  refine EndsIn.cutY (L := noLoopsT) 0 OL2_sound mixed (by kernel_rfl) noLoops_all (by kernel_rfl) (cu8_x b more false false false) ?_
  refine wp_chk.2 ⟨?_, wp_br.2 ⟨fun e => absurd ((ddO_n (dcC_none gS)).symm.trans e) (by decide), fun _ => wp_chk_true.2 (wp_leaf.2 ⟨clo_nil, .inl ⟨_, _, rfl, ?_⟩⟩)⟩⟩
  · rw [ddB_t (noTx_none gS), decide_eq_true (show 1 + b.length ≤ 9223372036854775807 by omega)]; rfl
  refine EndsIn.last (L := noLoopsT) OL2_sound mixed noLoops_all (by kernel_rfl) (cu9_x false false false false) ?_
  refine wp_chk_true.2 (wp_br.2 ⟨fun _ => wp_chk_true.2 (wp_br.2 ⟨fun _ => wp_chk_true.2 (wp_br.2 ⟨fun _ => wp_chk_true.2 (wp_leaf.2 rfl), fun e => by cases e⟩), fun e => by cases e⟩), fun e => by cases e⟩)
end
end Go.Proofs.YtbgiickegljpoaaDoor.K
end
