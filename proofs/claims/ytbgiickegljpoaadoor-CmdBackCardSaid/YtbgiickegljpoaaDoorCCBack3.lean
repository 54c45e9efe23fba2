/- The functions that this law reaches: what each comes to. -/
import Derived.Test.YtbgiickegljpoaaDoorCCBack2
set_option linter.unusedSimpArgs false
set_option linter.unusedVariables false
section
open Go Go.Lh
namespace Go.Proofs.YtbgiickegljpoaaDoor.K
noncomputable section
set_option maxRecDepth 100000
def OCh : OrcT := autoT Pr ext [] [19,39] 4
theorem OCh_sound : OrcSound Pr OCh.o := autoT_sound mixed ext_ok KOkT.nil (by kernel_rfl) 4
theorem ch_x (s : List B) : Tr.prune ((Tr.Sh.any.both
 (Tr.Sh.any.both
 (Tr.Sh.any.both
 (Tr.Sh.any.both
 (Tr.Sh.any.both
 (Tr.Sh.any.both
 (Tr.Sh.any.both
 (Tr.Sh.any.both
 (Tr.Sh.any.both
 (Tr.Sh.any.both
 (Tr.Sh.any.both
 (Tr.Sh.any.both
 (Tr.Sh.any.both Tr.Sh.any.r).l).l).l).l).l).l).l).l).l).l).l).l).l)
 (execBF Pr OCh noLoopsT (100 : Nat) Go.Proofs.Tryd.f11 [V.str s] []) =
 Tr.chk true
 (Tr.br
 (s ==
 bytesOf
 (ByteArray.mk
 #[OfNat.ofNat (115 : Nat), OfNat.ofNat (101 : Nat), OfNat.ofNat (110 : Nat), OfNat.ofNat (100 : Nat)]))
 (Tr.chk true (Tr.leaf (Fin.ret (V.bool true), [])))
 (Tr.chk true
 (Tr.br
 (s ==
 bytesOf
 (ByteArray.mk
 #[OfNat.ofNat (109 : Nat), OfNat.ofNat (105 : Nat), OfNat.ofNat (110 : Nat), OfNat.ofNat (101 : Nat)]))
 (Tr.chk true (Tr.leaf (Fin.ret (V.bool true), [])))
 (Tr.chk true
 (Tr.br
 (s ==
 bytesOf
 (ByteArray.mk
 #[OfNat.ofNat (119 : Nat), OfNat.ofNat (97 : Nat), OfNat.ofNat (114 : Nat), OfNat.ofNat (112 : Nat)]))
 (Tr.chk true (Tr.leaf (Fin.ret (V.bool true), [])))
 (Tr.chk true
 (Tr.br
 (s ==
 bytesOf
 (ByteArray.mk
 #[OfNat.ofNat (97 : Nat), OfNat.ofNat (117 : Nat), OfNat.ofNat (116 : Nat),
 OfNat.ofNat (111 : Nat)]))
 (Tr.chk true (Tr.leaf (Fin.ret (V.bool true), [])))
 (Tr.chk true
 (Tr.br
 (s ==
 bytesOf
 (ByteArray.mk
 #[OfNat.ofNat (115 : Nat), OfNat.ofNat (101 : Nat), OfNat.ofNat (116 : Nat),
 OfNat.ofNat (98 : Nat), OfNat.ofNat (97 : Nat), OfNat.ofNat (108 : Nat),
 OfNat.ofNat (97 : Nat), OfNat.ofNat (110 : Nat), OfNat.ofNat (99 : Nat),
 OfNat.ofNat (101 : Nat)]))
 (Tr.chk true (Tr.leaf (Fin.ret (V.bool true), [])))
 (Tr.chk true
 (Tr.br
 (s ==
 bytesOf
 (ByteArray.mk
 #[OfNat.ofNat (115 : Nat), OfNat.ofNat (101 : Nat), OfNat.ofNat (116 : Nat),
 OfNat.ofNat (110 : Nat), OfNat.ofNat (111 : Nat), OfNat.ofNat (110 : Nat),
 OfNat.ofNat (99 : Nat), OfNat.ofNat (101 : Nat)]))
 (Tr.chk true (Tr.leaf (Fin.ret (V.bool true), [])))
 (Tr.chk true
 (Tr.br
 (s ==
 bytesOf
 (ByteArray.mk
 #[OfNat.ofNat (115 : Nat), OfNat.ofNat (101 : Nat), OfNat.ofNat (116 : Nat),
 OfNat.ofNat (99 : Nat), OfNat.ofNat (111 : Nat), OfNat.ofNat (100 : Nat),
 OfNat.ofNat (101 : Nat)]))
 (Tr.chk true (Tr.leaf (Fin.ret (V.bool true), [])))
 (Tr.chk true
 (Tr.br
 (s ==
 bytesOf
 (ByteArray.mk
 #[OfNat.ofNat (115 : Nat), OfNat.ofNat (101 : Nat), OfNat.ofNat (116 : Nat),
 OfNat.ofNat (115 : Nat), OfNat.ofNat (108 : Nat), OfNat.ofNat (111 : Nat),
 OfNat.ofNat (116 : Nat)]))
 (Tr.chk true (Tr.leaf (Fin.ret (V.bool true), [])))
 (Tr.chk true
 (Tr.br
 (s ==
 bytesOf
 (ByteArray.mk
 #[OfNat.ofNat (105 : Nat), OfNat.ofNat (109 : Nat), OfNat.ofNat (112 : Nat),
 OfNat.ofNat (101 : Nat), OfNat.ofNat (114 : Nat), OfNat.ofNat (115 : Nat),
 OfNat.ofNat (111 : Nat), OfNat.ofNat (110 : Nat), OfNat.ofNat (97 : Nat),
 OfNat.ofNat (116 : Nat), OfNat.ofNat (101 : Nat)]))
 (Tr.chk true (Tr.leaf (Fin.ret (V.bool true), [])))
 (Tr.chk true
 (Tr.br
 (s ==
 bytesOf
 (ByteArray.mk
 #[OfNat.ofNat (115 : Nat), OfNat.ofNat (116 : Nat),
 OfNat.ofNat (111 : Nat), OfNat.ofNat (112 : Nat)]))
 (Tr.chk true (Tr.leaf (Fin.ret (V.bool true), [])))
 (Tr.chk true
 (Tr.br
 (s ==
 bytesOf
 (ByteArray.mk
 #[OfNat.ofNat (115 : Nat), OfNat.ofNat (110 : Nat),
 OfNat.ofNat (97 : Nat), OfNat.ofNat (112 : Nat),
 OfNat.ofNat (115 : Nat), OfNat.ofNat (104 : Nat),
 OfNat.ofNat (111 : Nat), OfNat.ofNat (116 : Nat)]))
 (Tr.chk true (Tr.leaf (Fin.ret (V.bool true), [])))
 (Tr.chk true
 (Tr.br
 (s ==
 bytesOf
 (ByteArray.mk
 #[OfNat.ofNat (114 : Nat), OfNat.ofNat (101 : Nat),
 OfNat.ofNat (118 : Nat), OfNat.ofNat (101 : Nat),
 OfNat.ofNat (114 : Nat), OfNat.ofNat (116 : Nat)]))
 (Tr.chk true (Tr.leaf (Fin.ret (V.bool true), [])))
 (Tr.chk true
 (Tr.br
 (s ==
 bytesOf
 (ByteArray.mk
 #[OfNat.ofNat (108 : Nat), OfNat.ofNat (111 : Nat),
 OfNat.ofNat (97 : Nat), OfNat.ofNat (100 : Nat)]))
 (Tr.chk true (Tr.leaf (Fin.ret (V.bool true), [])))
 (Tr.chk true
 (Tr.leaf
 (Fin.ret (V.bool false),
 [])))))))))))))))))))))))))))) := by kernel_rfl
def chgB (s : List B) : Bool := (s == n_send) || (s == n_mine) || (s == n_warp) || (s == n_auto) || (s == n_setbalance) || (s == n_setnonce) || (s == n_setcode) || (s == n_setslot) || (s == n_impersonate) || (s == n_stop) || (s == n_snapshot) || (s == n_revert) || (s == n_load)
theorem ofW_bytes (w : W4) : ofW w.bytes = w := by
  unfold ofW; rw [if_pos (by rw [W4.bytes_length]; decide), W4.ofBytes_bytes]
theorem smO_numB (n : BitVec 64) : smallO false (numB n) = true := by rw [smallO_eq]; exact numB_small n
theorem deps_txt : ∀ xs : List (List B), It.deps (xs.map .txt) ≤ 1
  | [] => by rw [List.map_nil, It.deps]; exact Nat.zero_le _
  | x :: r => by
    have := deps_txt r
    rw [List.map_cons, It.deps, It.dep]
    omega
theorem list_beq (s : List B) : (s == s) = true := by simp
def pick_n (c : CM) : CM := ({ CM0 c.nm with n := c.n } : CM)
theorem cmF_n (c : CM) : cmF f_n (It.rI ((eTs f_n c).map .txt)) = pick_n c := by
  show ({ CM0 c.nm with n := smallN false (numB c.n) } : CM) = pick_n c
  rw [smallN_numB]
  try rfl
theorem fo_n (c : CM) : fillO f_n 1 (It.rI ((eTs f_n c).map .txt)) = true := by
  rw [fillO_n]
  show (smallO false (numB c.n) && true) = true
  simp only [smO_numB, W4.bytes_length, Bool.and_true, Bool.true_and]
theorem eok_pick_n (c : CM) (h : eok f_n c = true) : eok f_n (pick_n c) = true := by
  rw [eok_n] at h ⊢
  rw [Bool.and_eq_true] at h ⊢
  refine ⟨?_, h.2⟩
  rw [bareB_n]
  try rfl
theorem eTs_pick_n (c : CM) : eTs f_n (pick_n c) = eTs f_n c := rfl
theorem back_n (c : CM) (hn : fkP f_n c.nm) (h : eok f_n c = true) (hl : (enc (eIt f_n c)).length ≤ 65536) : dcC (eS f_n c) = some (pick_n c) := by
  have hd : decF (eS f_n c) = some (eIt f_n c) := by
    rw [eS_eq]
    exact decF_fwd _ (by unfold eIt; rw [It.dep]; have := deps_txt (eTs f_n c); omega) hl
  have hs : eS f_n (pick_n c) = eS f_n c := by rw [eS_eq, eS_eq, eIt, eIt, eTs_pick_n]
  have hnm : nmL ((eTs f_n c).map .txt) = c.nm := rfl
  unfold dcC
  rw [hd]
  unfold eIt
  simp only
  rw [hnm, hn.1, hn.2]
  have ho : okD f_n (It.rI ((eTs f_n c).map .txt)) (eS f_n c) = true := by
    unfold okD
    rw [fo_n, cmF_n, eok_pick_n c h, hs, list_beq]; rfl
  rw [if_pos ⟨rfl, rfl, ho⟩, cmF_n]
def pick_av (c : CM) : CM := ({ CM0 c.nm with ad := c.ad, v := c.v } : CM)
theorem cmF_av (c : CM) : cmF f_av (It.rI ((eTs f_av c).map .txt)) = pick_av c := by
  show ({ CM0 c.nm with ad := c.ad, v := ofW c.v.bytes } : CM) = pick_av c
  rw [ofW_bytes]
  try rfl
theorem fo_av (c : CM) : fillO f_av 1 (It.rI ((eTs f_av c).map .txt)) = true := by
  rw [fillO_av]
  show (decide (c.v.bytes.length ≤ 32) && true) = true
  simp only [smO_numB, W4.bytes_length, Bool.and_true, Bool.true_and]
  try decide
theorem eok_pick_av (c : CM) (h : eok f_av c = true) : eok f_av (pick_av c) = true := by
  rw [eok_av] at h ⊢
  rw [Bool.and_eq_true] at h ⊢
  refine ⟨?_, h.2⟩
  rw [bareB_av]
  try rfl
theorem eTs_pick_av (c : CM) : eTs f_av (pick_av c) = eTs f_av c := rfl
theorem back_av (c : CM) (hn : fkP f_av c.nm) (h : eok f_av c = true) (hl : (enc (eIt f_av c)).length ≤ 65536) : dcC (eS f_av c) = some (pick_av c) := by
  have hd : decF (eS f_av c) = some (eIt f_av c) := by
    rw [eS_eq]
    exact decF_fwd _ (by unfold eIt; rw [It.dep]; have := deps_txt (eTs f_av c); omega) hl
  have hs : eS f_av (pick_av c) = eS f_av c := by rw [eS_eq, eS_eq, eIt, eIt, eTs_pick_av]
  have hnm : nmL ((eTs f_av c).map .txt) = c.nm := rfl
  unfold dcC
  rw [hd]
  unfold eIt
  simp only
  rw [hnm, hn.1, hn.2]
  have ho : okD f_av (It.rI ((eTs f_av c).map .txt)) (eS f_av c) = true := by
    unfold okD
    rw [fo_av, cmF_av, eok_pick_av c h, hs, list_beq]; rfl
  rw [if_pos ⟨rfl, rfl, ho⟩, cmF_av]
def pick_an (c : CM) : CM := ({ CM0 c.nm with ad := c.ad, n := c.n } : CM)
theorem cmF_an (c : CM) : cmF f_an (It.rI ((eTs f_an c).map .txt)) = pick_an c := by
  show ({ CM0 c.nm with ad := c.ad, n := smallN false (numB c.n) } : CM) = pick_an c
  rw [smallN_numB]
  try rfl
theorem fo_an (c : CM) : fillO f_an 1 (It.rI ((eTs f_an c).map .txt)) = true := by
  rw [fillO_an]
  show (smallO false (numB c.n) && true) = true
  simp only [smO_numB, W4.bytes_length, Bool.and_true, Bool.true_and]
theorem eok_pick_an (c : CM) (h : eok f_an c = true) : eok f_an (pick_an c) = true := by
  rw [eok_an] at h ⊢
  rw [Bool.and_eq_true] at h ⊢
  refine ⟨?_, h.2⟩
  rw [bareB_an]
  try rfl
theorem eTs_pick_an (c : CM) : eTs f_an (pick_an c) = eTs f_an c := rfl
theorem back_an (c : CM) (hn : fkP f_an c.nm) (h : eok f_an c = true) (hl : (enc (eIt f_an c)).length ≤ 65536) : dcC (eS f_an c) = some (pick_an c) := by
  have hd : decF (eS f_an c) = some (eIt f_an c) := by
    rw [eS_eq]
    exact decF_fwd _ (by unfold eIt; rw [It.dep]; have := deps_txt (eTs f_an c); omega) hl
  have hs : eS f_an (pick_an c) = eS f_an c := by rw [eS_eq, eS_eq, eIt, eIt, eTs_pick_an]
  have hnm : nmL ((eTs f_an c).map .txt) = c.nm := rfl
  unfold dcC
  rw [hd]
  unfold eIt
  simp only
  rw [hnm, hn.1, hn.2]
  have ho : okD f_an (It.rI ((eTs f_an c).map .txt)) (eS f_an c) = true := by
    unfold okD
    rw [fo_an, cmF_an, eok_pick_an c h, hs, list_beq]; rfl
  rw [if_pos ⟨rfl, rfl, ho⟩, cmF_an]
def pick_akv (c : CM) : CM := ({ CM0 c.nm with ad := c.ad, k := c.k, v := c.v } : CM)
theorem cmF_akv (c : CM) : cmF f_akv (It.rI ((eTs f_akv c).map .txt)) = pick_akv c := by
  show ({ CM0 c.nm with ad := c.ad, k := ofW c.k.bytes, v := ofW c.v.bytes } : CM) = pick_akv c
  rw [ofW_bytes, ofW_bytes]
  try rfl
theorem fo_akv (c : CM) : fillO f_akv 1 (It.rI ((eTs f_akv c).map .txt)) = true := by
  rw [fillO_akv]
  show (decide (c.k.bytes.length ≤ 32) && (decide (c.v.bytes.length ≤ 32) && true)) = true
  simp only [smO_numB, W4.bytes_length, Bool.and_true, Bool.true_and]
  try decide
theorem eok_pick_akv (c : CM) (h : eok f_akv c = true) : eok f_akv (pick_akv c) = true := by
  rw [eok_akv] at h ⊢
  rw [Bool.and_eq_true] at h ⊢
  refine ⟨?_, h.2⟩
  rw [bareB_akv]
  try rfl
theorem eTs_pick_akv (c : CM) : eTs f_akv (pick_akv c) = eTs f_akv c := rfl
theorem back_akv (c : CM) (hn : fkP f_akv c.nm) (h : eok f_akv c = true) (hl : (enc (eIt f_akv c)).length ≤ 65536) : dcC (eS f_akv c) = some (pick_akv c) := by
  have hd : decF (eS f_akv c) = some (eIt f_akv c) := by
    rw [eS_eq]
    exact decF_fwd _ (by unfold eIt; rw [It.dep]; have := deps_txt (eTs f_akv c); omega) hl
  have hs : eS f_akv (pick_akv c) = eS f_akv c := by rw [eS_eq, eS_eq, eIt, eIt, eTs_pick_akv]
  have hnm : nmL ((eTs f_akv c).map .txt) = c.nm := rfl
  unfold dcC
  rw [hd]
  unfold eIt
  simp only
  rw [hnm, hn.1, hn.2]
  have ho : okD f_akv (It.rI ((eTs f_akv c).map .txt)) (eS f_akv c) = true := by
    unfold okD
    rw [fo_akv, cmF_akv, eok_pick_akv c h, hs, list_beq]; rfl
  rw [if_pos ⟨rfl, rfl, ho⟩, cmF_akv]
def pick_e (c : CM) : CM := (CM0 c.nm)
theorem cmF_e (c : CM) : cmF f_e (It.rI ((eTs f_e c).map .txt)) = pick_e c := by
  show (CM0 c.nm) = pick_e c
  rfl
theorem fo_e (c : CM) : fillO f_e 1 (It.rI ((eTs f_e c).map .txt)) = true := by
  rw [fillO_e]
theorem eok_pick_e (c : CM) (h : eok f_e c = true) : eok f_e (pick_e c) = true := by
  rw [eok_e] at h ⊢
  rw [Bool.and_eq_true] at h ⊢
  refine ⟨?_, h.2⟩
  rw [bareB_e]
  try rfl
theorem eTs_pick_e (c : CM) : eTs f_e (pick_e c) = eTs f_e c := rfl
theorem back_e (c : CM) (hn : fkP f_e c.nm) (h : eok f_e c = true) (hl : (enc (eIt f_e c)).length ≤ 65536) : dcC (eS f_e c) = some (pick_e c) := by
  have hd : decF (eS f_e c) = some (eIt f_e c) := by
    rw [eS_eq]
    exact decF_fwd _ (by unfold eIt; rw [It.dep]; have := deps_txt (eTs f_e c); omega) hl
  have hs : eS f_e (pick_e c) = eS f_e c := by rw [eS_eq, eS_eq, eIt, eIt, eTs_pick_e]
  have hnm : nmL ((eTs f_e c).map .txt) = c.nm := rfl
  unfold dcC
  rw [hd]
  unfold eIt
  simp only
  rw [hnm, hn.1, hn.2]
  have ho : okD f_e (It.rI ((eTs f_e c).map .txt)) (eS f_e c) = true := by
    unfold okD
    rw [fo_e, cmF_e, eok_pick_e c h, hs, list_beq]; rfl
  rw [if_pos ⟨rfl, rfl, ho⟩, cmF_e]
def pick_s (c : CM) : CM := ({ CM0 c.nm with s := c.s } : CM)
theorem cmF_s (c : CM) : cmF f_s (It.rI ((eTs f_s c).map .txt)) = pick_s c := by
  show ({ CM0 c.nm with s := c.s } : CM) = pick_s c
  rfl
theorem fo_s (c : CM) : fillO f_s 1 (It.rI ((eTs f_s c).map .txt)) = true := by
  rw [fillO_s]
theorem eok_pick_s (c : CM) (h : eok f_s c = true) : eok f_s (pick_s c) = true := by
  rw [eok_s] at h ⊢
  rw [Bool.and_eq_true] at h ⊢
  refine ⟨?_, h.2⟩
  rw [bareB_s]
  try rfl
theorem eTs_pick_s (c : CM) : eTs f_s (pick_s c) = eTs f_s c := rfl
theorem back_s (c : CM) (hn : fkP f_s c.nm) (h : eok f_s c = true) (hl : (enc (eIt f_s c)).length ≤ 65536) : dcC (eS f_s c) = some (pick_s c) := by
  have hd : decF (eS f_s c) = some (eIt f_s c) := by
    rw [eS_eq]
    exact decF_fwd _ (by unfold eIt; rw [It.dep]; have := deps_txt (eTs f_s c); omega) hl
  have hs : eS f_s (pick_s c) = eS f_s c := by rw [eS_eq, eS_eq, eIt, eIt, eTs_pick_s]
  have hnm : nmL ((eTs f_s c).map .txt) = c.nm := rfl
  unfold dcC
  rw [hd]
  unfold eIt
  simp only
  rw [hnm, hn.1, hn.2]
  have ho : okD f_s (It.rI ((eTs f_s c).map .txt)) (eS f_s c) = true := by
    unfold okD
    rw [fo_s, cmF_s, eok_pick_s c h, hs, list_beq]; rfl
  rw [if_pos ⟨rfl, rfl, ho⟩, cmF_s]
theorem changes_fn (s : List B) : LFn Pr 11 [.str s] [] (.ret (.bool (chgB s))) [] := by
  have yes : chgB s = true → (fun r : Fin × Heap => r = (.ret (.bool (chgB s)), [])) (.ret (.bool true), []) := by intro e; rw [e]
  have no : chgB s = false → (fun r : Fin × Heap => r = (.ret (.bool (chgB s)), [])) (.ret (.bool false), []) := by intro e; rw [e]
  refine fnT OCh_sound mixed (by kernel_rfl) LoopsOk.noneT (ch_x s) ?_
  refine wp_chk_true.2 (wp_br.2 ⟨fun e0 => wp_chk_true.2 (wp_leaf.2 (yes ?_)), fun e0 => wp_chk_true.2 (wp_br.2 ⟨fun e1 => wp_chk_true.2 (wp_leaf.2 (yes ?_)), fun e1 => wp_chk_true.2 (wp_br.2 ⟨fun e2 => wp_chk_true.2 (wp_leaf.2 (yes ?_)), fun e2 => wp_chk_true.2 (wp_br.2 ⟨fun e3 => wp_chk_true.2 (wp_leaf.2 (yes ?_)), fun e3 => wp_chk_true.2 (wp_br.2 ⟨fun e4 => wp_chk_true.2 (wp_leaf.2 (yes ?_)), fun e4 => wp_chk_true.2 (wp_br.2 ⟨fun e5 => wp_chk_true.2 (wp_leaf.2 (yes ?_)), fun e5 => wp_chk_true.2 (wp_br.2 ⟨fun e6 => wp_chk_true.2 (wp_leaf.2 (yes ?_)), fun e6 => wp_chk_true.2 (wp_br.2 ⟨fun e7 => wp_chk_true.2 (wp_leaf.2 (yes ?_)), fun e7 => wp_chk_true.2 (wp_br.2 ⟨fun e8 => wp_chk_true.2 (wp_leaf.2 (yes ?_)), fun e8 => wp_chk_true.2 (wp_br.2 ⟨fun e9 => wp_chk_true.2 (wp_leaf.2 (yes ?_)), fun e9 => wp_chk_true.2 (wp_br.2 ⟨fun e10 => wp_chk_true.2 (wp_leaf.2 (yes ?_)), fun e10 => wp_chk_true.2 (wp_br.2 ⟨fun e11 => wp_chk_true.2 (wp_leaf.2 (yes ?_)), fun e11 => wp_chk_true.2 (wp_br.2 ⟨fun e12 => wp_chk_true.2 (wp_leaf.2 (yes ?_)), fun e12 => wp_chk_true.2 (wp_leaf.2 (no ?_))⟩)⟩)⟩)⟩)⟩)⟩)⟩)⟩)⟩)⟩)⟩)⟩)⟩)
  · have h0 : (s == n_send) = true := e0
    simp only [chgB, h0, Bool.or_true, Bool.true_or, Bool.false_or, Bool.or_false]
  · have h0 : (s == n_send) = false := e0
    have h1 : (s == n_mine) = true := e1
    simp only [chgB, h0, h1, Bool.or_true, Bool.true_or, Bool.false_or, Bool.or_false]
  · have h0 : (s == n_send) = false := e0
    have h1 : (s == n_mine) = false := e1
    have h2 : (s == n_warp) = true := e2
    simp only [chgB, h0, h1, h2, Bool.or_true, Bool.true_or, Bool.false_or, Bool.or_false]
  · have h0 : (s == n_send) = false := e0
    have h1 : (s == n_mine) = false := e1
    have h2 : (s == n_warp) = false := e2
    have h3 : (s == n_auto) = true := e3
    simp only [chgB, h0, h1, h2, h3, Bool.or_true, Bool.true_or, Bool.false_or, Bool.or_false]
  · have h0 : (s == n_send) = false := e0
    have h1 : (s == n_mine) = false := e1
    have h2 : (s == n_warp) = false := e2
    have h3 : (s == n_auto) = false := e3
    have h4 : (s == n_setbalance) = true := e4
    simp only [chgB, h0, h1, h2, h3, h4, Bool.or_true, Bool.true_or, Bool.false_or, Bool.or_false]
  · have h0 : (s == n_send) = false := e0
    have h1 : (s == n_mine) = false := e1
    have h2 : (s == n_warp) = false := e2
    have h3 : (s == n_auto) = false := e3
    have h4 : (s == n_setbalance) = false := e4
    have h5 : (s == n_setnonce) = true := e5
    simp only [chgB, h0, h1, h2, h3, h4, h5, Bool.or_true, Bool.true_or, Bool.false_or, Bool.or_false]
  · have h0 : (s == n_send) = false := e0
    have h1 : (s == n_mine) = false := e1
    have h2 : (s == n_warp) = false := e2
    have h3 : (s == n_auto) = false := e3
    have h4 : (s == n_setbalance) = false := e4
    have h5 : (s == n_setnonce) = false := e5
    have h6 : (s == n_setcode) = true := e6
    simp only [chgB, h0, h1, h2, h3, h4, h5, h6, Bool.or_true, Bool.true_or, Bool.false_or, Bool.or_false]
  · have h0 : (s == n_send) = false := e0
    have h1 : (s == n_mine) = false := e1
    have h2 : (s == n_warp) = false := e2
    have h3 : (s == n_auto) = false := e3
    have h4 : (s == n_setbalance) = false := e4
    have h5 : (s == n_setnonce) = false := e5
    have h6 : (s == n_setcode) = false := e6
    have h7 : (s == n_setslot) = true := e7
    simp only [chgB, h0, h1, h2, h3, h4, h5, h6, h7, Bool.or_true, Bool.true_or, Bool.false_or, Bool.or_false]
  · have h0 : (s == n_send) = false := e0
    have h1 : (s == n_mine) = false := e1
    have h2 : (s == n_warp) = false := e2
    have h3 : (s == n_auto) = false := e3
    have h4 : (s == n_setbalance) = false := e4
    have h5 : (s == n_setnonce) = false := e5
    have h6 : (s == n_setcode) = false := e6
    have h7 : (s == n_setslot) = false := e7
    have h8 : (s == n_impersonate) = true := e8
    simp only [chgB, h0, h1, h2, h3, h4, h5, h6, h7, h8, Bool.or_true, Bool.true_or, Bool.false_or, Bool.or_false]
  · have h0 : (s == n_send) = false := e0
    have h1 : (s == n_mine) = false := e1
    have h2 : (s == n_warp) = false := e2
    have h3 : (s == n_auto) = false := e3
    have h4 : (s == n_setbalance) = false := e4
    have h5 : (s == n_setnonce) = false := e5
    have h6 : (s == n_setcode) = false := e6
    have h7 : (s == n_setslot) = false := e7
    have h8 : (s == n_impersonate) = false := e8
    have h9 : (s == n_stop) = true := e9
    simp only [chgB, h0, h1, h2, h3, h4, h5, h6, h7, h8, h9, Bool.or_true, Bool.true_or, Bool.false_or, Bool.or_false]
  · have h0 : (s == n_send) = false := e0
    have h1 : (s == n_mine) = false := e1
    have h2 : (s == n_warp) = false := e2
    have h3 : (s == n_auto) = false := e3
    have h4 : (s == n_setbalance) = false := e4
    have h5 : (s == n_setnonce) = false := e5
    have h6 : (s == n_setcode) = false := e6
    have h7 : (s == n_setslot) = false := e7
    have h8 : (s == n_impersonate) = false := e8
    have h9 : (s == n_stop) = false := e9
    have h10 : (s == n_snapshot) = true := e10
    simp only [chgB, h0, h1, h2, h3, h4, h5, h6, h7, h8, h9, h10, Bool.or_true, Bool.true_or, Bool.false_or, Bool.or_false]
  · have h0 : (s == n_send) = false := e0
    have h1 : (s == n_mine) = false := e1
    have h2 : (s == n_warp) = false := e2
    have h3 : (s == n_auto) = false := e3
    have h4 : (s == n_setbalance) = false := e4
    have h5 : (s == n_setnonce) = false := e5
    have h6 : (s == n_setcode) = false := e6
    have h7 : (s == n_setslot) = false := e7
    have h8 : (s == n_impersonate) = false := e8
    have h9 : (s == n_stop) = false := e9
    have h10 : (s == n_snapshot) = false := e10
    have h11 : (s == n_revert) = true := e11
    simp only [chgB, h0, h1, h2, h3, h4, h5, h6, h7, h8, h9, h10, h11, Bool.or_true, Bool.true_or, Bool.false_or, Bool.or_false]
  · have h0 : (s == n_send) = false := e0
    have h1 : (s == n_mine) = false := e1
    have h2 : (s == n_warp) = false := e2
    have h3 : (s == n_auto) = false := e3
    have h4 : (s == n_setbalance) = false := e4
    have h5 : (s == n_setnonce) = false := e5
    have h6 : (s == n_setcode) = false := e6
    have h7 : (s == n_setslot) = false := e7
    have h8 : (s == n_impersonate) = false := e8
    have h9 : (s == n_stop) = false := e9
    have h10 : (s == n_snapshot) = false := e10
    have h11 : (s == n_revert) = false := e11
    have h12 : (s == n_load) = true := e12
    simp only [chgB, h0, h1, h2, h3, h4, h5, h6, h7, h8, h9, h10, h11, h12, Bool.or_true, Bool.true_or, Bool.false_or, Bool.or_false]
  · have h0 : (s == n_send) = false := e0
    have h1 : (s == n_mine) = false := e1
    have h2 : (s == n_warp) = false := e2
    have h3 : (s == n_auto) = false := e3
    have h4 : (s == n_setbalance) = false := e4
    have h5 : (s == n_setnonce) = false := e5
    have h6 : (s == n_setcode) = false := e6
    have h7 : (s == n_setslot) = false := e7
    have h8 : (s == n_impersonate) = false := e8
    have h9 : (s == n_stop) = false := e9
    have h10 : (s == n_snapshot) = false := e10
    have h11 : (s == n_revert) = false := e11
    have h12 : (s == n_load) = false := e12
    simp only [chgB, h0, h1, h2, h3, h4, h5, h6, h7, h8, h9, h10, h11, h12, Bool.or_true, Bool.true_or, Bool.false_or, Bool.or_false]
end
end Go.Proofs.YtbgiickegljpoaaDoor.K
end
section
open Go Go.Lh
namespace Go.Proofs.YtbgiickegljpoaaDoor.K
noncomputable section
set_option maxRecDepth 100000
def KX2 : KnownT := (8, ctT ca_read ee_f) :: (9, ctT readS dd_f) :: (10, fi_g) :: (11, ctS fun s => .bool (chgB s)) :: []
theorem KX2_ok : KOkT Pr KX2 := KOkT.cons (Enters.of (fn := Go.Proofs.Tryd.f8) (by kernel_rfl) (by kernel_rfl)) ee_ok (KOkT.cons (Enters.of (fn := Go.Proofs.Tryd.f9) (by kernel_rfl) (by kernel_rfl)) dd_ok (KOkT.cons (Enters.of (fn := Go.Proofs.Tryd.f10) (by kernel_rfl) (by kernel_rfl)) fi_ok (KOkT.cons (Enters.of (fn := Go.Proofs.Tryd.f11) (by kernel_rfl) (by kernel_rfl)) (ctS_ok changes_fn) KOkT.nil)))
def OX2 : OrcT := autoT Pr ext KX2 [] 3
theorem OX2_sound : OrcSound Pr OX2.o := autoT_sound mixed ext_ok KX2_ok (by kernel_rfl) 3
def cm5 : CM := { CM0 n_mine with n := BitVec.ofInt 64 5 }
def cmx : CM := { CM0 n_mine with s := [120#8] }
theorem exa_x : Tr.prune (Tr.Sh.any.both Tr.Sh.any) (execBYE Pr OX2 noLoopsT 100 Go.Proofs.Tryd.f7 0 ⟨[1,2],[],[]⟩ ⟨[],[],[]⟩ (takeSeq 1 (bodyOf Go.Proofs.Tryd.f7)) [] []) =
 .chk (eeB (cm5, aF cm5.af)) (.br (eeO cm5) (.chk true (.leaf (.inr (.normal, [(1,.str (eeS cm5)),(2,.bool true)], [])))) (.chk true (.leaf (.inr (.normal, [(1,.str []),(2,.bool false)], []))))) := by kernel_rfl
theorem exb_x (s : List B) (ok : Bool) : Tr.prune (Tr.Sh.any.both Tr.Sh.any)
 (execBYE Pr OX2 noLoopsT (100 : Nat) Go.Proofs.Tryd.f7 (0 : Nat)
 (Tell.mk [(2 : Nat), (3 : Nat), (4 : Nat)] [(0 : Nat)] []) (Tell.mk [] [] [])
 (takeSeq (0 : Nat) (dropSeq (1 : Nat) (bodyOf Go.Proofs.Tryd.f7))) [((1 : Nat), V.str s), ((2 : Nat), V.bool ok)] []) =
 Tr.chk true
 (Tr.br (ddO s)
 (Tr.chk true
 (Tr.leaf
 (Sum.inr
 (X.normal, [((2 : Nat), V.bool ok), ((3 : Nat), V.ptr (0 : Nat) (0 : Nat)), ((4 : Nat), V.bool true)],
 [Blk.vals
 [V.str (ddC s).nm, V.str (ddC s).ad, V.u64 (ddC s).n, V.u64 (ddC s).k.a, V.u64 (ddC s).k.b,
 V.u64 (ddC s).k.c, V.u64 (ddC s).k.d, V.u64 (ddC s).v.a, V.u64 (ddC s).v.b, V.u64 (ddC s).v.c,
 V.u64 (ddC s).v.d, V.str (ddC s).s, V.int IntKind.i64 (ddC s).tk, V.str (ddC s).tf, V.str (ddC s).tt,
 V.u64 (ddC s).tn, V.u64 (ddC s).tg, V.u64 (ddC s).tp.a, V.u64 (ddC s).tp.b, V.u64 (ddC s).tp.c,
 V.u64 (ddC s).tp.d, V.u64 (ddC s).ti.a, V.u64 (ddC s).ti.b, V.u64 (ddC s).ti.c, V.u64 (ddC s).ti.d,
 V.u64 (ddC s).tv.a, V.u64 (ddC s).tv.b, V.u64 (ddC s).tv.c, V.u64 (ddC s).tv.d, V.str (ddC s).td,
 V.isl (2 : Nat) (ddC s).an (aF (ddC s).af)]]))))
 (Tr.chk true
 (Tr.leaf
 (Sum.inr
 (X.normal, [((2 : Nat), V.bool ok), ((3 : Nat), V.ptr (0 : Nat) (0 : Nat)), ((4 : Nat), V.bool false)],
 [Blk.vals
 [V.str (CM0 noT).nm, V.str (CM0 noT).ad, V.u64 (CM0 noT).n, V.u64 (CM0 noT).k.a, V.u64 (CM0 noT).k.b,
 V.u64 (CM0 noT).k.c, V.u64 (CM0 noT).k.d, V.u64 (CM0 noT).v.a, V.u64 (CM0 noT).v.b,
 V.u64 (CM0 noT).v.c, V.u64 (CM0 noT).v.d, V.str (CM0 noT).s, V.int IntKind.i64 (0 : Int),
 V.str (CM0 noT).tf, V.str (CM0 noT).tt, V.u64 (CM0 noT).tn, V.u64 (CM0 noT).tg, V.u64 (CM0 noT).tp.a,
 V.u64 (CM0 noT).tp.b, V.u64 (CM0 noT).tp.c, V.u64 (CM0 noT).tp.d, V.u64 (CM0 noT).ti.a,
 V.u64 (CM0 noT).ti.b, V.u64 (CM0 noT).ti.c, V.u64 (CM0 noT).ti.d, V.u64 (CM0 noT).tv.a,
 V.u64 (CM0 noT).tv.b, V.u64 (CM0 noT).tv.c, V.u64 (CM0 noT).tv.d, V.str (CM0 noT).td,
 V.isl (2 : Nat) (0 : Nat) (aF (CM0 noT).af)]]))))) := by kernel_rfl
theorem exc_x (ok is : Bool) (c : CM) : Tr.prune (Tr.Sh.any.both Tr.Sh.any) (execBYE Pr OX2 noLoopsT 100 Go.Proofs.Tryd.f7 0 ⟨[2,3,4,6],[0],[]⟩ ⟨[],[],[]⟩ (takeSeq 0 (dropSeq 2 (bodyOf Go.Proofs.Tryd.f7))) [(2,.bool ok),(3,.ptr 0 0),(4,.bool is)] [.vals c.cs]) =
 .chk (eeB (cmx, aF cmx.af)) (.br (eeO cmx) (.chk true (.leaf (.inr (.normal, [(2,.bool ok),(3,.ptr 0 0),(4,.bool is),(6,.bool true)], [.vals c.cs])))) (.chk true (.leaf (.inr (.normal, [(2,.bool ok),(3,.ptr 0 0),(4,.bool is),(6,.bool false)], [.vals c.cs]))))) := by kernel_rfl
theorem exd_x (ok : Bool) (is : Bool) (no : Bool) (c : CM) : Tr.prune (((((Tr.Sh.any.l.l.l.l.l.both
 Tr.Sh.any.r.r.r.r.r).l.both
 Tr.Sh.any.r.r.r.r.r.r.r).l.l.both
 Tr.Sh.any.r.r.r.r.r.r.r.r.r.r).l.l.both
 Tr.Sh.any.r.r.r.r.r.r.r.r.r.r.r.r.r).both
 Tr.Sh.any.r.r.r.r.r.r.r.r.r.r.r.r.r.r)
 (execBR Pr OX2 noLoopsT (100 : Nat) Go.Proofs.Tryd.f7 (0 : Nat)
 (dropSeq (2 : Nat) (dropSeq (0 : Nat) (bodyOf Go.Proofs.Tryd.f7)))
 [((2 : Nat), V.bool ok), ((3 : Nat), V.ptr (0 : Nat) (0 : Nat)), ((4 : Nat), V.bool is), ((6 : Nat), V.bool no)]
 [Blk.vals c.cs]) =
 Tr.chk true
 (Tr.br ok
 (Tr.chk true
 (Tr.br is
 (Tr.chk true
 (Tr.br
 (c.nm ==
 bytesOf
 (ByteArray.mk
 #[OfNat.ofNat (109 : Nat), OfNat.ofNat (105 : Nat), OfNat.ofNat (110 : Nat),
 OfNat.ofNat (101 : Nat)]))
 (Tr.chk true
 (Tr.br (c.n == BitVec.ofInt (64 : Nat) (5 : Int))
 (Tr.chk true
 (Tr.br (!no) (Tr.chk true (Tr.leaf (Fin.ret (V.bool true), [])))
 (Tr.chk true (Tr.leaf (Fin.ret (V.bool false), [])))))
 (Tr.chk true (Tr.leaf (Fin.ret (V.bool false), [])))))
 (Tr.chk true (Tr.leaf (Fin.ret (V.bool false), [])))))
 (Tr.chk true (Tr.leaf (Fin.ret (V.bool false), [])))))
 (Tr.chk true (Tr.leaf (Fin.ret (V.bool false), [])))) := by kernel_rfl
end
end Go.Proofs.YtbgiickegljpoaaDoor.K
end
section
open Go Go.Lh
namespace Go.Proofs.YtbgiickegljpoaaDoor.K
noncomputable section
set_option maxRecDepth 100000
theorem eo_g {f : List B} (c : CM) (hn : fkP f c.nm) : eeO c = eok f c := by
  cases h : eok f c with
  | true => exact eeO_iff.2 ⟨hn.2, by rw [hn.1]; exact h⟩
  | false =>
    cases h2 : eeO c with
    | false => rfl
    | true => have := (eeO_iff.1 h2).2; rw [hn.1, h] at this; cases this
theorem len_n (c : CM) (hn : fkP f_n c.nm) (h : eok f_n c = true) : (enc (eIt f_n c)).length ≤ 65536 := by
  rw [eok_n] at h
  simp only [Bool.and_eq_true, beq_iff_eq, decide_eq_true_eq, and_true] at h
  have h1 := fk_len hn
  have h2 := numB_len8 c.n
  have h3 := W4.bytes_length c.k
  have h4 := W4.bytes_length c.v
  have h5 := lst_len (eTs f_n c)
  rw [eTs_n] at h5
  simp only [List.map_cons, List.map_nil, List.sum_cons, List.sum_nil] at h5
  show (enc (.lst ((eTs f_n c).map .txt))).length ≤ 65536
  rw [eTs_n]
  simp only [List.map_cons, List.map_nil]
  omega
theorem bk_n (c : CM) (hn : fkP f_n c.nm) (h : eok f_n c = true) : dcC (eeS c) = some (pick_n c) ∧ decF (eeS c) = some (eIt f_n c) := by
  have e : eeS c = eS f_n c := by rw [eeS_eq, hn.1]
  have hd : decF (eS f_n c) = some (eIt f_n c) := by
    rw [eS_eq]
    exact decF_fwd _ (by unfold eIt; rw [It.dep]; have := deps_txt (eTs f_n c); omega) (len_n c hn h)
  rw [e]
  exact ⟨back_n c hn h (len_n c hn h), hd⟩
theorem len_av (c : CM) (hn : fkP f_av c.nm) (h : eok f_av c = true) : (enc (eIt f_av c)).length ≤ 65536 := by
  rw [eok_av] at h
  simp only [Bool.and_eq_true, beq_iff_eq, decide_eq_true_eq, and_true] at h
  have h1 := fk_len hn
  have h2 := numB_len8 c.n
  have h3 := W4.bytes_length c.k
  have h4 := W4.bytes_length c.v
  have h5 := lst_len (eTs f_av c)
  rw [eTs_av] at h5
  simp only [List.map_cons, List.map_nil, List.sum_cons, List.sum_nil] at h5
  show (enc (.lst ((eTs f_av c).map .txt))).length ≤ 65536
  rw [eTs_av]
  simp only [List.map_cons, List.map_nil]
  omega
theorem bk_av (c : CM) (hn : fkP f_av c.nm) (h : eok f_av c = true) : dcC (eeS c) = some (pick_av c) ∧ decF (eeS c) = some (eIt f_av c) := by
  have e : eeS c = eS f_av c := by rw [eeS_eq, hn.1]
  have hd : decF (eS f_av c) = some (eIt f_av c) := by
    rw [eS_eq]
    exact decF_fwd _ (by unfold eIt; rw [It.dep]; have := deps_txt (eTs f_av c); omega) (len_av c hn h)
  rw [e]
  exact ⟨back_av c hn h (len_av c hn h), hd⟩
theorem len_an (c : CM) (hn : fkP f_an c.nm) (h : eok f_an c = true) : (enc (eIt f_an c)).length ≤ 65536 := by
  rw [eok_an] at h
  simp only [Bool.and_eq_true, beq_iff_eq, decide_eq_true_eq, and_true] at h
  have h1 := fk_len hn
  have h2 := numB_len8 c.n
  have h3 := W4.bytes_length c.k
  have h4 := W4.bytes_length c.v
  have h5 := lst_len (eTs f_an c)
  rw [eTs_an] at h5
  simp only [List.map_cons, List.map_nil, List.sum_cons, List.sum_nil] at h5
  show (enc (.lst ((eTs f_an c).map .txt))).length ≤ 65536
  rw [eTs_an]
  simp only [List.map_cons, List.map_nil]
  omega
theorem bk_an (c : CM) (hn : fkP f_an c.nm) (h : eok f_an c = true) : dcC (eeS c) = some (pick_an c) ∧ decF (eeS c) = some (eIt f_an c) := by
  have e : eeS c = eS f_an c := by rw [eeS_eq, hn.1]
  have hd : decF (eS f_an c) = some (eIt f_an c) := by
    rw [eS_eq]
    exact decF_fwd _ (by unfold eIt; rw [It.dep]; have := deps_txt (eTs f_an c); omega) (len_an c hn h)
  rw [e]
  exact ⟨back_an c hn h (len_an c hn h), hd⟩
theorem len_akv (c : CM) (hn : fkP f_akv c.nm) (h : eok f_akv c = true) : (enc (eIt f_akv c)).length ≤ 65536 := by
  rw [eok_akv] at h
  simp only [Bool.and_eq_true, beq_iff_eq, decide_eq_true_eq, and_true] at h
  have h1 := fk_len hn
  have h2 := numB_len8 c.n
  have h3 := W4.bytes_length c.k
  have h4 := W4.bytes_length c.v
  have h5 := lst_len (eTs f_akv c)
  rw [eTs_akv] at h5
  simp only [List.map_cons, List.map_nil, List.sum_cons, List.sum_nil] at h5
  show (enc (.lst ((eTs f_akv c).map .txt))).length ≤ 65536
  rw [eTs_akv]
  simp only [List.map_cons, List.map_nil]
  omega
theorem bk_akv (c : CM) (hn : fkP f_akv c.nm) (h : eok f_akv c = true) : dcC (eeS c) = some (pick_akv c) ∧ decF (eeS c) = some (eIt f_akv c) := by
  have e : eeS c = eS f_akv c := by rw [eeS_eq, hn.1]
  have hd : decF (eS f_akv c) = some (eIt f_akv c) := by
    rw [eS_eq]
    exact decF_fwd _ (by unfold eIt; rw [It.dep]; have := deps_txt (eTs f_akv c); omega) (len_akv c hn h)
  rw [e]
  exact ⟨back_akv c hn h (len_akv c hn h), hd⟩
theorem len_e (c : CM) (hn : fkP f_e c.nm) (h : eok f_e c = true) : (enc (eIt f_e c)).length ≤ 65536 := by
  rw [eok_e] at h
  simp only [Bool.and_eq_true, beq_iff_eq, decide_eq_true_eq, and_true] at h
  have h1 := fk_len hn
  have h2 := numB_len8 c.n
  have h3 := W4.bytes_length c.k
  have h4 := W4.bytes_length c.v
  have h5 := lst_len (eTs f_e c)
  rw [eTs_e] at h5
  simp only [List.map_cons, List.map_nil, List.sum_cons, List.sum_nil] at h5
  show (enc (.lst ((eTs f_e c).map .txt))).length ≤ 65536
  rw [eTs_e]
  simp only [List.map_cons, List.map_nil]
  omega
theorem bk_e (c : CM) (hn : fkP f_e c.nm) (h : eok f_e c = true) : dcC (eeS c) = some (pick_e c) ∧ decF (eeS c) = some (eIt f_e c) := by
  have e : eeS c = eS f_e c := by rw [eeS_eq, hn.1]
  have hd : decF (eS f_e c) = some (eIt f_e c) := by
    rw [eS_eq]
    exact decF_fwd _ (by unfold eIt; rw [It.dep]; have := deps_txt (eTs f_e c); omega) (len_e c hn h)
  rw [e]
  exact ⟨back_e c hn h (len_e c hn h), hd⟩
theorem len_s (c : CM) (hn : fkP f_s c.nm) (h : eok f_s c = true) : (enc (eIt f_s c)).length ≤ 65536 := by
  rw [eok_s] at h
  simp only [Bool.and_eq_true, beq_iff_eq, decide_eq_true_eq, and_true] at h
  have h1 := fk_len hn
  have h2 := numB_len8 c.n
  have h3 := W4.bytes_length c.k
  have h4 := W4.bytes_length c.v
  have h5 := lst_len (eTs f_s c)
  rw [eTs_s] at h5
  simp only [List.map_cons, List.map_nil, List.sum_cons, List.sum_nil] at h5
  show (enc (.lst ((eTs f_s c).map .txt))).length ≤ 65536
  rw [eTs_s]
  simp only [List.map_cons, List.map_nil]
  omega
theorem bk_s (c : CM) (hn : fkP f_s c.nm) (h : eok f_s c = true) : dcC (eeS c) = some (pick_s c) ∧ decF (eeS c) = some (eIt f_s c) := by
  have e : eeS c = eS f_s c := by rw [eeS_eq, hn.1]
  have hd : decF (eS f_s c) = some (eIt f_s c) := by
    rw [eS_eq]
    exact decF_fwd _ (by unfold eIt; rw [It.dep]; have := deps_txt (eTs f_s c); omega) (len_s c hn h)
  rw [e]
  exact ⟨back_s c hn h (len_s c hn h), hd⟩
theorem fk_mine : fkP f_n n_mine := ⟨by decide, by decide⟩
theorem ex_fn : LFn Pr 7 [] [] (.ret (.bool true)) [] := by
  have k1 : eok f_n cm5 = true := by kernel_rfl
  have k2 : eok f_n cmx = false := by kernel_rfl
  have p1 : eeB (cm5, aF cm5.af) = true := eeB_t ⟨by show 0 + 0 + 0 ≤ _; decide, Nat.zero_le _⟩
  have p2 : eeB (cmx, aF cmx.af) = true := eeB_t ⟨by show 0 + 0 + 0 ≤ _; decide, Nat.zero_le _⟩
  have o1 : eeO cm5 = true := by rw [eo_g cm5 fk_mine, k1]
  have o2 : eeO cmx = false := by rw [eo_g cmx fk_mine, k2]
  obtain ⟨d1, _⟩ := bk_n cm5 fk_mine k1
  have d3 : dcC (eeS cm5) = some cm5 := d1
  refine EndsIn.done (fn := Go.Proofs.Tryd.f7) (by kernel_rfl) (by kernel_rfl) (by kernel_rfl) ?_
  refine EndsIn.cutY (L := noLoopsT) 1 OX2_sound mixed (by kernel_rfl) noLoops_all (by kernel_rfl) exa_x ?_
  refine wp_chk.2 ⟨p1, wp_br.2 ⟨fun _ => wp_chk_true.2 (wp_leaf.2 ⟨clo_nil, .inl ⟨_, _, rfl, ?_⟩⟩), fun e => by rw [o1] at e; cases e⟩⟩
  refine EndsIn.cutY (L := noLoopsT) 0 OX2_sound mixed (by kernel_rfl) noLoops_all (by kernel_rfl) (exb_x (eeS cm5) true) ?_
  refine wp_chk.2 ⟨rfl, wp_br.2 ⟨fun _ => wp_chk_true.2 (wp_leaf.2 ⟨clo_nil, .inl ⟨_, _, rfl, ?_⟩⟩), fun e => by rw [ddO_t d3] at e; cases e⟩⟩
  rw [ddC_eq d3]
  refine EndsIn.cutY (L := noLoopsT) 0 OX2_sound mixed (by kernel_rfl) noLoops_all (by kernel_rfl) (exc_x true true cm5) ?_
  refine wp_chk.2 ⟨p2, wp_br.2 ⟨fun e => (by rw [o2] at e; cases e), fun _ => wp_chk_true.2 (wp_leaf.2 ⟨clo_nil, .inl ⟨_, _, rfl, ?_⟩⟩)⟩⟩
  refine EndsIn.last (L := noLoopsT) OX2_sound mixed noLoops_all (by kernel_rfl) (exd_x true true false cm5) ?_
  refine wp_chk_true.2 (wp_br.2 ⟨fun _ => wp_chk_true.2 (wp_br.2 ⟨fun _ => wp_chk_true.2 (wp_br.2 ⟨fun _ => wp_chk_true.2 (wp_br.2 ⟨fun _ => wp_chk_true.2 (wp_br.2 ⟨fun _ => wp_chk_true.2 (wp_leaf.2 rfl), fun e => by cases e⟩), fun e => absurd e (by decide)⟩), fun e => absurd e (by decide)⟩), fun e => by cases e⟩), fun e => by cases e⟩)
def ex_g : List V → Heap → Tr (Fin × Heap) := fun args h => match args, h with
  | [], [] => .leaf (.ret (.bool true), [])
  | _, _ => .no
theorem ex_ok2 : ∀ args h r, (ex_g args h).is r → LFn Pr 7 args h r.1 r.2 := by
  intro args h r e
  unfold ex_g at e
  split at e
  · rw [Tr.is_leaf] at e; subst e; exact ex_fn
  · exact (Tr.is_no.1 e).elim
def KL2 : KnownT := (7, ex_g) :: KX2
theorem KL2_ok : KOkT Pr KL2 := KOkT.cons (Enters.of (fn := Go.Proofs.Tryd.f7) (by kernel_rfl) (by kernel_rfl)) ex_ok2 KX2_ok
def OL2 : OrcT := autoT Pr ext KL2 [] 3
theorem OL2_sound : OrcSound Pr OL2.o := autoT_sound mixed ext_ok KL2_ok (by kernel_rfl) 3
end
end Go.Proofs.YtbgiickegljpoaaDoor.K
end
section
open Go Go.Lh
namespace Go.Proofs.YtbgiickegljpoaaDoor.K
noncomputable section
set_option maxRecDepth 100000
def a20 : List B := [48#8, 49#8, 50#8, 51#8, 52#8, 53#8, 54#8, 55#8, 56#8, 57#8, 48#8, 49#8, 50#8, 51#8, 52#8, 53#8, 54#8, 55#8, 56#8, 57#8]
def bkB : Code := bodyOf Go.Proofs.Tryd.f3
def bkE : X × Fr × Heap → Tr (Fin × Heap) := endT Pr Go.Proofs.Tryd.f3 0
structure BK where
  n : BitVec 64
  k : W4
  v : W4
  s : List B
def BK.g (b : BK) : Nat → CM
  | 0 => { CM0 n_mine with n := b.n }
  | 1 => { CM0 n_setslot with ad := a20, k := b.k, v := b.v }
  | 2 => { CM0 n_load with s := b.s }
  | 3 => { CM0 n_logs with ad := a20, n := b.n }
  | 4 => CM0 n_dump
  | _ => { CM0 n_setbalance with ad := a20, v := b.v }
def BK.cells (b : BK) : List V := (b.g 0).csA .nilSl ++ ((b.g 1).csA .nilSl ++ ((b.g 2).csA .nilSl ++ ((b.g 3).csA .nilSl ++ ((b.g 4).csA .nilSl ++ (b.g 5).csA .nilSl))))
def sT (s : List B) : List B := List.take ((some (if (200 : Int) < (s.length : Int) then (200 : Int) else (s.length : Int))).getD (s.length : Int)).toNat (List.drop 0 s)
theorem bk1_x (which : B) (n : BitVec 64) (k : W4) (v : W4) (s : List B) (raw : List B) : Tr.prune (Tr.Sh.any.r)
 (execBYF Pr OL2 noLoopsT (100 : Nat) (0 : Nat)
 (Tell.mk [(0 : Nat), (1 : Nat), (4 : Nat), (5 : Nat), (8 : Nat), (9 : Nat), (13 : Nat)] [(0 : Nat), (1 : Nat)] [])
 (Tell.mk [] [] []) bkE (takeSeq (2 : Nat) bkB)
 [((0 : Nat), V.u8 which), ((1 : Nat), V.u64 n), ((2 : Nat), k.v), ((3 : Nat), v.v), ((4 : Nat), V.str s),
 ((5 : Nat), V.str raw)]
 []) =
 Tr.chk true
 (Tr.leaf
 (Sum.inr
 (X.normal,
 [((0 : Nat), V.u8 which), ((1 : Nat), V.u64 n), ((4 : Nat), V.str s), ((5 : Nat), V.str raw),
 ((8 : Nat), V.ptr (0 : Nat) (0 : Nat)), ((9 : Nat), V.ptr (1 : Nat) (0 : Nat)), ((13 : Nat), V.bool true)],
 [Blk.b64 [k.a, k.b, k.c, k.d], Blk.b64 [v.a, v.b, v.c, v.d]]))) := by kernel_rfl
theorem bk2_x (which : B) (n : BitVec 64) (k : W4) (v : W4) (s : List B) (raw : List B) : Tr.prune (Tr.Sh.any)
 (execBYF Pr OL2 noLoopsT (100 : Nat) (0 : Nat) (Tell.mk [(0 : Nat), (5 : Nat), (13 : Nat), (14 : Nat)] [(2 : Nat)] [])
 (Tell.mk [] [] []) bkE (takeSeq (0 : Nat) (dropSeq (2 : Nat) bkB))
 [((0 : Nat), V.u8 which), ((1 : Nat), V.u64 n), ((4 : Nat), V.str s), ((5 : Nat), V.str raw),
 ((8 : Nat), V.ptr (0 : Nat) (0 : Nat)), ((9 : Nat), V.ptr (1 : Nat) (0 : Nat)), ((13 : Nat), V.bool true)]
 [Blk.b64 [k.a, k.b, k.c, k.d], Blk.b64 [v.a, v.b, v.c, v.d]]) =
 Tr.chk
 (decide
 ((0 : Int) ≤
 (some (if (200 : Int) < (↑s.length : Int) then (200 : Int) else (↑s.length : Int))).getD (↑s.length : Int)) &&
 decide
 ((some (if (200 : Int) < (↑s.length : Int) then (200 : Int) else (↑s.length : Int))).getD (↑s.length : Int) ≤
 (↑s.length : Int)) &&
 true)
 (Tr.leaf
 (Sum.inr
 (X.normal,
 [((0 : Nat), V.u8 which), ((5 : Nat), V.str raw), ((13 : Nat), V.bool true),
 ((14 : Nat), V.sl (0 : Nat) (0 : Nat) (31 : Nat) (6 : Nat) (some (6 : Nat)))],
 [Blk.vals
 (BK.mk n k v (sT s)).cells]))) := by kernel_rfl
theorem bk3_x (which : B) (raw : List B) (b : BK) : Tr.prune (Tr.Sh.any)
 (execB Pr OL2 noLoopsT (100 : Nat) (partA (6 : Nat) (dropSeq (3 : Nat) bkB))
 [((0 : Nat), V.u8 which), ((5 : Nat), V.str raw), ((13 : Nat), V.bool true),
 ((14 : Nat), V.sl (0 : Nat) (0 : Nat) (31 : Nat) (6 : Nat) (some (6 : Nat)))]
 [Blk.vals b.cells]) =
 Tr.chk true
 (Tr.leaf
 (X.normal,
 [((0 : Nat), V.u8 which), ((5 : Nat), V.str raw), ((13 : Nat), V.bool true),
 ((14 : Nat), V.sl (0 : Nat) (0 : Nat) (31 : Nat) (6 : Nat) (some (6 : Nat))),
 ((44 : Nat), V.sl (0 : Nat) (0 : Nat) (31 : Nat) (6 : Nat) (some (6 : Nat))), ((45 : Nat), V.u8 which),
 ((46 : Nat), V.int IntKind.i64 (↑(BitVec.toNat which) : Int)),
 ((47 : Nat), V.sl (0 : Nat) (0 : Nat) (31 : Nat) (6 : Nat) (some (6 : Nat))),
 ((48 : Nat), V.int IntKind.i64 (6 : Int)),
 ((49 : Nat), V.int IntKind.i64 ((↑(BitVec.toNat which) : Int).tmod (6 : Int)))],
 [Blk.vals
 b.cells])) := by kernel_rfl
theorem bk5_x (c : CM) (raw : List B) : Tr.prune (Tr.Sh.any.both Tr.Sh.any)
 (execBYF Pr OL2 noLoopsT (100 : Nat) (0 : Nat)
 (Tell.mk [(5 : Nat), (13 : Nat), (15 : Nat), (16 : Nat), (17 : Nat)] [(0 : Nat)] []) (Tell.mk [] [] []) bkE
 (takeSeq (0 : Nat) (dropSeq (4 : Nat) bkB))
 [((5 : Nat), V.str raw), ((13 : Nat), V.bool true), ((15 : Nat), V.ptr (0 : Nat) (0 : Nat))] [Blk.vals c.cs]) =
 Tr.chk
 (eeB (c, aF c.af))
 (Tr.br (eeO c)
 (Tr.chk true
 (Tr.leaf
 (Sum.inr
 (X.normal,
 [((5 : Nat), V.str raw), ((13 : Nat), V.bool true), ((15 : Nat), V.ptr (0 : Nat) (0 : Nat)),
 ((16 : Nat),
 V.str
 (eeS
 c)),
 ((17 : Nat), V.bool true)],
 [Blk.vals
 c.cs]))))
 (Tr.chk true
 (Tr.leaf
 (Sum.inr
 (X.normal,
 [((5 : Nat), V.str raw), ((13 : Nat), V.bool true), ((15 : Nat), V.ptr (0 : Nat) (0 : Nat)),
 ((16 : Nat), V.str []), ((17 : Nat), V.bool false)],
 [Blk.vals
 c.cs]))))) := by kernel_rfl
theorem bk6_x (c : CM) (b : List B) (raw : List B) : Tr.prune (Tr.Sh.any.both Tr.Sh.any)
 (execBYF Pr OL2 noLoopsT (100 : Nat) (0 : Nat)
 (Tell.mk [(5 : Nat), (13 : Nat), (15 : Nat), (17 : Nat), (18 : Nat), (19 : Nat)] [(0 : Nat), (1 : Nat)] [])
 (Tell.mk [] [] []) bkE (takeSeq (0 : Nat) (dropSeq (5 : Nat) bkB))
 [((5 : Nat), V.str raw), ((13 : Nat), V.bool true), ((15 : Nat), V.ptr (0 : Nat) (0 : Nat)), ((16 : Nat), V.str b),
 ((17 : Nat), V.bool true)]
 [Blk.vals c.cs]) =
 Tr.chk true
 (Tr.br (ddO b)
 (Tr.chk true
 (Tr.leaf
 (Sum.inr
 (X.normal,
 [((5 : Nat), V.str raw), ((13 : Nat), V.bool true), ((15 : Nat), V.ptr (0 : Nat) (0 : Nat)),
 ((17 : Nat), V.bool true), ((18 : Nat), V.ptr (1 : Nat) (0 : Nat)), ((19 : Nat), V.bool true)],
 [Blk.vals
 c.cs,
 Blk.vals
 (ddC b).cs]))))
 (Tr.chk true
 (Tr.leaf
 (Sum.inr
 (X.normal,
 [((5 : Nat), V.str raw), ((13 : Nat), V.bool true), ((15 : Nat), V.ptr (0 : Nat) (0 : Nat)),
 ((17 : Nat), V.bool true), ((18 : Nat), V.ptr (1 : Nat) (0 : Nat)), ((19 : Nat), V.bool false)],
 [Blk.vals
 c.cs,
 Blk.vals
 (CM0 noT).cs]))))) := by kernel_rfl
theorem bk7_x (c : CM) (raw : List B) : Tr.prune (Tr.Sh.any.both Tr.Sh.any)
 (execBYF Pr OL2 noLoopsT (100 : Nat) (0 : Nat)
 (Tell.mk [(5 : Nat), (13 : Nat), (15 : Nat), (17 : Nat), (18 : Nat), (19 : Nat), (20 : Nat), (21 : Nat)]
 [(0 : Nat), (1 : Nat), (2 : Nat)] [])
 (Tell.mk [] [] []) bkE (takeSeq (0 : Nat) (dropSeq (6 : Nat) bkB))
 [((5 : Nat), V.str raw), ((13 : Nat), V.bool true), ((15 : Nat), V.ptr (0 : Nat) (0 : Nat)),
 ((17 : Nat), V.bool true), ((18 : Nat), V.ptr (1 : Nat) (0 : Nat)), ((19 : Nat), V.bool true)]
 [Blk.vals c.cs, Blk.vals c.cs]) =
 Tr.chk true
 (Tr.br (ddO raw)
 (Tr.chk true
 (Tr.leaf
 (Sum.inr
 (X.normal,
 [((5 : Nat), V.str raw), ((13 : Nat), V.bool true), ((15 : Nat), V.ptr (0 : Nat) (0 : Nat)),
 ((17 : Nat), V.bool true), ((18 : Nat), V.ptr (1 : Nat) (0 : Nat)), ((19 : Nat), V.bool true),
 ((20 : Nat), V.ptr (2 : Nat) (0 : Nat)), ((21 : Nat), V.bool true)],
 [Blk.vals
 c.cs,
 Blk.vals
 c.cs,
 Blk.vals
 (ddC raw).cs]))))
 (Tr.chk true
 (Tr.leaf
 (Sum.inr
 (X.normal,
 [((5 : Nat), V.str raw), ((13 : Nat), V.bool true), ((15 : Nat), V.ptr (0 : Nat) (0 : Nat)),
 ((17 : Nat), V.bool true), ((18 : Nat), V.ptr (1 : Nat) (0 : Nat)), ((19 : Nat), V.bool true),
 ((20 : Nat), V.ptr (2 : Nat) (0 : Nat)), ((21 : Nat), V.bool false)],
 [Blk.vals
 c.cs,
 Blk.vals
 c.cs,
 Blk.vals
 (CM0 noT).cs]))))) := by kernel_rfl
theorem bk8_x (c : CM) (x : CM) (got : Bool) (raw : List B) : Tr.prune (Tr.Sh.any.both Tr.Sh.any)
 (execBYF Pr OL2 noLoopsT (100 : Nat) (0 : Nat)
 (Tell.mk [(5 : Nat), (13 : Nat), (15 : Nat), (17 : Nat), (18 : Nat), (19 : Nat), (21 : Nat), (22 : Nat), (23 : Nat)]
 [(0 : Nat), (1 : Nat)] [])
 (Tell.mk [] [] []) bkE (takeSeq (0 : Nat) (dropSeq (7 : Nat) bkB))
 [((5 : Nat), V.str raw), ((13 : Nat), V.bool true), ((15 : Nat), V.ptr (0 : Nat) (0 : Nat)),
 ((17 : Nat), V.bool true), ((18 : Nat), V.ptr (1 : Nat) (0 : Nat)), ((19 : Nat), V.bool true),
 ((20 : Nat), V.ptr (2 : Nat) (0 : Nat)), ((21 : Nat), V.bool got)]
 [Blk.vals c.cs, Blk.vals c.cs, Blk.vals x.cs]) =
 Tr.chk
 (eeB (x, aF x.af))
 (Tr.br (eeO x)
 (Tr.chk true
 (Tr.leaf
 (Sum.inr
 (X.normal,
 [((5 : Nat), V.str raw), ((13 : Nat), V.bool true), ((15 : Nat), V.ptr (0 : Nat) (0 : Nat)),
 ((17 : Nat), V.bool true), ((18 : Nat), V.ptr (1 : Nat) (0 : Nat)), ((19 : Nat), V.bool true),
 ((21 : Nat), V.bool got),
 ((22 : Nat),
 V.str
 (eeS
 x)),
 ((23 : Nat), V.bool true)],
 [Blk.vals
 c.cs,
 Blk.vals
 c.cs]))))
 (Tr.chk true
 (Tr.leaf
 (Sum.inr
 (X.normal,
 [((5 : Nat), V.str raw), ((13 : Nat), V.bool true), ((15 : Nat), V.ptr (0 : Nat) (0 : Nat)),
 ((17 : Nat), V.bool true), ((18 : Nat), V.ptr (1 : Nat) (0 : Nat)), ((19 : Nat), V.bool true),
 ((21 : Nat), V.bool got), ((22 : Nat), V.str []), ((23 : Nat), V.bool false)],
 [Blk.vals
 c.cs,
 Blk.vals
 c.cs]))))) := by kernel_rfl
theorem bk9_x (c : CM) (got : Bool) (fine : Bool) (t : List B) (raw : List B) : Tr.prune (((((((((Tr.Sh.any.l.l.l.both
 Tr.Sh.any.l.r.r).l.l.both
 Tr.Sh.any.r.r.r).l.l.both
 Tr.Sh.any.r.r.r.r.r.r).l.l.l.l.both
 Tr.Sh.any.r.r.r.r.r.r.r.r.r.r.r).l.l.l.l.both
 Tr.Sh.any.r.r.r.r.r.r.r.r.r.r.r.r.r.r.r.r).l.l.l.l.both
 Tr.Sh.any.r.r.r.r.r.r.r.r.r.r.r.r.r.r.r.r.r.r.r.r.r).l.l.l.l.both
 Tr.Sh.any.r.r.r.r.r.r.r.r.r.r.r.r.r.r.r.r.r.r.r.r.r.r.r.r.r.r).l.l.l.l.both
 Tr.Sh.any.r.r.r.r.r.r.r.r.r.r.r.r.r.r.r.r.r.r.r.r.r.r.r.r.r.r.r.r.r.r.r).l.l.l.l.l.l.l)
 (execBYF Pr OL2 noLoopsT (100 : Nat) (0 : Nat) (Tell.mk [] [] []) (Tell.mk [] [] []) bkE (dropSeq (8 : Nat) bkB)
 [((5 : Nat), V.str raw), ((13 : Nat), V.bool true), ((15 : Nat), V.ptr (0 : Nat) (0 : Nat)),
 ((17 : Nat), V.bool true), ((18 : Nat), V.ptr (1 : Nat) (0 : Nat)), ((19 : Nat), V.bool true),
 ((21 : Nat), V.bool got), ((22 : Nat), V.str t), ((23 : Nat), V.bool fine)]
 [Blk.vals c.cs, Blk.vals c.cs]) =
 Tr.chk true
 (Tr.br (c.nm == c.nm)
 (Tr.chk true
 (Tr.br (c.ad == c.ad)
 (Tr.chk true
 (Tr.br (c.n == c.n)
 (Tr.chk true
 (Tr.br (c.k.a == c.k.a && (c.k.b == c.k.b && (c.k.c == c.k.c && (c.k.d == c.k.d && true))))
 (Tr.chk true
 (Tr.br (c.v.a == c.v.a && (c.v.b == c.v.b && (c.v.c == c.v.c && (c.v.d == c.v.d && true))))
 (Tr.chk true
 (Tr.br (c.s == c.s)
 (Tr.chk true
 (Tr.br (got == fine)
 (Tr.chk true
 (Tr.br (!got) (Tr.chk true (Tr.leaf (Sum.inl (Fin.ret (V.bool true), []))))
 (Tr.chk true (Tr.leaf (Sum.inl (Fin.ret (V.bool (t == raw)), []))))))
 (Tr.chk true (Tr.leaf (Sum.inl (Fin.ret (V.bool false), []))))))
 (Tr.chk true (Tr.leaf (Sum.inl (Fin.ret (V.bool false), []))))))
 (Tr.chk true (Tr.leaf (Sum.inl (Fin.ret (V.bool false), []))))))
 (Tr.chk true (Tr.leaf (Sum.inl (Fin.ret (V.bool false), []))))))
 (Tr.chk true (Tr.leaf (Sum.inl (Fin.ret (V.bool false), []))))))
 (Tr.chk true (Tr.leaf (Sum.inl (Fin.ret (V.bool false), []))))))
 (Tr.chk true (Tr.leaf (Sum.inl (Fin.ret (V.bool false), []))))) := by kernel_rfl
end
end Go.Proofs.YtbgiickegljpoaaDoor.K
end
section
open Go Go.Lh
namespace Go.Proofs.YtbgiickegljpoaaDoor.K
noncomputable section
set_option maxRecDepth 100000
theorem fillC_nm : ∀ (f : List B) (i : Nat) (q : RW) (c : CM), (fillC f i q c).nm = c.nm
  | [], _, _, _ => rfl
  | x :: r, i, q, c => by
    rw [fillC, fillC_nm r (i + 1) q]
    cases Nat.beq x.toNat 97 <;> cases Nat.beq x.toNat 110 <;> cases Nat.beq x.toNat 107 <;> cases Nat.beq x.toNat 118 <;> cases Nat.beq x.toNat 116 <;> rfl
theorem cmF_nm (f : List B) (q : RW) : (cmF f q).nm = q.s 0 := fillC_nm f 1 q _
theorem okC_t {s : List B} {c : CM} (h : txD s = some c) : okC c := by
  obtain ⟨⟨_, ⟨_, _, h2, h3, h4⟩, _⟩, h5⟩ := txD_ok h
  refine ⟨?_, h5⟩
  have : c.tt.length ≤ 20 := by rcases h3 with h3 | h3 <;> simp [h3]
  omega
theorem okC_F {f : List B} (hf : isF f) {q : RW} {i : Nat} (h : fillO f 1 q = true) : okC (cmF f q) := by
  rcases hf with rfl | rfl | rfl | rfl | rfl | rfl | rfl | rfl | rfl | rfl
  any_goals exact ⟨by show (0 : Nat) + 0 + 0 ≤ 9223372036854775807; decide, Nat.zero_le _⟩
  rw [fillO_t, Bool.and_true] at h
  obtain ⟨c, hc⟩ : ∃ c, txD (q.s 1) = some c := @of_decide_eq_true _ (Classical.propDecidable _) h
  have := okC_t hc
  show okC ((CM0 (q.s 0)).wTx (tdC (q.s 1)))
  rw [tdC_eq hc]; exact this
theorem dcC_back {s : List B} {c : CM} (h : dcC s = some c) : okC c ∧ eeO c = true ∧ eeS c = s := by
  unfold dcC at h
  split at h
  · rename_i l hd
    by_cases hx : l.length = (lookS fieldsL (nmL l)).length + 1 ∧ hasS fieldsL (nmL l) = true ∧ okD (lookS fieldsL (nmL l)) (It.rI l) s = true
    · rw [if_pos hx] at h
      injection h with h
      obtain ⟨_, h2, h3⟩ := hx
      unfold okD at h3
      simp only [Bool.and_eq_true, beq_iff_eq] at h3
      obtain ⟨h4, h5, h6⟩ := h3
      have hn : c.nm = nmL l := by rw [← h, cmF_nm]; rfl
      have hk := okC_F (i := 0) (fk_isF h2) h4
      rw [h] at hk h5 h6
      refine ⟨hk, eeO_iff.2 ⟨by rw [hn]; exact h2, by rw [hn]; exact h5⟩, ?_⟩
      rw [eeS_eq, hn]; exact h6
    · rw [if_neg hx] at h
      cases h
  · cases h
theorem bk_ok (b : BK) (hb : b.s.length ≤ 200) : ∀ m, m < 6 → okC (b.g m) ∧ eeO (b.g m) = true ∧ dcC (eeS (b.g m)) = some (b.g m) := by
  have k0 : ∀ {c : CM}, c.tf.length + c.tt.length + c.td.length = 0 → c.an = 0 → okC c := fun h1 h2 => ⟨by omega, by rw [h2]; exact Nat.zero_le _⟩
  have go : ∀ {f : List B} {c p : CM}, fkP f c.nm → eok f c = true → okC c → dcC (eeS c) = some p → p = c → okC c ∧ eeO c = true ∧ dcC (eeS c) = some c := by
    rintro f c p hn ho hk hd rfl
    exact ⟨hk, by rw [eo_g _ hn]; exact ho, hd⟩
  intro m hm
  match m, hm with
  | 0, _ =>
    have hn : fkP f_n (b.g 0).nm := (⟨by decide, by decide⟩ : fkP f_n n_mine)
    have ho : eok f_n (b.g 0) = true := by rw [eok_n, bareB_n]; rfl
    exact go hn ho (k0 rfl rfl) (bk_n _ hn ho).1 rfl
  | 1, _ =>
    have hn : fkP f_akv (b.g 1).nm := (⟨by decide, by decide⟩ : fkP f_akv n_setslot)
    have ho : eok f_akv (b.g 1) = true := by rw [eok_akv, bareB_akv]; rfl
    exact go hn ho (k0 rfl rfl) (bk_akv _ hn ho).1 rfl
  | 2, _ =>
    have hn : fkP f_s (b.g 2).nm := (⟨by decide, by decide⟩ : fkP f_s n_load)
    have ho : eok f_s (b.g 2) = true := by
      rw [eok_s, bareB_s]
      show (true && (decide ((b.s.length : Int) ≤ (32768 : Int)) && true)) = true
      rw [decide_eq_true (show (b.s.length : Int) ≤ (32768 : Int) by omega)]; rfl
    exact go hn ho (k0 rfl rfl) (bk_s _ hn ho).1 rfl
  | 3, _ =>
    have hn : fkP f_an (b.g 3).nm := (⟨by decide, by decide⟩ : fkP f_an n_logs)
    have ho : eok f_an (b.g 3) = true := by rw [eok_an, bareB_an]; rfl
    exact go hn ho (k0 rfl rfl) (bk_an _ hn ho).1 rfl
  | 4, _ =>
    have hn : fkP f_e (b.g 4).nm := (⟨by decide, by decide⟩ : fkP f_e n_dump)
    have ho : eok f_e (b.g 4) = true := by rw [eok_e, bareB_e]; rfl
    exact go hn ho (k0 rfl rfl) (bk_e _ hn ho).1 rfl
  | 5, _ =>
    have hn : fkP f_av (b.g 5).nm := (⟨by decide, by decide⟩ : fkP f_av n_setbalance)
    have ho : eok f_av (b.g 5) = true := by rw [eok_av, bareB_av]; rfl
    exact go hn ho (k0 rfl rfl) (bk_av _ hn ho).1 rfl
theorem bk_load (which : B) (raw : List B) (b : BK) (m : Nat) (hm : m < 6) :
    (execBN Pr OL2 noLoopsT 100 0 [5,13,15] [] (partB 6 (dropSeq 3 bkB)) [(0,.u8 which),(5,.str raw),(13,.bool true),(14,.sl 0 0 31 6 (some 6)),(44,.sl 0 0 31 6 (some 6)),(45,.u8 which),(46,.int .i64 (which.toNat : Int)),(47,.sl 0 0 31 6 (some 6)),(48,.int .i64 6),(49,.int .i64 (m : Nat))] [.vals b.cells]).is (.normal, [(5,.str raw),(13,.bool true),(15,.ptr 0 0)], [.vals ((b.g m).csA .nilSl)]) := by
  match m, hm with
  | 0, _ => exact Tr.is_pr (sh := .any) (by kernel_rfl)
  | 1, _ => exact Tr.is_pr (sh := .any) (by kernel_rfl)
  | 2, _ => exact Tr.is_pr (sh := .any) (by kernel_rfl)
  | 3, _ => exact Tr.is_pr (sh := .any) (by kernel_rfl)
  | 4, _ => exact Tr.is_pr (sh := .any) (by kernel_rfl)
  | 5, _ => exact Tr.is_pr (sh := .any) (by kernel_rfl)
theorem bk_an0 (b : BK) (m : Nat) (hm : m < 6) : (b.g m).an = 0 := by
  match m, hm with
  | 0, _ => rfl
  | 1, _ => rfl
  | 2, _ => rfl
  | 3, _ => rfl
  | 4, _ => rfl
  | 5, _ => rfl
theorem sT_len (s : List B) : (sT s).length ≤ 200 := by
  unfold sT
  rw [List.length_take]
  simp only [Option.getD_some]
  split <;> omega
theorem wh6 (which : B) : ((which.toNat : Int).tmod 6) = ((which.toNat % 6 : Nat) : Int) := by
  rw [Int.tmod_eq_emod_of_nonneg (by omega)]; omega
theorem beq_self4 (a b c d : BitVec 64) : (a == a && (b == b && (c == c && (d == d && true)))) = true := by simp
theorem cmdBack_fn (which : B) (n : BitVec 64) (k v : W4) (s raw : List B) : LFn Pr 3 [.u8 which, .u64 n, k.v, v.v, .str s, .str raw] [] (.ret (.bool true)) [] := by
  refine fnR (r := (.ret (.bool true), [])) (fn := Go.Proofs.Tryd.f3) (by kernel_rfl) (by kernel_rfl) (by kernel_rfl) ?_
  show Runs Pr (Go.Proofs.Tryd.f3).ntmps 0 bkB [(0,.u8 which),(1,.u64 n),(2,k.v),(3,v.v),(4,.str s),(5,.str raw)] [] (FinR (Go.Proofs.Tryd.f3).ntmps 0 bkE (.ret (.bool true), []))
  refine Runs.cutF (L := noLoopsT) 2 OL2_sound mixed (by kernel_rfl) noLoops_all (by kernel_rfl) Loose.fin Carries.rfl (bk1_x which n k v s raw) ?_
  refine wp_chk_true.2 (wp_leaf.2 ⟨clo_nil, .inl ⟨_, _, rfl, ?_⟩⟩)
  refine Runs.cutF (L := noLoopsT) 0 OL2_sound mixed (by kernel_rfl) noLoops_all (by kernel_rfl) Loose.fin Carries.rfl (bk2_x which n k v s raw) ?_
  refine wp_chk.2 ⟨?_, wp_leaf.2 ⟨clo_nil, .inl ⟨_, _, rfl, ?_⟩⟩⟩
  · simp only [Option.getD_some, Bool.and_true, Bool.and_eq_true, decide_eq_true_eq]
    split <;> omega
  generalize hbk : BK.mk n k v (sT s) = b
  have hbs : b.s.length ≤ 200 := by rw [← hbk]; exact sT_len s
  have hm : which.toNat % 6 < 6 := Nat.mod_lt _ (by decide)
  have hl := bk_load which raw b _ hm
  rw [← wh6] at hl
  have e : dropSeq 0 (dropSeq 2 bkB) = dropSeq 3 bkB := by kernel_rfl
  rw [e]
  refine Runs.two 6 OL2_sound mixed (by kernel_rfl) (by kernel_rfl) (Tr.is_pr (bk3_x which raw b)) (.inl ⟨rfl, rfl⟩) hl ?_
  obtain ⟨c1, c2, c3⟩ := bk_ok b hbs _ hm
  refine Runs.wkH (h2 := [.vals (b.g (which.toNat % 6)).cs]) (.cons (.vals (csA_wk (bk_an0 b _ hm))) .nil) ?_
  generalize b.g (which.toNat % 6) = c at c1 c2 c3
  have e : tailC (dropSeq 3 bkB) = dropSeq 4 bkB := by kernel_rfl
  rw [e]
  refine Runs.cutF (L := noLoopsT) 0 OL2_sound mixed (by kernel_rfl) noLoops_all (by kernel_rfl) Loose.fin Carries.rfl (bk5_x c raw) ?_
  refine wp_chk.2 ⟨eeB_t c1, wp_br.2 ⟨fun _ => wp_chk_true.2 (wp_leaf.2 ⟨clo_nil, .inl ⟨_, _, rfl, ?_⟩⟩), fun e => by rw [c2] at e; cases e⟩⟩
  have e : dropSeq 0 (dropSeq 4 bkB) = dropSeq 5 bkB := by kernel_rfl
  rw [e]
  refine Runs.cutF (L := noLoopsT) 0 OL2_sound mixed (by kernel_rfl) noLoops_all (by kernel_rfl) Loose.fin Carries.rfl (bk6_x c (eeS c) raw) ?_
  refine wp_chk_true.2 (wp_br.2 ⟨fun _ => wp_chk_true.2 (wp_leaf.2 ⟨clo_nil, .inl ⟨_, _, rfl, ?_⟩⟩), fun e => by rw [ddO_t c3] at e; cases e⟩)
  rw [ddC_eq c3]
  have e : dropSeq 0 (dropSeq 5 bkB) = dropSeq 6 bkB := by kernel_rfl
  rw [e]
  have last : ∀ (got fine : Bool) (t : List B), got = fine → (got = true → t = raw) → Runs Pr (Go.Proofs.Tryd.f3).ntmps 0 (dropSeq 8 bkB) [(5,.str raw),(13,.bool true),(15,.ptr 0 0),(17,.bool true),(18,.ptr 1 0),(19,.bool true),(21,.bool got),(22,.str t),(23,.bool fine)] [.vals c.cs,.vals c.cs] (FinR (Go.Proofs.Tryd.f3).ntmps 0 bkE (.ret (.bool true), [])) := by
    intro got fine t hg ht
    refine Runs.lastF (L := noLoopsT) OL2_sound mixed noLoops_all (by kernel_rfl) Loose.fin Carries.rfl (bk9_x c got fine t raw) ?_
    have b1 : ∀ x : List B, (x == x) = true := fun x => by simp
    have b2 : (c.n == c.n) = true := by simp
    have b3 : (got == fine) = true := by rw [hg]; simp
    rw [b1, b1, b1, b2, beq_self4, beq_self4, b3]
    refine wp_chk_true.2 (wp_br.2 ⟨fun _ => wp_chk_true.2 (wp_br.2 ⟨fun _ => wp_chk_true.2 (wp_br.2 ⟨fun _ => wp_chk_true.2 (wp_br.2 ⟨fun _ => wp_chk_true.2 (wp_br.2 ⟨fun _ => wp_chk_true.2 (wp_br.2 ⟨fun _ => wp_chk_true.2 (wp_br.2 ⟨fun _ => wp_chk_true.2 (wp_br.2 ⟨fun _ => wp_chk_true.2 (wp_leaf.2 ⟨trivial, .inr (.inr rfl)⟩), fun e => wp_chk_true.2 (wp_leaf.2 ⟨trivial, .inr (.inr ?_)⟩)⟩), fun e => by cases e⟩), fun e => by cases e⟩), fun e => by cases e⟩), fun e => by cases e⟩), fun e => by cases e⟩), fun e => by cases e⟩), fun e => by cases e⟩)
    have : got = true := by cases got with | true => rfl | false => cases e
    rw [ht this, b1]
  have enc : ∀ (x : CM) (got : Bool), okC x → (got = true → eeO x = true ∧ eeS x = raw) → (got = false → eeO x = false) → Runs Pr (Go.Proofs.Tryd.f3).ntmps 0 (dropSeq 7 bkB) [(5,.str raw),(13,.bool true),(15,.ptr 0 0),(17,.bool true),(18,.ptr 1 0),(19,.bool true),(20,.ptr 2 0),(21,.bool got)] [.vals c.cs,.vals c.cs,.vals x.cs] (FinR (Go.Proofs.Tryd.f3).ntmps 0 bkE (.ret (.bool true), [])) := by
    intro x got hk h1 h2
    refine Runs.cutF (L := noLoopsT) 0 OL2_sound mixed (by kernel_rfl) noLoops_all (by kernel_rfl) Loose.fin Carries.rfl (bk8_x c x got raw) ?_
    have e : dropSeq 0 (dropSeq 7 bkB) = dropSeq 8 bkB := by kernel_rfl
    rw [e]
    refine wp_chk.2 ⟨eeB_t hk, wp_br.2 ⟨fun e => wp_chk_true.2 (wp_leaf.2 ⟨clo_nil, .inl ⟨_, _, rfl, last _ _ _ ?_ (fun h => (h1 h).2)⟩⟩), fun e => wp_chk_true.2 (wp_leaf.2 ⟨clo_nil, .inl ⟨_, _, rfl, last _ _ _ ?_ (fun h => ?_)⟩⟩)⟩⟩
    · cases got with
      | true => rfl
      | false => rw [h2 rfl] at e; cases e
    · cases got with
      | true => rw [(h1 rfl).1] at e; cases e
      | false => rfl
    · rw [(h1 h).1] at e; cases e
  refine Runs.cutF (L := noLoopsT) 0 OL2_sound mixed (by kernel_rfl) noLoops_all (by kernel_rfl) Loose.fin Carries.rfl (bk7_x c raw) ?_
  have e : dropSeq 0 (dropSeq 6 bkB) = dropSeq 7 bkB := by kernel_rfl
  rw [e]
  refine wp_chk_true.2 (wp_br.2 ⟨fun h => wp_chk_true.2 (wp_leaf.2 ⟨clo_nil, .inl ⟨_, _, rfl, ?_⟩⟩), fun h => wp_chk_true.2 (wp_leaf.2 ⟨clo_nil, .inl ⟨_, _, rfl, ?_⟩⟩)⟩)
  · obtain ⟨x, hx⟩ : ∃ x, dcC raw = some x := @of_decide_eq_true _ (Classical.propDecidable _) h
    obtain ⟨x1, x2, x3⟩ := dcC_back hx
    rw [ddC_eq hx]
    exact enc x true x1 (fun _ => ⟨x2, x3⟩) (fun e => by cases e)
  · refine enc (CM0 noT) false ⟨by show (0 : Nat) + 0 + 0 ≤ 9223372036854775807; decide, Nat.zero_le _⟩ (fun e => by cases e) (fun _ => ?_)
    cases hx : eeO (CM0 noT) with
    | false => rfl
    | true => exact absurd (eeO_iff.1 hx).1 (by decide)
end
end Go.Proofs.YtbgiickegljpoaaDoor.K
end
