/- The functions that this law reaches: what each comes to. -/
import Derived.Test.YtnafebinaheclaaDoorCRReads1
set_option linter.unusedSimpArgs false
set_option linter.unusedVariables false
section
open Go Go.Lh
namespace Go.Proofs.YtnafebinaheclaaDoor.K
noncomputable section
set_option maxRecDepth 100000
theorem clo_of {ts rd cl : List Nat} {g : Heap} (n : Nat) (h : ((rd.take n).all fun i => !memN i cl) = true) (h2 : ∀ b, b ∈ g.drop n → closed b) : Tell.clo ⟨ts, rd, cl⟩ g := by
  intro k i b hk hm hb
  rcases Nat.lt_or_ge k n with hn | hn
  · have : i ∈ rd.take n := List.mem_of_getElem? (i := k) (by rw [List.getElem?_take, if_pos hn]; exact hk)
    have := List.all_eq_true.1 h i this
    rw [hm] at this; cases this
  · refine h2 b (List.mem_of_getElem? (i := k - n) ?_)
    rw [List.getElem?_drop, Nat.add_sub_cancel' hn]; exact hb
theorem closed_vals {cs : List V} (h : ∀ v, v ∈ cs → v.clo = true) : closed (.vals cs) := by intro cs' e; cases e; exact h
theorem closed_dead : closed .dead := by intro cs' e; cases e
theorem sd_a {d : Nat} (hd : SwOk d) (b : Bool) (s : List B) (m : Nat) (g : Nat → Nat → V) (hok : dpOkB d (.agg [.bool b, .str s, .isl 3 m g]) = true) :
    LFn Pr 31 [.agg [.bool b, .str s, .isl 3 m g], .ptr 0 0] [.vals [.nilSl]] (.ret (.tup [])) [.vals [.sl 1 0 1 1 none], .vals [.str (shwV (.agg [.bool b, .str s, .isl 3 m g]))]] := by
  refine EndsIn.done (fn := Go.Proofs.Tryd.f31) (by kernel_rfl) (by kernel_rfl) (by kernel_rfl) ?_
  refine EndsIn.lastE (L := noLoopsT) (OS_sound hd) mixed noLoops_all (by kernel_rfl) (sd0_x d m b s g) ?_
  rw [hok]
  refine wp_chk_true.2 (wp_leaf.2 ⟨clo_of 1 (by kernel_rfl) ?_, .inl ⟨_, _, rfl, EndX.told (by kernel_rfl)⟩⟩)
  intro x hx
  simp only [List.drop_succ_cons, List.drop_zero, List.mem_singleton] at hx
  subst hx
  refine closed_vals fun v hv => ?_
  rw [List.mem_singleton] at hv
  subst hv; rfl
theorem sd_b {d : Nat} (hd : SwOk d) (b : Bool) (s : List B) (m : Nat) (g : Nat → Nat → V) (hok : dpOkB d (.agg [.bool b, .str s, .isl 3 m g]) = true) (k : Nat) (cs : List V) (hl : cs.length = k + 1) (hk : k < 2 ^ 41) (hcs : ∀ v, v ∈ cs → v.clo = true) :
    LFn Pr 31 [.agg [.bool b, .str s, .isl 3 m g], .ptr 0 0] [.vals [.sl 1 0 1 (k + 1) none], .vals cs] (.ret (.tup [])) [.vals [.sl 2 0 1 (k + 2) none], .dead, .vals (cs ++ [.str (shwV (.agg [.bool b, .str s, .isl 3 m g]))])] := by
  refine EndsIn.done (fn := Go.Proofs.Tryd.f31) (by kernel_rfl) (by kernel_rfl) (by kernel_rfl) ?_
  cases cs with
  | nil => cases hl
  | cons c r =>
    have et : List.take ((k + 1) * 1) (c :: r) = c :: r := by rw [Nat.mul_one, ← hl, List.take_length]
    have hx := sd1_x d m k b s g c r
    rw [et] at hx
    refine EndsIn.lastE (L := noLoopsT) (OS_sound hd) mixed noLoops_all (by kernel_rfl) hx ?_
    rw [hok, hl]
    refine wp_chk.2 ⟨?_, wp_leaf.2 ⟨clo_of 1 (by kernel_rfl) ?_, .inl ⟨_, _, rfl, EndX.told (by kernel_rfl)⟩⟩⟩
    · have e1 : ∀ x, (List.take 1 (setCells (List.replicate 1 [V.str (bytesOf (ByteArray.mk #[]))]).flatten 0 [V.str x])).all V.one = true := fun x => rfl
      rw [e1]
      have : (2 : Nat) ^ 41 = 2199023255552 := by decide
      simp only [Bool.and_eq_true, Bool.and_true, Bool.true_and, decide_eq_true_eq]; omega
    · intro x hx
      simp only [List.drop_succ_cons, List.drop_zero, List.mem_cons, List.not_mem_nil, or_false] at hx
      rcases hx with rfl | rfl
      · exact closed_dead
      · refine closed_vals fun v hv => ?_
        rcases List.mem_append.1 hv with hv | hv
        · exact hcs v hv
        · rw [List.mem_singleton] at hv
          subst hv; rfl
/-- the texts of the first items -/
def strR (q : RW) : Nat → List V
  | 0 => []
  | k + 1 => strR q k ++ [.str (shwV (q.at k))]
theorem strR_len (q : RW) : ∀ k, (strR q k).length = k
  | 0 => rfl
  | k + 1 => by rw [strR, List.length_append, strR_len q k]; rfl
theorem strR_clo (q : RW) : ∀ k v, v ∈ strR q k → v.clo = true
  | k + 1, v, h => by
    rw [strR] at h
    rcases List.mem_append.1 h with h | h
    · exact strR_clo q k v h
    · rw [List.mem_singleton] at h; subst h; rfl
def ev_H (q : RW) : Nat → Heap
  | 0 => [.vals [.nilSl]]
  | k + 1 => [.vals [.sl 1 0 1 (k + 1) none], .vals (strR q (k + 1))]
theorem tell_told {N n0 : Nat} {rd cl ts : List Nat} {fr f2 : Fr} {h h2 : Heap} (ht : tellC n0 rd cl ts fr h = some (f2, h2)) (hc : Tell.clo ⟨ts, rd, cl⟩ h2) : Weaker N n0 fr h f2 h2 := tellC_weaker ht hc
theorem tree_is {α : Type} {sh : Tr.Sh} {t : Tr α} {f : Bool} {r : α} (h : Tr.prune sh t = .chk f (.leaf r)) (hf : f = true) : t.is r := Tr.prune_is (by rw [h]; exact Tr.is_chk.2 ⟨hf, Tr.is_leaf.2 rfl⟩)
theorem tree_isT {α : Type} {sh : Tr.Sh} {t : Tr α} {f b : Bool} {r r2 : α} (h : Tr.prune sh t = .chk f (.br b (.leaf r) (.leaf r2))) (hf : f = true) (hb : b = true) : t.is r := Tr.prune_is (by rw [h]; exact Tr.is_chk.2 ⟨hf, Tr.is_br.2 (by rw [if_pos hb]; exact Tr.is_leaf.2 rfl)⟩)
theorem tree_isF {α : Type} {sh : Tr.Sh} {t : Tr α} {f b : Bool} {r r2 : α} (h : Tr.prune sh t = .chk f (.br b (.leaf r) (.leaf r2))) (hf : f = true) (hb : b = false) : t.is r2 := Tr.prune_is (by rw [h]; exact Tr.is_chk.2 ⟨hf, Tr.is_br.2 (by rw [if_neg (by rw [hb]; decide)]; exact Tr.is_leaf.2 rfl)⟩)
theorem eR3_eq : eR3 = .region 3 (regOps eR3) false := by kernel_rfl
theorem eC2_eq : dropSeq 1 eC = .seq (.block 1 (.seq eR2 eR3)) eR4 := by kernel_rfl
theorem ev_round {d : Nat} (hd : SwOk d) (n : Nat) (q : RW) (hn : n ≤ most40) (hq : ∀ i, i < n → dpOk d (q.at i)) (k : Nat) (hk : k ≤ n) :
    Runs Pr (Go.Proofs.Tryd.f30).ntmps 1 eC (eFr k n q) (ev_H q k) fun y f g => (y = .normal ∧ k < n ∧ Weaker (Go.Proofs.Tryd.f30).ntmps 1 f g (eFr (k + 1) n q) (ev_H q (k + 1))) ∨ (y = .exit 0 ∧ k = n ∧ EndX Pr Go.Proofs.Tryd.f30 1 (.ret (.tup [])) (ev_H q n) .normal f g) := by
  rw [m40] at hn
  have hdC : dstsIn (Go.Proofs.Tryd.f30).ntmps eC = true := by kernel_rfl
  have hd2 : dstsIn (Go.Proofs.Tryd.f30).ntmps eR2 = true := by kernel_rfl
  have hd3 : dstsIn (Go.Proofs.Tryd.f30).ntmps (.region 3 (regOps eR3) false) = true := by kernel_rfl
  have hd4 : dstsIn (Go.Proofs.Tryd.f30).ntmps eR4 = true := by kernel_rfl
  have hw1 : wrapI .i64 ((k : Int) + 1) = ((k + 1 : Nat) : Int) := by rw [show (k : Int) + 1 = ((k + 1 : Nat) : Int) by omega, wrapI_nat (by omega)]
  have hen : Go.Lh.Enters Pr 31 := Enters.of (fn := Go.Proofs.Tryd.f31) (by kernel_rfl) (by kernel_rfl)
  cases k with
  | zero =>
    have hH : ev_H q 0 = [.vals [.nilSl]] := rfl
    rw [hH]
    by_cases h0 : 0 < n
    · have t1 : (execBY Pr O25 noLoopsT 100 (takeSeq 1 eC) (eFr 0 n q) [.vals [.nilSl]]).is (X.normal, eFr 0 n q ++ [(9, .bool true)], [.vals [.nilSl]]) :=
        tree_isT (ee1a_x 0 n q (.vals [.nilSl])) rfl (decide_eq_true (by omega))
      refine cutY_runs (T := O25) (L := noLoopsT) (fn := Go.Proofs.Tryd.f30) O25_sound mixed (k := 1) (by kernel_rfl) noLoops_all hdC t1 (fun _ => ?_) (fun e => absurd rfl e)
      rw [eC2_eq]
      refine Runs.seq (Runs.block (Runs.seq ?_))
      have t2 := tree_is (ee2a_x 0 n q (.vals [.nilSl])) (by simp only [Bool.and_eq_true, Bool.and_true, decide_eq_true_eq]; omega)
      refine (execBY_sound (n0 := 1) O25_sound mixed eR2 noLoops_all _ _ _ _ _ hd2 t2).mono ?_
      rintro y f g ⟨rfl, hw⟩
      refine Runs.weaken (hw.trans (tell_told (rd := [0, 1]) (cl := []) (ts := [1, 6, 7, 8, 5]) (f2 := eFr 0 n q ++ [(5, .ptr 1 0)]) (h2 := [.vals [.nilSl], .vals [.bool (q.b 0), .str (q.s 0), .isl 3 (q.m 0) (q.g 0)]]) (by kernel_rfl) clo_nil)) ?_
      have t3 := tree_is (ee3a_x 0 n (q.m 0) q (.vals [.nilSl]) (q.b 0) (q.s 0) (q.g 0)) rfl
      rw [eR3_eq]
      refine (region_call (k := 2) (fr2 := eFr 0 n q ++ [(12, .fn 31 [] [.ptr 0 0]), (13, .agg [.bool (q.b 0), .str (q.s 0), .isl 3 (q.m 0) (q.g 0)])]) (h2 := [.vals [.nilSl]]) O25_sound mixed (by kernel_rfl) hd3 t3 (tell_told (rd := [0]) (cl := []) (ts := [1, 6, 7, 8, 12, 13]) (by kernel_rfl) clo_nil) rfl rfl rfl rfl hen (sd_a hd (q.b 0) (q.s 0) (q.m 0) (q.g 0) (@decide_eq_true _ (Classical.propDecidable _) (hq 0 h0)))).mono ?_
      rintro y f g ⟨rfl, hw⟩
      have hclo : ∀ v, v ∈ [V.str (shwV (q.at 0))] → v.clo = true := by intro v hv; rw [List.mem_singleton] at hv; subst hv; rfl
      refine Runs.weaken (hw.trans (tell_told (rd := [0, 1]) (cl := [1]) (ts := [1, 6, 7, 8]) (f2 := eFr 0 n q) (h2 := [.vals [.sl 1 0 1 1 none], .vals [.str (shwV (q.at 0))]]) (by kernel_rfl) (clo_of 1 (by kernel_rfl) (by
        intro x hx
        simp only [List.drop_succ_cons, List.drop_zero, List.mem_singleton] at hx
        subst hx
        exact closed_vals hclo)))) ?_
      have t4 := tree_is (ee4a_x 0 n q (.vals [.sl 1 0 1 1 none]) (.vals [.str (shwV (q.at 0))])) rfl
      refine (execBY_sound (n0 := 1) O25_sound mixed eR4 noLoops_all _ _ _ _ _ hd4 t4).mono ?_
      rintro y f g ⟨rfl, hw⟩
      refine .inl ⟨rfl, h0, hw.trans (tell_told (rd := [0, 1]) (cl := [1]) (ts := [1, 6, 7, 8]) ?_ (clo_of 1 (by kernel_rfl) (by
        intro x hx
        simp only [ev_H, List.drop_succ_cons, List.drop_zero, List.mem_singleton] at hx
        subst hx
        exact closed_vals (strR_clo q _))))⟩
      rw [hw1]
      rfl
    · have e0 : n = 0 := by omega
      subst e0
      have t1 : (execBY Pr O25 noLoopsT 100 (takeSeq 1 eC) (eFr 0 0 q) [.vals [.nilSl]]).is (X.exit 0, eFr 0 0 q ++ [(9, .bool false)], [.vals [.nilSl]]) :=
        tree_isF (ee1a_x 0 0 q (.vals [.nilSl])) rfl (decide_eq_false (by omega))
      refine cutY_runs (T := O25) (L := noLoopsT) (fn := Go.Proofs.Tryd.f30) O25_sound mixed (k := 1) (by kernel_rfl) noLoops_all hdC t1 (fun e => by cases e) ?_
      rintro _ y f g ⟨rfl, hw⟩
      exact .inr ⟨rfl, rfl, EndX.weaker (hw.trans (tell_told (rd := [0]) (cl := []) (ts := []) (f2 := []) (h2 := [.vals [.nilSl]]) (by kernel_rfl) clo_nil)) (EndX.told (by kernel_rfl))⟩
  | succ k =>
    have hH : ev_H q (k + 1) = [.vals [.sl 1 0 1 (k + 1) none], .vals (strR q (k + 1))] := rfl
    have hcl := strR_clo q (k + 1)
    have hll := strR_len q (k + 1)
    have h41 : k < 2 ^ 41 := by have : (2 : Nat) ^ 41 = 2199023255552 := by decide
                                omega
    have hcl2 : ∀ v, v ∈ strR q (k + 1 + 1) → v.clo = true := strR_clo q (k + 1 + 1)
    have hs2 : strR q (k + 1 + 1) = strR q (k + 1) ++ [.str (shwV (q.at (k + 1)))] := rfl
    rw [hH]
    generalize hS : strR q (k + 1) = cs at hcl hll hs2
    by_cases h0 : k + 1 < n
    · have t1 : (execBY Pr O25 noLoopsT 100 (takeSeq 1 eC) (eFr (k + 1) n q) [.vals [.sl 1 0 1 (k + 1) none], .vals cs]).is (X.normal, eFr (k + 1) n q ++ [(9, .bool true)], [.vals [.sl 1 0 1 (k + 1) none], .vals cs]) :=
        tree_isT (ee1b_x (k + 1) n q (.vals [.sl 1 0 1 (k + 1) none]) (.vals cs)) rfl (decide_eq_true (by omega))
      refine cutY_runs (T := O25) (L := noLoopsT) (fn := Go.Proofs.Tryd.f30) O25_sound mixed (k := 1) (by kernel_rfl) noLoops_all hdC t1 (fun _ => ?_) (fun e => absurd rfl e)
      rw [eC2_eq]
      refine Runs.seq (Runs.block (Runs.seq ?_))
      have t2 := tree_is (ee2b_x (k + 1) n q (.vals [.sl 1 0 1 (k + 1) none]) (.vals cs)) (by simp only [Bool.and_eq_true, Bool.and_true, decide_eq_true_eq]; omega)
      refine (execBY_sound (n0 := 1) O25_sound mixed eR2 noLoops_all _ _ _ _ _ hd2 t2).mono ?_
      rintro y f g ⟨rfl, hw⟩
      have c1 : ∀ {g0 : Blk} {ts : List Nat}, Tell.clo ⟨ts, [0, 1, 2], [1]⟩ [g0, .vals cs, .vals [.bool (q.b (k + 1)), .str (q.s (k + 1)), .isl 3 (q.m (k + 1)) (q.g (k + 1))]] := by
        intro g0 ts
        refine clo_of 1 (by kernel_rfl) ?_
        intro x hx
        simp only [List.drop_succ_cons, List.drop_zero, List.mem_cons, List.not_mem_nil, or_false] at hx
        rcases hx with rfl | rfl
        · exact closed_vals hcl
        · refine closed_vals ?_
          intro v hv
          simp only [List.mem_cons, List.not_mem_nil, or_false] at hv
          rcases hv with rfl | rfl | rfl <;> rfl
      have c2 : ∀ {g0 : Blk} {ts : List Nat} {c3 : List V}, (∀ v, v ∈ c3 → v.clo = true) → Tell.clo ⟨ts, [0, 1], [1]⟩ [g0, .vals c3] := by
        intro g0 ts c3 h3
        refine clo_of 1 (by kernel_rfl) ?_
        intro x hx
        simp only [List.drop_succ_cons, List.drop_zero, List.mem_singleton] at hx
        subst hx
        exact closed_vals h3
      have c3 : ∀ {g0 : Blk} {ts : List Nat} {c3 : List V}, (∀ v, v ∈ c3 → v.clo = true) → Tell.clo ⟨ts, [0, 2], [2]⟩ [g0, .vals c3] := by
        intro g0 ts c3 h3
        refine clo_of 1 (by kernel_rfl) ?_
        intro x hx
        simp only [List.drop_succ_cons, List.drop_zero, List.mem_singleton] at hx
        subst hx
        exact closed_vals h3
      refine Runs.weaken (hw.trans (tell_told (rd := [0, 1, 2]) (cl := [1]) (ts := [1, 6, 7, 8, 5]) (f2 := eFr (k + 1) n q ++ [(5, .ptr 2 0)]) (h2 := [.vals [.sl 1 0 1 (k + 1) none], .vals cs, .vals [.bool (q.b (k + 1)), .str (q.s (k + 1)), .isl 3 (q.m (k + 1)) (q.g (k + 1))]]) (by kernel_rfl) c1)) ?_
      have t3 := tree_is (ee3b_x (k + 1) n (q.m (k + 1)) q (.vals [.sl 1 0 1 (k + 1) none]) (.vals cs) (q.b (k + 1)) (q.s (k + 1)) (q.g (k + 1))) rfl
      rw [eR3_eq]
      refine (region_call (k := 2) (fr2 := eFr (k + 1) n q ++ [(12, .fn 31 [] [.ptr 0 0]), (13, .agg [.bool (q.b (k + 1)), .str (q.s (k + 1)), .isl 3 (q.m (k + 1)) (q.g (k + 1))])]) (h2 := [.vals [.sl 1 0 1 (k + 1) none], .vals cs]) O25_sound mixed (by kernel_rfl) hd3 t3 (tell_told (rd := [0, 1]) (cl := [1]) (ts := [1, 6, 7, 8, 12, 13]) (by kernel_rfl) (c2 hcl)) rfl rfl rfl rfl hen (sd_b hd (q.b (k + 1)) (q.s (k + 1)) (q.m (k + 1)) (q.g (k + 1)) (@decide_eq_true _ (Classical.propDecidable _) (hq (k + 1) h0)) k cs hll h41 hcl)).mono ?_
      rintro y f g ⟨rfl, hw⟩
      rw [hs2] at hcl2
      refine Runs.weaken (hw.trans (tell_told (rd := [0, 2]) (cl := [2]) (ts := [1, 6, 7, 8]) (f2 := eFr (k + 1) n q) (h2 := [.vals [.sl 1 0 1 (k + 2) none], .vals (cs ++ [.str (shwV (q.at (k + 1)))])]) (by kernel_rfl) (c3 hcl2))) ?_
      have t4 := tree_is (ee4a_x (k + 1) n q (.vals [.sl 1 0 1 (k + 2) none]) (.vals (cs ++ [.str (shwV (q.at (k + 1)))]))) rfl
      refine (execBY_sound (n0 := 1) O25_sound mixed eR4 noLoops_all _ _ _ _ _ hd4 t4).mono ?_
      rintro y f g ⟨rfl, hw⟩
      have hH2 : ev_H q (k + 1 + 1) = [.vals [.sl 1 0 1 (k + 2) none], .vals (cs ++ [.str (shwV (q.at (k + 1)))])] := by rw [← hs2]; rfl
      rw [hH2]
      refine .inl ⟨rfl, h0, hw.trans (tell_told (rd := [0, 1]) (cl := [1]) (ts := [1, 6, 7, 8]) ?_ (c2 hcl2))⟩
      rw [hw1]
      rfl
    · have e0 : n = k + 1 := by omega
      subst e0
      have t1 : (execBY Pr O25 noLoopsT 100 (takeSeq 1 eC) (eFr (k + 1) (k + 1) q) [.vals [.sl 1 0 1 (k + 1) none], .vals cs]).is (X.exit 0, eFr (k + 1) (k + 1) q ++ [(9, .bool false)], [.vals [.sl 1 0 1 (k + 1) none], .vals cs]) :=
        tree_isF (ee1b_x (k + 1) (k + 1) q (.vals [.sl 1 0 1 (k + 1) none]) (.vals cs)) rfl (decide_eq_false (by omega))
      refine cutY_runs (T := O25) (L := noLoopsT) (fn := Go.Proofs.Tryd.f30) O25_sound mixed (k := 1) (by kernel_rfl) noLoops_all hdC t1 (fun e => by cases e) ?_
      rintro _ y f g ⟨rfl, hw⟩
      rw [hH, hS]
      refine .inr ⟨rfl, rfl, EndX.weaker (hw.trans (tell_told (rd := [0, 1]) (cl := [1]) (ts := []) (f2 := []) (h2 := [.vals [.sl 1 0 1 (k + 1) none], .vals cs]) (by kernel_rfl) ?_)) (EndX.told (by kernel_rfl))⟩
      refine clo_of 1 (by kernel_rfl) ?_
      intro x hx
      simp only [List.drop_succ_cons, List.drop_zero, List.mem_singleton] at hx
      subst hx
      exact closed_vals hcl
end
end Go.Proofs.YtnafebinaheclaaDoor.K
end
section
open Go Go.Lh
namespace Go.Proofs.YtnafebinaheclaaDoor.K
noncomputable section
set_option maxRecDepth 100000
def sC11 : Code := dropSeq 3 (bodyOf Go.Proofs.Tryd.f17)
def sR11 : Code := headC sC11
def sC12 : Code := tailC sC11
theorem eva_x (n : Nat) (q : RW) : Tr.prune (Tr.Sh.any)
  (execBYE Pr O25 noLoopsT (100 : Nat) Go.Proofs.Tryd.f30 (1 : Nat)
  (Tell.mk [(1 : Nat), (6 : Nat), (7 : Nat), (8 : Nat)] [(0 : Nat)] []) (Tell.mk [] [(0 : Nat)] [])
  (takeSeq (0 : Nat) (bodyOf Go.Proofs.Tryd.f30))
  [((0 : Nat), V.isl (3 : Nat) n (rwF q)), ((1 : Nat), V.fn (31 : FuncId) [] [V.ptr (0 : Nat) (0 : Nat)])]
  [Blk.vals [V.nilSl]]) =
  Tr.chk true
  (Tr.leaf
    (Sum.inr
      (X.normal,
        [((1 : Nat), V.fn (31 : Nat) [] [V.ptr (0 : Nat) (0 : Nat)]), ((6 : Nat), V.isl (3 : Nat) n (rwF q)),
          ((7 : Nat), V.int IntKind.i64 (↑n : Int)), ((8 : Nat), V.int IntKind.i64 (0 : Int))],
        [Blk.vals [V.nilSl]]))) := by kernel_rfl
theorem swa_x (n : Nat) (F : Nat → Nat → V) : Tr.prune (Tr.Sh.any.r)
  (execBYE Pr O25 noLoopsT (100 : Nat) Go.Proofs.Tryd.f17 (0 : Nat)
  (Tell.mk [(1 : Nat), (6 : Nat)] [(0 : Nat), (2 : Nat)] []) (Tell.mk [] [] [])
  (takeSeq (3 : Nat) (bodyOf Go.Proofs.Tryd.f17)) [((0 : Nat), V.agg [V.bool true, V.str [], V.isl (3 : Nat) n F])] []) =
  Tr.chk true
  (Tr.leaf
    (Sum.inr
      (X.normal, [((1 : Nat), V.ptr (0 : Nat) (0 : Nat)), ((6 : Nat), V.ptr (1 : Nat) (0 : Nat))],
        [Blk.vals [V.bool true, V.str [], V.isl (3 : Nat) n F], Blk.vals [V.nilSl]]))) := by kernel_rfl
theorem swb_x (n : Nat) (F : Nat → Nat → V) : Tr.prune (Tr.Sh.any)
  (execB Pr O25 noLoopsT (100 : Nat)
  (Code.region (11 : Nat) (Array.mk (List.take (3 : Nat) (regOps sR11).toList)) false)
  [((1 : Nat), V.ptr (0 : Nat) (0 : Nat)), ((6 : Nat), V.ptr (1 : Nat) (0 : Nat))]
  [Blk.vals [V.bool true, V.str [], V.isl (3 : Nat) n F], Blk.vals [V.nilSl]]) =
  Tr.chk true
  (Tr.leaf
    (X.normal,
      [((1 : Nat), V.ptr (0 : Nat) (0 : Nat)), ((6 : Nat), V.ptr (1 : Nat) (0 : Nat)),
        ((30 : Nat), V.ptr (0 : Nat) (2 : Nat)), ((31 : Nat), V.isl (3 : Nat) n F),
        ((32 : Nat), V.fn (31 : Nat) [] [V.ptr (1 : Nat) (0 : Nat)])],
      [Blk.vals [V.bool true, V.str [], V.isl (3 : Nat) n F], Blk.vals [V.nilSl]])) := by kernel_rfl
theorem swc_x (n : Nat) (cs : List V) : Tr.prune (Tr.Sh.any)
  (execB Pr O25 noLoopsT (100 : Nat) (partA (1 : Nat) sC12) [((6 : Nat), V.ptr (0 : Nat) (0 : Nat))]
  [Blk.vals [V.sl (1 : Nat) (0 : Nat) (1 : Nat) n none], Blk.vals cs]) =
  Tr.chk true
  (Tr.leaf
    (X.normal, [((6 : Nat), V.ptr (0 : Nat) (0 : Nat)), ((34 : Nat), V.sl (1 : Nat) (0 : Nat) (1 : Nat) n none)],
      [Blk.vals [V.sl (1 : Nat) (0 : Nat) (1 : Nat) n none], Blk.vals cs])) := by kernel_rfl
theorem swd_x (n : Nat) (F : Nat → Nat → V) : Tr.prune (Tr.Sh.any)
  (execBN Pr O25 noLoopsT (100 : Nat) (0 : Nat) [(2 : Nat)] [] (partB (1 : Nat) sC12)
  [((6 : Nat), V.ptr (0 : Nat) (0 : Nat)), ((34 : Nat), V.isl (1 : Nat) n F)]
  [Blk.vals [V.sl (1 : Nat) (0 : Nat) (1 : Nat) n none], Blk.dead]) =
  Tr.chk
  (jOkB n F (bytesOf (ByteArray.mk #[OfNat.ofNat (32 : Nat)])) &&
    (decide ((1 : Nat) + (jV n F).length ≤ (9223372036854775807 : Nat)) &&
      (decide
          ((bytesOf (ByteArray.mk #[OfNat.ofNat (91 : Nat)]) ++ jV n F).length + (1 : Nat) ≤
            (9223372036854775807 : Nat)) &&
        true)))
  (Tr.leaf
    (X.normal,
      [((2 : Nat),
          V.str
            (bytesOf (ByteArray.mk #[OfNat.ofNat (91 : Nat)]) ++ jV n F ++
              bytesOf (ByteArray.mk #[OfNat.ofNat (93 : Nat)])))],
      [])) := by kernel_rfl
theorem swe_x (t : List B) : Tr.prune (Tr.Sh.any)
  (execBR Pr O25 noLoopsT (100 : Nat) Go.Proofs.Tryd.f17 (0 : Nat) (tailC sC12) [((2 : Nat), V.str t)] []) =
  Tr.chk true (Tr.leaf (Fin.ret (V.str t), [])) := by kernel_rfl
theorem swz_x (n : Nat) : Tr.prune (Tr.Sh.any)
  (execBR Pr O25 noLoopsT (100 : Nat) Go.Proofs.Tryd.f17 (0 : Nat) sC12 [((6 : Nat), V.ptr (0 : Nat) (0 : Nat))]
  [Blk.vals [V.nilSl]]) =
  Tr.chk true
  (Tr.leaf
    (Fin.ret
        (V.str
          (bytesOf (ByteArray.mk #[OfNat.ofNat (91 : Nat)]) ++ [] ++ bytesOf (ByteArray.mk #[OfNat.ofNat (93 : Nat)]))),
      [])) := by kernel_rfl
end
end Go.Proofs.YtnafebinaheclaaDoor.K
end
section
open Go Go.Lh
namespace Go.Proofs.YtnafebinaheclaaDoor.K
noncomputable section
set_option maxRecDepth 100000
theorem each_fn {d : Nat} (hd : SwOk d) (n : Nat) (q : RW) (hn : n ≤ most40) (hq : ∀ i, i < n → dpOk d (q.at i)) : LFn Pr 30 [.isl 3 n (rwF q), .fn 31 [] [.ptr 0 0]] [.vals [.nilSl]] (.ret (.tup [])) (ev_H q n) := by
  refine EndsIn.done (fn := Go.Proofs.Tryd.f30) (by kernel_rfl) (by kernel_rfl) (by kernel_rfl) ?_
  refine EndsIn.cutY (L := noLoopsT) 0 O25_sound mixed (by kernel_rfl) noLoops_all (by kernel_rfl) (eva_x n q) ?_
  refine wp_chk_true.2 (wp_leaf.2 ⟨clo_nil, .inl ⟨_, _, rfl, ?_⟩⟩)
  have e : dropSeq 0 (bodyOf Go.Proofs.Tryd.f30) = .block 0 (.loop eC) := by kernel_rfl
  rw [e]
  refine EndsIn.loop0R (fun k => (eFr k n q, ev_H q k)) (fun k => n - k) (fun k => k ≤ n) ?_ (a0 := 0) (Nat.zero_le _)
  intro k hk
  refine (ev_round hd n q hn hq k hk).mono ?_
  rintro y f g (⟨rfl, hlt, hw⟩ | ⟨rfl, _, hE⟩)
  · exact .inl ⟨rfl, k + 1, hw, hlt, by omega⟩
  · exact .inr ⟨rfl, hE⟩
theorem shws_len : ∀ l : List It, (shws l).length = l.length
  | [] => by rw [shws]; rfl
  | x :: r => by rw [shws, List.length_cons, shws_len r]; rfl
theorem shws_get : ∀ (l : List It) (i : Nat) (hi : i < l.length), (shws l)[i]? = some (shw l[i])
  | x :: r, 0, _ => by rw [shws]; rfl
  | x :: r, i + 1, h => by rw [shws]; exact shws_get r i (by simpa using h)
theorem strR_at (q : RW) : ∀ (n i : Nat), i < n → (strR q n).getD i .any = .str (shwV (q.at i))
  | n + 1, i, hi => by
    rw [strR, List.getD_eq_getElem?_getD]
    rcases Nat.lt_or_ge i n with h | h
    · rw [List.getElem?_append_left (by rw [strR_len]; omega), ← List.getD_eq_getElem?_getD]
      exact strR_at q n i h
    · have : i = n := by omega
      subst this
      rw [List.getElem?_append_right (by rw [strR_len]; omega), strR_len, Nat.sub_self]; rfl
theorem frz_str (q : RW) (n i : Nat) (h : i < n) : frzC (strR q n) 0 1 i 0 = .str (shwV (q.at i)) := by
  unfold frzC
  rw [Nat.zero_add, Nat.mul_one, Nat.add_zero]
  exact strR_at q n i h
theorem xsOf_str (q : RW) (l : List It) (hq : ∀ i (hi : i < l.length), isIt (q.at i) l[i]) : xsOf l.length (frzC (strR q l.length) 0 1) = shws l := by
  refine List.ext_getElem? fun i => ?_
  unfold xsOf
  rw [List.getElem?_map]
  rcases Nat.lt_or_ge i l.length with h | h
  · rw [List.getElem?_range h, shws_get l i h, Option.map_some, frz_str q _ i h, shwV_eq (v := q.at i) (x := l[i]) (hq i h)]; rfl
  · rw [List.getElem?_eq_none (by simp; omega), List.getElem?_eq_none (by rw [shws_len]; omega)]; rfl
theorem joinB_len : ∀ l : List (List B), (joinB l).length ≤ (l.map fun x => x.length + 1).sum
  | [] => by rw [joinB_nil]; exact Nat.zero_le _
  | [x] => by rw [joinB_one]; simp
  | x :: y :: r => by
    have ih := joinB_len (y :: r)
    rw [joinB_two, List.length_append, List.length_cons, List.map_cons, List.sum_cons]; omega
mutual
theorem shw_len : ∀ x : It, (shw x).length + 1 ≤ 5 * (enc x).length
  | .txt s => by
    rw [shw, enc, List.length_append, List.length_cons, hexS_len, List.length_singleton]
    split
    · rename_i h; omega
    · rename_i h
      rw [List.length_append]; have := headO_len 128#8 s.length
      omega
  | .lst l => by
    have h1 := shws_sum l
    have h2 := joinB_len (shws l)
    rw [shw, enc, List.length_append, List.length_cons, List.length_singleton, List.length_append]
    have := headO_len 192#8 (encs l).length
    omega
theorem shws_sum : ∀ l : List It, ((shws l).map fun x => x.length + 1).sum ≤ 5 * (encs l).length
  | [] => by rw [shws]; exact Nat.zero_le _
  | x :: r => by
    have h1 := shw_len x
    have h2 := shws_sum r
    rw [shws, encs, List.map_cons, List.sum_cons, List.length_append]; omega
end
theorem show_lst {d : Nat} (hd : SwOk d) (q : RW) (l : List It) (hq : ∀ i (hi : i < l.length), isIt (q.at i) l[i]) (hdep : It.deps l < d) (hlen : (enc (.lst l)).length ≤ most40) : LFn Pr 17 [.agg [.bool true, .str [], .isl 3 l.length (rwF q)]] [] (.ret (.str (shw (.lst l)))) [] := by
  have hsl := shw_len (.lst l)
  have hll := encs_len l
  rw [enc, List.length_append] at hlen
  rw [m40] at hlen
  have hrow : ∀ i, i < l.length → dpOk d (q.at i) := fun i hi => ⟨l[i], hq i hi, by have := dep_le (List.getElem_mem hi); omega, by have := encs_ge (List.getElem_mem hi); rw [m40]; omega⟩
  refine EndsIn.done (fn := Go.Proofs.Tryd.f17) (by kernel_rfl) (by kernel_rfl) (by kernel_rfl) ?_
  refine EndsIn.cutY (L := noLoopsT) 3 O25_sound mixed (by kernel_rfl) noLoops_all (by kernel_rfl) (swa_x l.length (rwF q)) ?_
  refine wp_chk_true.2 (wp_leaf.2 ⟨clo_nil, .inl ⟨_, _, rfl, ?_⟩⟩)
  have e : dropSeq 3 (bodyOf Go.Proofs.Tryd.f17) = .seq (.region 11 (regOps sR11) false) sC12 := by kernel_rfl
  rw [e]
  refine Runs.seq ?_
  have t1 := tree_is (swb_x l.length (rwF q)) rfl
  have hcl := strR_clo q l.length
  have hen : Go.Lh.Enters Pr 30 := Enters.of (fn := Go.Proofs.Tryd.f30) (by kernel_rfl) (by kernel_rfl)
  refine (region_call (k := 3) (fr2 := [(6, .ptr 0 0), (31, .isl 3 l.length (rwF q)), (32, .fn 31 [] [.ptr 0 0])]) (h2 := [.vals [.nilSl]]) O25_sound mixed (by kernel_rfl) (by kernel_rfl) t1 (tell_told (rd := [1]) (cl := []) (ts := [6, 31, 32]) (by kernel_rfl) clo_nil) rfl rfl rfl rfl hen (each_fn hd l.length q (by rw [m40]; omega) hrow)).mono ?_
  rintro y f g ⟨rfl, hw⟩
  have o34 : bytesOf (ByteArray.mk #[OfNat.ofNat 91]) = [91#8] := rfl
  have o93 : bytesOf (ByteArray.mk #[OfNat.ofNat 93]) = [93#8] := rfl
  cases l with
  | nil =>
    have hH : ev_H q ([] : List It).length = [.vals [.nilSl]] := rfl
    rw [hH] at hw
    refine Runs.weaken (hw.trans (tell_told (rd := [0]) (cl := []) (ts := [6]) (f2 := [(6, .ptr 0 0)]) (h2 := [.vals [.nilSl]]) (by kernel_rfl) clo_nil)) ?_
    refine EndsIn.last (T := O25) O25_sound mixed noLoops_all (by kernel_rfl) (swz_x 0) (tr1 rfl ?_)
    rw [shw, shws, joinB_nil]; rfl
  | cons x r =>
    have hH : ev_H q (x :: r).length = [.vals [.sl 1 0 1 (x :: r).length none], .vals (strR q (x :: r).length)] := rfl
    have hX := xsOf_str q (x :: r) hq
    rw [hH] at hw
    have hS := shw_len (.lst (x :: r))
    rw [shw, List.length_append, List.length_cons, List.length_singleton] at hS
    rw [enc, List.length_append] at hS
    have hpos : 0 < (x :: r).length := by simp
    generalize hcs : strR q (x :: r).length = cs at hw hcl hX
    have hJ : jV (x :: r).length (frzC cs 0 1) = joinB (shws (x :: r)) := by rw [jV_eq, hX]
    have hJO : jOkB (x :: r).length (frzC cs 0 1) (bytesOf (ByteArray.mk #[OfNat.ofNat 32])) = true := by
      refine @decide_eq_true _ (Classical.propDecidable _) ⟨rfl, hpos, by rw [m40]; omega, fun i hi => ⟨_, by rw [← hcs]; exact frz_str q _ i hi⟩, ?_⟩
      rw [hX]
      have : (2 : Nat) ^ 47 = 140737488355328 := by decide
      omega
    have hE : Tr.prune _ _ = _ := swd_x (x :: r).length (frzC cs 0 1)
    rw [hJ, hJO, o34, o93] at hE
    have hsh : shw (.lst (x :: r)) = [91#8] ++ joinB (shws (x :: r)) ++ [93#8] := by rw [shw]; rfl
    rw [hsh]
    generalize (x :: r).length = n at hw hE hpos ⊢
    refine Runs.weaken (hw.trans (tell_told (rd := [0, 1]) (cl := [1]) (ts := [6]) (f2 := [(6, .ptr 0 0)]) (h2 := [.vals [.sl 1 0 1 n none], .vals cs]) (by kernel_rfl) (clo_of 1 (by kernel_rfl) ?_))) ?_
    · intro y hy
      simp only [List.drop_succ_cons, List.drop_zero, List.mem_singleton] at hy
      subst hy
      exact closed_vals hcl
    · refine EndsIn.two (T := O25) (fuel := 100) (on := [2]) (fr3 := [(2, .str ([91#8] ++ joinB (shws (x :: r)) ++ [93#8]))]) (h3 := []) 1 O25_sound mixed (by kernel_rfl) (by kernel_rfl)
        (tree_is (swc_x n cs) rfl) (.inr ⟨1, cs, rfl, hcl, rfl, rfl⟩) ?_ ?_
      · refine tree_is hE ?_
        simp only [Bool.and_eq_true, Bool.and_true, Bool.true_and, decide_eq_true_eq, List.length_append, List.length_singleton]; omega
      · exact EndsIn.last (T := O25) O25_sound mixed noLoops_all (by kernel_rfl) (swe_x _) (tr1 rfl rfl)
theorem sw_all : ∀ d, SwOk d
  | 0 => by
    refine ctT_ok (fun v => [v]) (fun _ => []) ?_ (fun v r h => ?_)
    · intro args h a e
      unfold en_read at e
      split at e <;> cases e <;> exact ⟨rfl, rfl⟩
    · rw [sw_f, Tr.is_chk] at h
      obtain ⟨x, _, hx, _⟩ := @of_decide_eq_true _ (Classical.propDecidable _) h.1
      exact absurd hx (Nat.not_lt_zero _)
  | d + 1 => by
    have hd := sw_all d
    refine ctT_ok (fun v => [v]) (fun _ => []) ?_ (fun v r h => ?_)
    · intro args h a e
      unfold en_read at e
      split at e <;> cases e <;> exact ⟨rfl, rfl⟩
    · rw [sw_f, Tr.is_chk, Tr.is_leaf] at h
      obtain ⟨h1, rfl⟩ := h
      obtain ⟨x, hx, hdep, hlen⟩ := @of_decide_eq_true _ (Classical.propDecidable _) h1
      rw [shwV_eq hx]
      refine LFn.wkArgs (args2 := [nrm v]) ?_ (fun I w ρ us h => nrm_one h)
      generalize nrm v = nv at hx ⊢
      cases hx with
      | txt s g =>
        have hs : s.length ≤ most40 := by
          rw [enc] at hlen
          split at hlen
          · exact hlen
          · rw [List.length_append] at hlen; omega
        have hl := hexS_len s
        have e : shw (.txt s) = [34#8] ++ hexS s ++ [34#8] := by rw [shw]; rfl
        refine fnT O25_sound mixed (by kernel_rfl) sh_Ls (sht_x s 0 g) ?_
        have hok : sh_ok (SA.mk s.length s (s.length : Int)) = true := @decide_eq_true _ (Classical.propDecidable _) ⟨rfl, rfl, hs⟩
        rw [hok, hexO_eq, List.take_length, e]
        rw [m40] at hs
        refine wp_chk_true.2 (wp_br.2 ⟨fun h => wp_chk_true.2 (wp_leaf.2 ?_), fun h => wp_chk.2 ⟨?_, wp_leaf.2 rfl⟩⟩)
        · have : s = [] := List.length_eq_zero_iff.1 (Nat.eq_of_beq_eq_true h)
          subst this; rfl
        · have hp : s.length ≠ 0 := fun e => by rw [e] at h; cases h
          have hl1 : (bytesOf (ByteArray.mk #[OfNat.ofNat 34]) ++ hexS s).length = 1 + (hexS s).length := by rw [List.length_append]; rfl
          rw [hl1]
          simp only [Bool.and_eq_true, Bool.and_true, Bool.true_and, decide_eq_true_eq]; omega
      | lst q l hq =>
        rw [It.dep] at hdep
        exact show_lst hd q l hq (by omega) hlen
end
end Go.Proofs.YtnafebinaheclaaDoor.K
end
section
open Go Go.Lh
namespace Go.Proofs.YtnafebinaheclaaDoor.K
noncomputable section
set_option maxRecDepth 100000
def decF (s : List B) : Option It := if s.length ≤ 65536 then (itF 65 s).bind fun p => if p.2 = [] then some p.1 else none else none
def dcO (s : List B) : Bool := @decide (∃ x, decF s = some x) (Classical.propDecidable _)
def dcI (s : List B) : It := @ite _ True (Classical.propDecidable True) ((decF s).getD (.txt [])) (.txt [])
def dcE (s : List B) : Int := @ite _ (s.length ≤ 65536) (Classical.propDecidable _) 2 3
theorem dcI_eq {s : List B} {x : It} (h : decF s = some x) : dcI s = x := by unfold dcI; rw [if_pos trivial, h]; rfl
def dc_read : List V → Heap → Option (List B) := fun a h => match a, h with
  | [.str s], [] => some s
  | _, _ => none
def dc_f (s : List B) : Tr (Fin × Heap) := .br (dcO s) (.leaf (.ret (.tup [itV (dcI s), .int .i64 0]), [])) (.leaf (.ret (.tup [.agg [.bool false, .str [], .nilSl], .int .i64 (dcE s)]), []))
theorem dc_ok : ∀ args h r, ((ctT dc_read dc_f) args h).is r → LFn Pr 21 args h r.1 r.2 := by
  refine ctT_ok (fun s => [.str s]) (fun _ => []) ?_ (fun s r h => ?_)
  · intro args h a e
    unfold dc_read at e
    split at e <;> cases e <;> exact ⟨rfl, rfl⟩
  · rw [dc_f, Tr.is_br] at h
    refine fnDG O22_sound mixed 1 (by kernel_rfl) (dec_x s) ?_
    have no : decF s = none → r = (.ret (.tup [.agg [.bool false, .str [], .nilSl], .int .i64 (dcE s)]), []) := by
      intro hn
      have : dcO s = false := @decide_eq_false _ (Classical.propDecidable _) (by rw [hn]; rintro ⟨x, hx⟩; cases hx)
      rw [if_neg (by rw [this]; decide), Tr.is_leaf] at h
      exact h.symm
    refine wp_chk_true.2 (wp_br.2 ⟨fun h1 => wp_chk_true.2 (wp_leaf.2 ?_), fun h1 => ?_⟩)
    · have h1 := of_decide_eq_true h1
      rw [no (by unfold decF; rw [if_neg (by omega)])]
      unfold dcE
      rw [if_neg (by omega)]; rfl
    · have h1 := of_decide_eq_false h1
      have hs : s.length ≤ 65536 := by omega
      have e2 : dcE s = 2 := by unfold dcE; rw [if_pos hs]
      have hP : rdPB 65 (0, s) = true := @decide_eq_true _ (Classical.propDecidable _) ⟨(rfl : (0 : Int) = 65 - ((65 : Nat) : Int)), Nat.le_refl _, by simp only; rw [m40]; omega⟩
      rw [hP]
      refine wp_chk_true.2 (wp_br.2 ⟨fun h2 => wp_chk_true.2 (wp_br.2 ⟨fun h3 => wp_chk_true.2 (wp_leaf.2 ?_), fun h3 => wp_chk_true.2 (wp_leaf.2 ?_)⟩), fun h2 => wp_chk_true.2 (wp_leaf.2 ?_)⟩)
      · obtain ⟨⟨x, q⟩, hp⟩ : ∃ p, itF 65 s = some p := @of_decide_eq_true _ (Classical.propDecidable _) h2
        rw [rdR_eq hp] at h3
        rw [no, e2]; · rfl
        have hne : q ≠ [] := by rintro rfl; cases h3
        unfold decF
        rw [if_pos hs, hp, Option.bind_some, if_neg hne]
      · obtain ⟨⟨x, q⟩, hp⟩ : ∃ p, itF 65 s = some p := @of_decide_eq_true _ (Classical.propDecidable _) h2
        rw [rdR_eq hp] at h3
        have hq : q = [] := by cases q with | nil => rfl | cons b q => cases h3
        have hd : decF s = some x := by unfold decF; rw [if_pos hs, hp, Option.bind_some, if_pos hq]
        have : dcO s = true := @decide_eq_true _ (Classical.propDecidable _) ⟨x, hd⟩
        rw [if_pos this, Tr.is_leaf, dcI_eq hd] at h
        rw [← h, rdI_eq hp]; rfl
      · have := @of_decide_eq_false _ (Classical.propDecidable _) h2
        have hn : itF 65 s = none := by
          cases h8 : itF 65 s with
          | none => rfl
          | some p => exact absurd ⟨p, h8⟩ this
        rw [no (by unfold decF; rw [if_pos hs, hn]; rfl), e2]; rfl
def so_f (v : V) : Tr (Fin × Heap) := .chk (okVB v) (.leaf (.ret (.str (shwV v)), []))
theorem so_ok : ∀ args h r, ((ctT en_read so_f) args h).is r → LFn Pr 17 args h r.1 r.2 := by
  refine ctT_ok (fun v => [v]) (fun _ => []) ?_ (fun v r h => ?_)
  · intro args h a e
    unfold en_read at e
    split at e <;> cases e <;> exact ⟨rfl, rfl⟩
  · rw [so_f, Tr.is_chk, Tr.is_leaf] at h
    obtain ⟨h1, rfl⟩ := h
    obtain ⟨⟨x, hx⟩, hl⟩ : okV v := @of_decide_eq_true _ (Classical.propDecidable _) h1
    rw [encV_eq hx] at hl
    refine sw_all (x.dep + 1) [v] [] (.ret (.str (shwV v)), []) ?_
    show (sw_f (x.dep + 1) v).is _
    rw [sw_f, Tr.is_chk, Tr.is_leaf]
    exact ⟨@decide_eq_true _ (Classical.propDecidable _) ⟨x, hx, Nat.lt_succ_self _, hl⟩, rfl⟩
def LiA.args (c : Nat → Option Nat) : LiA → List V
  | .l0 => [.nilSl]
  | .l1 .. => [.sl 0 0 3 1 (c 1)]
  | .l1n .. => [.sl 0 0 3 1 (c 1)]
  | .l2 .. => [.sl 0 0 3 2 (c 2)]
def LiA.heap : LiA → Heap
  | .l0 => []
  | .l1 b s m g => [.vals [.bool b, .str s, .isl 3 m g]]
  | .l1n b s => [.vals [.bool b, .str s, .nilSl]]
  | .l2 s t => [.vals [.bool false, .str s, .nilSl, .bool false, .str t, .nilSl]]
def lc_read : List V → Heap → Option LiA := fun a h => match a, h with
  | [.nilSl], [] => some .l0
  | [.sl 0 0 3 1 (some 1)], [.vals [.bool b, .str s, .isl 3 m g]] => some (.l1 b s m g)
  | [.sl 0 0 3 1 (some 1)], [.vals [.bool b, .str s, .nilSl]] => some (.l1n b s)
  | [.sl 0 0 3 2 (some 2)], [.vals [.bool false, .str s, .nilSl, .bool false, .str t, .nilSl]] => some (.l2 s t)
  | _, _ => none
theorem sl_cap {I : Nat → Prop} {w : World} {ρ : Ren} {i o s n c : Nat} {us : List Value} (h : VsRel I w ρ [.sl i o s n (some c)] us) : VsRel I w ρ [.sl i o s n none] us := by
  cases h with
  | cons _ _ u _ r h1 h =>
    refine .cons _ _ _ _ _ ?_ h
    cases h1 with
    | sl _ _ _ _ _ _ c2 l hh h1 h2 h3 => exact .sl _ _ _ _ _ _ c2 l hh h1 h2 (fun n e => by cases e)
    | slz _ _ _ _ _ y l hh h3 => exact .slz _ _ _ _ _ y l hh (fun n e => by cases e)
theorem lc_ok : ∀ args h r, ((ctT lc_read li_f) args h).is r → LFn Pr 24 args h r.1 r.2 := by
  refine ctT_ok (LiA.args some) LiA.heap ?_ (fun a r h => ?_)
  · intro args h a e
    unfold lc_read at e
    split at e <;> cases e <;> exact ⟨rfl, rfl⟩
  · have H : LFn Pr 24 (LiA.args (fun _ => none) a) a.heap r.1 r.2 := li_ok _ _ r (by cases a <;> exact h)
    cases a with
    | l0 => exact H
    | l1 b s m g => exact LFn.wkArgs H (fun I w ρ us h => sl_cap h)
    | l1n b s => exact LFn.wkArgs H (fun I w ρ us h => sl_cap h)
    | l2 s t => exact LFn.wkArgs H (fun I w ρ us h => sl_cap h)
def KX : KnownT := (21, ctT dc_read dc_f) :: (17, ctT en_read so_f) :: (15, ctT en_read en_f) :: (24, ctT lc_read li_f) :: KR5
theorem KX_ok : KOkT Pr KX := KOkT.cons (Enters.of (fn := Go.Proofs.Tryd.f21) (by kernel_rfl) (by kernel_rfl)) dc_ok (KOkT.cons (Enters.of (fn := Go.Proofs.Tryd.f17) (by kernel_rfl) (by kernel_rfl)) so_ok (KOkT.cons (Enters.of (fn := Go.Proofs.Tryd.f15) (by kernel_rfl) (by kernel_rfl)) en_ok (KOkT.cons (Enters.of (fn := Go.Proofs.Tryd.f24) (by kernel_rfl) (by kernel_rfl)) lc_ok KR5_ok)))
def OX : OrcT := autoT Pr ext KX [23,19] 3
theorem OX_sound : OrcSound Pr OX.o := autoT_sound mixed ext_ok KX_ok (by kernel_rfl) 3
end
end Go.Proofs.YtnafebinaheclaaDoor.K
end
section
open Go Go.Lh
namespace Go.Proofs.YtnafebinaheclaaDoor.K
noncomputable section
set_option maxRecDepth 100000
def catB : List B := bytesOf (ByteArray.mk #[99, 97, 116])
def dogB : List B := bytesOf (ByteArray.mk #[100, 111, 103])
def exS : List B := bytesOf (ByteArray.mk #[200, 131, 99, 97, 116, 131, 100, 111, 103])
def exT : List B := bytesOf (ByteArray.mk #[129, 5])
def exU : List B := bytesOf (ByteArray.mk #[91, 34, 54, 51, 54, 49, 55, 52, 34, 32, 34, 54, 52, 54, 102, 54, 55, 34, 93])
def exIt : It := .lst [.txt catB, .txt dogB]
def exQ : RW := It.rI [.txt catB, .txt dogB]
def dx_f (s : List B) : Tr (Fin × Heap) := if s = exS then .leaf (.ret (.tup [.agg [.bool true, .str [], .isl 3 2 (rwF exQ)], .int .i64 0]), []) else if s = exT then .leaf (.ret (.tup [.agg [.bool false, .str [], .nilSl], .int .i64 2]), []) else .no
theorem exS_dec : decF exS = some exIt := by
  have : itF 65 exS = some (exIt, []) := by kernel_rfl
  unfold decF
  rw [if_pos (by decide), this, Option.bind_some, if_pos rfl]
theorem exT_dec : decF exT = none := by
  have : itF 65 exT = none := by kernel_rfl
  unfold decF
  rw [if_pos (by decide), this]; rfl
theorem dx_ok : ∀ args h r, ((ctT dc_read dx_f) args h).is r → LFn Pr 21 args h r.1 r.2 := by
  intro args h r hr
  refine dc_ok args h r ?_
  unfold ctT at hr ⊢
  split at hr
  · rename_i s hs
    rw [dx_f] at hr
    rw [dc_f, Tr.is_br]
    split at hr
    · rename_i e
      subst e
      have : dcO exS = true := @decide_eq_true _ (Classical.propDecidable _) ⟨_, exS_dec⟩
      rw [if_pos this, dcI_eq exS_dec]
      have e : itV exIt = .agg [.bool true, .str [], .isl 3 2 (rwF exQ)] := itV_lst _
      rw [e]; exact hr
    · split at hr
      · rename_i e
        subst e
        have : dcO exT = false := @decide_eq_false _ (Classical.propDecidable _) (by rw [exT_dec]; rintro ⟨x, hx⟩; cases hx)
        rw [if_neg (by rw [this]; decide)]
        have e : dcE exT = 2 := by unfold dcE; rw [if_pos (by decide)]
        rw [e]; exact hr
      · exact (Tr.is_no.1 hr).elim
  · exact hr
def OXe : OrcT := autoT Pr ext ((21, ctT dc_read dx_f) :: KR5) [23,19] 3
theorem OXe_sound : OrcSound Pr OXe.o := autoT_sound mixed ext_ok (KOkT.cons (Enters.of (fn := Go.Proofs.Tryd.f21) (by kernel_rfl) (by kernel_rfl)) dx_ok KR5_ok) (by kernel_rfl) 3
theorem exc_x : Tr.prune .any (execBYE Pr OXe noLoopsT 100 Go.Proofs.Tryd.f10 0 ⟨[1,2,3,4,6],[0],[]⟩ ⟨[],[],[]⟩ (takeSeq 3 (bodyOf Go.Proofs.Tryd.f10)) [] []) =
  .chk true (.leaf (.inr (.normal, [(1,.ptr 0 0),(2,.int .i64 0),(3,.u64 (smallN false (numB (BitVec.ofInt 64 1024)))),(4,.bool (smallO false (numB (BitVec.ofInt 64 1024)))),(6,.int .i64 2)], [.vals [.bool true, .str [], .isl 3 2 (rwF exQ)]]))) := by kernel_rfl
theorem exb_x (b : Bool) (ok : Bool) (s : List B) (m : Nat) (g : Nat → Nat → V) (e : Int) (f : Int) (n : BitVec 64) : Tr.prune (((((Tr.Sh.any.l.both
                          Tr.Sh.any.r).both
                      Tr.Sh.any.r.r).l.both
                Tr.Sh.any.r.r.r.r).l.l.both
        Tr.Sh.any.r.r.r.r.r.r.r).l.both
  Tr.Sh.any.r.r.r.r.r.r.r.r.r)
  (execBR Pr OX noLoopsT (100 : Nat) Go.Proofs.Tryd.f10 (0 : Nat) (dropSeq (3 : Nat) (bodyOf Go.Proofs.Tryd.f10))
  [((1 : Nat), V.ptr (0 : Nat) (0 : Nat)), ((2 : Nat), V.int IntKind.i64 e), ((3 : Nat), V.u64 n),
    ((4 : Nat), V.bool ok), ((6 : Nat), V.int IntKind.i64 f)]
  [Blk.vals [V.bool b, V.str s, V.isl (3 : Nat) m g]]) =
  Tr.chk
  (okVB (lsV 2 (row2 catB dogB)) && true)
  (Tr.br
    (encV (lsV 2 (row2 catB dogB)) == exS)
    (Tr.chk true
      (Tr.br (e == (0 : Int))
        (Tr.chk (okVB (V.agg [V.bool b, V.str s, V.isl (3 : Nat) m g]) && true)
          (Tr.br
            (shwV (V.agg [V.bool b, V.str s, V.isl (3 : Nat) m g]) ==
              exU)
            (Tr.chk true
              (Tr.br (n == BitVec.ofInt (64 : Nat) (1024 : Int))
                (Tr.chk true
                  (Tr.br ok (Tr.chk true (Tr.leaf (Fin.ret (V.bool (f == (2 : Int))), [])))
                    (Tr.chk true (Tr.leaf (Fin.ret (V.bool false), [])))))
                (Tr.chk true (Tr.leaf (Fin.ret (V.bool false), [])))))
            (Tr.chk true (Tr.leaf (Fin.ret (V.bool false), [])))))
        (Tr.chk true (Tr.leaf (Fin.ret (V.bool false), [])))))
    (Tr.chk true (Tr.leaf (Fin.ret (V.bool false), [])))) := by kernel_rfl
theorem numB_1024 : numB (BitVec.ofInt 64 1024) = [4#8, 0#8] := by rw [numB_eq]; decide
theorem sm_1024 : smallO false (numB (BitVec.ofInt 64 1024)) = true ∧ smallN false (numB (BitVec.ofInt 64 1024)) = 1024#64 := by
  have h : smallB false [4#8, 0#8] = true := by decide
  rw [numB_1024, smallO_eq]
  refine ⟨h, ?_⟩
  unfold smallN
  rw [if_pos h, valB_eq]; decide
theorem ex_is2 : isIt (lsV 2 (row2 catB dogB)) exIt := by
  refine .lst (row2 catB dogB) [.txt catB, .txt dogB] fun i hi => ?_
  match i, hi with
  | 0, _ => exact .txt catB _
  | 1, _ => exact .txt dogB _
theorem ex_enc : enc exIt = exS := by
  rw [exIt, enc, encs, encs, encs, enc, enc, headO_eq, headO_eq, headO_eq]; decide
theorem ex_shw : shw exIt = exU := by kernel_rfl
theorem ex_is1 : isIt (.agg [.bool true, .str [], .isl 3 2 (rwF exQ)]) exIt := by
  have := itV_is exIt
  have e : itV exIt = .agg [.bool true, .str [], .isl 3 2 (rwF exQ)] := itV_lst _
  rwa [e] at this
theorem ex_ok {v : V} (h : isIt (nrm v) exIt) : okVB v = true := by
  refine @decide_eq_true _ (Classical.propDecidable _) ⟨⟨exIt, h⟩, ?_⟩
  rw [encV_eq h, ex_enc]; decide
theorem ex_fn : LFn Pr 10 [] [] (.ret (.bool true)) [] := by
  refine EndsIn.done (fn := Go.Proofs.Tryd.f10) (by kernel_rfl) (by kernel_rfl) (by kernel_rfl) ?_
  refine EndsIn.cutY (L := noLoopsT) 3 OXe_sound mixed (by kernel_rfl) noLoops_all (by kernel_rfl) exc_x ?_
  refine wp_chk_true.2 (wp_leaf.2 ⟨clo_nil, .inl ⟨_, _, rfl, ?_⟩⟩)
  have h := exb_x true true [] 2 (rwF exQ) 0 2 1024#64
  have i1 : isIt (nrm (.agg [.bool true, .str [], .isl 3 2 (rwF exQ)])) exIt := ex_is1
  have i2 : isIt (nrm (lsV 2 (row2 catB dogB))) exIt := ex_is2
  rw [ex_ok i1, ex_ok i2, encV_eq i2, ex_enc, shwV_eq i1, ex_shw] at h
  have h3 := sm_1024
  rw [h3.1, h3.2]
  refine EndsIn.last OX_sound mixed noLoops_all (by kernel_rfl) h ?_
  refine wp_chk_true.2 (wp_br.2 ⟨fun _ => wp_chk_true.2 (wp_br.2 ⟨fun _ => wp_chk_true.2 (wp_br.2 ⟨fun _ => wp_chk_true.2 (wp_br.2 ⟨fun _ => wp_chk_true.2 (wp_br.2 ⟨fun _ => wp_chk_true.2 (wp_leaf.2 rfl), fun e => by cases e⟩), fun e => ?_⟩), fun e => ?_⟩), fun e => ?_⟩), fun e => ?_⟩)
  · exact absurd e (by decide)
  · exact absurd e (by decide)
  · exact absurd e (by decide)
  · exact absurd e (by decide)
end
end Go.Proofs.YtnafebinaheclaaDoor.K
end
section
open Go Go.Lh
namespace Go.Proofs.YtnafebinaheclaaDoor.K
noncomputable section
set_option maxRecDepth 100000
def ex_g : List V → Heap → Tr (Fin × Heap) := fun args h => match args, h with
  | [], [] => .leaf (.ret (.bool true), [])
  | _, _ => .no
theorem ex_ok2 : ∀ args h r, (ex_g args h).is r → LFn Pr 10 args h r.1 r.2 := by
  intro args h r e
  unfold ex_g at e
  split at e
  · rw [Tr.is_leaf] at e; subst e; exact ex_fn
  · exact (Tr.is_no.1 e).elim
def KL : KnownT := (10, ex_g) :: KX
theorem KL_ok : KOkT Pr KL := KOkT.cons (Enters.of (fn := Go.Proofs.Tryd.f10) (by kernel_rfl) (by kernel_rfl)) ex_ok2 KX_ok
def OL : OrcT := autoT Pr ext KL [23,19] 3
theorem OL_sound : OrcSound Pr OL.o := autoT_sound mixed ext_ok KL_ok (by kernel_rfl) 3
def nine : List B := bytesOf (ByteArray.mk #[49, 50, 51, 52, 53, 54, 55, 56, 57])
def cN1 : Code := dropSeq 5 (bodyOf Go.Proofs.Tryd.f8)
def cN2 : Code := dropSeq 1 cN1
theorem ln1_x (a : BitVec 64) (b : BitVec 64) : Tr.prune (Tr.Sh.any.r)
  (execBYE Pr OL noLoopsT (100 : Nat) Go.Proofs.Tryd.f8 (0 : Nat)
  (Tell.mk [(0 : Nat), (1 : Nat), (5 : Nat), (6 : Nat), (7 : Nat), (8 : Nat), (10 : Nat)] [(0 : Nat)] [])
  (Tell.mk [] [] []) (takeSeq (5 : Nat) (bodyOf Go.Proofs.Tryd.f8)) [((0 : Nat), V.u64 a), ((1 : Nat), V.u64 b)] []) =
  Tr.chk (decide ((1 : Nat) + (numB a).length ≤ (9223372036854775807 : Nat)) && true)
  (Tr.leaf
    (Sum.inr
      (X.normal,
        [((0 : Nat), V.u64 a), ((1 : Nat), V.u64 b), ((5 : Nat), V.bool true), ((6 : Nat), V.ptr (0 : Nat) (0 : Nat)),
          ((7 : Nat), V.u64 (smallN false (numB a))), ((8 : Nat), V.bool (smallO false (numB a))),
          ((10 : Nat), V.bool (smallO false (bytesOf (ByteArray.mk #[OfNat.ofNat (0 : Nat)]) ++ numB a)))],
        [Blk.vals [V.bool false, V.str (numB a), V.nilSl]]))) := by kernel_rfl
theorem ln2_x (a b n : BitVec 64) (h ok z : Bool) (s : List B) : Tr.prune .any (execBYE Pr OL noLoopsT 100 Go.Proofs.Tryd.f8 0 ⟨[0,1,5,6,7,8,10,12,14],[0],[]⟩ ⟨[],[],[]⟩ (takeSeq 1 cN1) [(0,.u64 a),(1,.u64 b),(5,.bool h),(6,.ptr 0 0),(7,.u64 n),(8,.bool ok),(10,.bool z)] [.vals [.bool false,.str s,.nilSl]]) =
  .chk true (.leaf (.inr (.normal, [(0,.u64 a),(1,.u64 b),(5,.bool h),(6,.ptr 0 0),(7,.u64 n),(8,.bool ok),(10,.bool z),(12,.bool (smallO false nine)),(14,.bool (smallO true []))], [.vals [.bool false,.str s,.nilSl]]))) := by kernel_rfl
theorem ln3_x (a : BitVec 64) (b : BitVec 64) (n : BitVec 64) (h : Bool) (ok : Bool) (z : Bool) (l : Bool) (e : Bool) (s : List B) : Tr.prune ((((((Tr.Sh.any.l.l.l.l.l.l.l.l.l.both
                                Tr.Sh.any.r.r.r.r.r.r.r.r.r).l.both
                          Tr.Sh.any.r.r.r.r.r.r.r.r.r.r.r).l.both
                    Tr.Sh.any.r.r.r.r.r.r.r.r.r.r.r.r.r).l.both
              Tr.Sh.any.r.r.r.r.r.r.r.r.r.r.r.r.r.r.r).both
          Tr.Sh.any.r.r.r.r.r.r.r.r.r.r.r.r.r.r.r.r).l.l.both
  Tr.Sh.any.r.r.r.r.r.r.r.r.r.r.r.r.r.r.r.r.r.r.r)
  (execBR Pr OL noLoopsT (100 : Nat) Go.Proofs.Tryd.f8 (0 : Nat) cN2
  [((0 : Nat), V.u64 a), ((1 : Nat), V.u64 b), ((5 : Nat), V.bool h), ((6 : Nat), V.ptr (0 : Nat) (0 : Nat)),
    ((7 : Nat), V.u64 n), ((8 : Nat), V.bool ok), ((10 : Nat), V.bool z), ((12 : Nat), V.bool l),
    ((14 : Nat), V.bool e)]
  [Blk.vals [V.bool false, V.str s, V.nilSl]]) =
  Tr.chk true
  (Tr.br h
    (Tr.chk true
      (Tr.br (n == a)
        (Tr.chk true
          (Tr.br ok
            (Tr.chk true
              (Tr.br (!z)
                (Tr.chk true
                  (Tr.br (!l)
                    (Tr.chk true
                      (Tr.br (!e) (Tr.chk true (Tr.leaf (Fin.ret (V.bool ((s == numB b) == (a == b))), [])))
                        (Tr.chk true (Tr.leaf (Fin.ret (V.bool false), [])))))
                    (Tr.chk true (Tr.leaf (Fin.ret (V.bool false), [])))))
                (Tr.chk true (Tr.leaf (Fin.ret (V.bool false), [])))))
            (Tr.chk true (Tr.leaf (Fin.ret (V.bool false), [])))))
        (Tr.chk true (Tr.leaf (Fin.ret (V.bool false), [])))))
    (Tr.chk true (Tr.leaf (Fin.ret (V.bool false), [])))) := by kernel_rfl
end
end Go.Proofs.YtnafebinaheclaaDoor.K
end
section
open Go Go.Lh
namespace Go.Proofs.YtnafebinaheclaaDoor.K
noncomputable section
set_option maxRecDepth 100000
theorem foldB_toNat : ∀ (s : List B) (n : BitVec 64) (k : Nat), n.toNat < 256 ^ k → k + s.length ≤ 8 → (foldB n s).toNat = n.toNat * 256 ^ s.length + beN s
  | [], n, k, _, _ => by simp [foldB, beN]
  | b :: r, n, k, hn, hk => by
    have h8 : 256 ^ (k + 1) ≤ 256 ^ 8 := Nat.pow_le_pow_right (by decide) (by simp only [List.length_cons] at hk; omega)
    have h64 : (256 : Nat) ^ 8 = 2 ^ 64 := by decide
    have hb := b.isLt
    have hs : n.toNat * 256 + b.toNat < 256 ^ (k + 1) := by rw [Nat.pow_succ]; omega
    have e : (n <<< 8 ||| b.setWidth 64).toNat = n.toNat * 256 + b.toNat := by
      rw [byte_step, BitVec.toNat_add, BitVec.toNat_mul, BitVec.toNat_setWidth, c256]
      have : b.toNat % 2 ^ 64 = b.toNat := Nat.mod_eq_of_lt (by omega)
      rw [this, Nat.mod_eq_of_lt (a := n.toNat * 256) (by omega), Nat.mod_eq_of_lt (by omega)]
    have ih := foldB_toNat r (n <<< 8 ||| b.setWidth 64) (k + 1) (by rw [e]; exact hs) (by simp only [List.length_cons] at hk; omega)
    have e2 : foldB n (b :: r) = foldB (n <<< 8 ||| b.setWidth 64) r := rfl
    rw [e2, ih, e, beN, List.length_cons, Nat.pow_succ, Nat.add_mul, Nat.mul_assoc, Nat.mul_comm 256, Nat.add_assoc]
theorem valB_toNat {s : List B} (h : s.length ≤ 8) : (valB s).toNat = beN s := by
  rw [valB_eq, foldB_toNat s 0 0 (by decide) (by omega)]
  simp
theorem beN_trL : ∀ s : List B, beN (trL 0 s) = beN s
  | [] => rfl
  | x :: r => by
    rw [trL]
    split
    · rename_i h
      rw [beN_trL r, beN, h]; simp
    · rfl
theorem trL_head : ∀ s : List B, ((trL 0 s).take 1 == [0#8]) = false
  | [] => rfl
  | x :: r => by
    rw [trL]
    split
    · exact trL_head r
    · rename_i h
      show ([x] == [0#8]) = false
      simpa using h
theorem trL_self {s : List B} (h : (s.take 1 == [0#8]) = false) : trL 0 s = s := by
  cases s with
  | nil => rfl
  | cons x r =>
    rw [trL, if_neg]
    rintro rfl
    cases h
theorem noLead_inj {s t : List B} (hs : (s.take 1 == [0#8]) = false) (ht : (t.take 1 == [0#8]) = false) (h : beN s = beN t) : s = t := by
  refine beN_inj ?_ h
  have e : ∀ k, s.length ≤ k ↔ t.length ≤ k := by
    intro k
    have a := trL_le s k
    have b := trL_le t k
    rw [trL_self hs] at a
    rw [trL_self ht] at b
    rw [a, b, h]
  have h1 := (e t.length).2 (Nat.le_refl _)
  have h2 := (e s.length).1 (Nat.le_refl _)
  omega
theorem beN_numB (n : BitVec 64) : beN (numB n) = n.toNat := by
  rw [numB_eq]
  have h := beN_trL (be8 n)
  rw [show (0#8 : B) = 0 from rfl, h, ← beK_8]
  have : (256 : Nat) ^ 8 = 2 ^ 64 := by decide
  exact beN_beK 8 n (by rw [this]; exact n.isLt)
theorem numB_small (n : BitVec 64) : smallB false (numB n) = true := by
  have h := numB_len n
  have h2 : ((numB n).take 1 == [0#8]) = false := by rw [numB_eq]; exact trL_head _
  unfold smallB
  rw [decide_eq_true h, h2]; rfl
theorem smallB_iff {s : List B} (h : smallB false s = true) : s.length ≤ 8 ∧ (s.take 1 == [0#8]) = false := by
  unfold smallB at h
  simp only [Bool.and_eq_true, Bool.not_eq_true', decide_eq_true_eq] at h
  exact ⟨h.1.2, h.2⟩
theorem smallN_val {s : List B} (h : smallB false s = true) : (smallN false s).toNat = beN s := by
  unfold smallN
  rw [if_pos h, valB_toNat (smallB_iff h).1]
theorem smallN_numB (n : BitVec 64) : smallN false (numB n) = n := by
  apply BitVec.eq_of_toNat_eq
  rw [smallN_val (numB_small n), beN_numB]
/-- the bytes of a small text's number are the text -/
theorem numB_smallN {s : List B} (h : smallB false s = true) : numB (smallN false s) = s := by
  refine noLead_inj (smallB_iff (numB_small _)).2 (smallB_iff h).2 ?_
  rw [beN_numB, smallN_val h]
theorem numB_inj {a b : BitVec 64} (h : numB a = numB b) : a = b := by rw [← smallN_numB a, h, smallN_numB]
theorem brT2 {α : Type} {t u : Tr α} {Q : α → Prop} (h : t.wp Q) : (Tr.chk true (Tr.br true t u)).wp Q := wp_chk_true.2 (brT h)
theorem rlpNumbers_fn (a b : BitVec 64) : LFn Pr 8 [.u64 a, .u64 b] [] (.ret (.bool true)) [] := by
  refine EndsIn.done (fn := Go.Proofs.Tryd.f8) (by kernel_rfl) (by kernel_rfl) (by kernel_rfl) ?_
  refine EndsIn.cutY (L := noLoopsT) 5 OL_sound mixed (by kernel_rfl) noLoops_all (by kernel_rfl) (ln1_x a b) ?_
  have hl := numB_len a
  refine wp_chk.2 ⟨by simp only [Bool.and_true, decide_eq_true_eq]; omega, wp_leaf.2 ⟨clo_nil, .inl ⟨_, _, rfl, ?_⟩⟩⟩
  have e1 : smallO false (numB a) = true := by rw [smallO_eq]; exact numB_small a
  have e2 : smallN false (numB a) = a := smallN_numB a
  have e3 : smallO false (bytesOf (ByteArray.mk #[OfNat.ofNat 0]) ++ numB a) = false := by
    rw [smallO_eq]
    show smallB false (0#8 :: numB a) = false
    unfold smallB
    simp
  rw [e1, e2, e3]
  refine EndsIn.cutY (L := noLoopsT) 1 OL_sound mixed (by kernel_rfl) noLoops_all (by kernel_rfl) (ln2_x a b a true true false (numB a)) ?_
  refine wp_chk_true.2 (wp_leaf.2 ⟨clo_nil, .inl ⟨_, _, rfl, ?_⟩⟩)
  have e4 : smallO false nine = false := by rw [smallO_eq]; decide
  have e5 : smallO true [] = false := by rw [smallO_eq]; decide
  rw [e4, e5]
  refine EndsIn.last OL_sound mixed noLoops_all (by kernel_rfl) (ln3_x a b a true true false false false (numB a)) ?_
  have ea : (a == a) = true := by simp
  rw [ea]
  refine brT2 (brT2 (brT2 (brT2 (brT2 (brT2 (wp_chk_true.2 (wp_leaf.2 ?_)))))))
  have : ((numB a == numB b) == (a == b)) = true := by
    by_cases h : a = b
    · subst h; simp
    · have : numB a ≠ numB b := fun e => h (numB_inj e)
      rw [beq_eq_false_iff_ne.2 this, beq_eq_false_iff_ne.2 h]; rfl
  rw [this]
end
end Go.Proofs.YtnafebinaheclaaDoor.K
end
section
open Go Go.Lh
namespace Go.Proofs.YtnafebinaheclaaDoor.K
noncomputable section
set_option maxRecDepth 100000
def cS1 : Code := dropSeq 3 (bodyOf Go.Proofs.Tryd.f9)
def cS2 : Code := dropSeq 4 cS1
def cS3 : Code := dropSeq 4 cS2
theorem ls1_x (s : List B) : Tr.prune (Tr.Sh.any.r)
  (execBYE Pr OL noLoopsT (100 : Nat) Go.Proofs.Tryd.f9 (0 : Nat) (Tell.mk [(0 : Nat), (3 : Nat)] [] []) (Tell.mk [] [] [])
  (takeSeq (3 : Nat) (bodyOf Go.Proofs.Tryd.f9)) [((0 : Nat), V.str s)] []) =
  Tr.chk
  (decide
        ((0 : Int) ≤
          (some (if (400 : Int) < (↑s.length : Int) then (400 : Int) else (↑s.length : Int))).getD (↑s.length : Int)) &&
      decide
        ((some (if (400 : Int) < (↑s.length : Int) then (400 : Int) else (↑s.length : Int))).getD (↑s.length : Int) ≤
          (↑s.length : Int)) &&
    true)
  (Tr.leaf
    (Sum.inr
      (X.normal,
        [((0 : Nat),
            V.str
              (List.take
                ((some (if (400 : Int) < (↑s.length : Int) then (400 : Int) else (↑s.length : Int))).getD
                    (↑s.length : Int)).toNat
                s)),
          ((3 : Nat), V.bool true)],
        []))) := by kernel_rfl
theorem ls2_x (s : List B) (h : Bool) : Tr.prune ((((Tr.Sh.any.both Tr.Sh.any).l.l.both Tr.Sh.any.r.r.r).both
      ((Tr.Sh.any.both Tr.Sh.any).l.l.both Tr.Sh.any.r.r.r)).both
  (((Tr.Sh.any.both Tr.Sh.any).l.l.both Tr.Sh.any.r.r.r).both ((Tr.Sh.any.both Tr.Sh.any).l.l.both Tr.Sh.any.r.r.r)))
  (execBYE Pr OL noLoopsT (100 : Nat) Go.Proofs.Tryd.f9 (0 : Nat)
  (Tell.mk [(0 : Nat), (3 : Nat), (4 : Nat), (5 : Nat)] [] []) (Tell.mk [] [] []) (takeSeq (4 : Nat) cS1)
  [((0 : Nat), V.str s), ((3 : Nat), V.bool h)] []) =
  Tr.chk true
  (Tr.br (decide ((↑s.length : Int) > (55 : Int)))
    (Tr.chk true
      (Tr.br (decide ((↑s.length : Int) > (255 : Int)))
        (Tr.chk true
          (Tr.br ((↑s.length : Int) == (1 : Int))
            (Tr.chk (decide ((0 : Int) < (↑s.length : Int)) && true)
              (Tr.br (decide (s.getD (0 : Nat) (OfNat.ofNat (0 : Nat)) < BitVec.ofInt (8 : Nat) (128 : Int)))
                (Tr.chk true
                  (Tr.leaf
                    (Sum.inr
                      (X.normal,
                        [((0 : Nat), V.str s), ((3 : Nat), V.bool h), ((4 : Nat), V.int IntKind.i64 (↑s.length : Int)),
                          ((5 : Nat), V.int IntKind.i64 (0 : Int))],
                        []))))
                (Tr.leaf
                  (Sum.inr
                    (X.normal,
                      [((0 : Nat), V.str s), ((3 : Nat), V.bool h), ((4 : Nat), V.int IntKind.i64 (↑s.length : Int)),
                        ((5 : Nat), V.int IntKind.i64 (3 : Int))],
                      [])))))
            (Tr.chk true
              (Tr.leaf
                (Sum.inr
                  (X.normal,
                    [((0 : Nat), V.str s), ((3 : Nat), V.bool h), ((4 : Nat), V.int IntKind.i64 (↑s.length : Int)),
                      ((5 : Nat), V.int IntKind.i64 (3 : Int))],
                    []))))))
        (Tr.chk true
          (Tr.br ((↑s.length : Int) == (1 : Int))
            (Tr.chk (decide ((0 : Int) < (↑s.length : Int)) && true)
              (Tr.br (decide (s.getD (0 : Nat) (OfNat.ofNat (0 : Nat)) < BitVec.ofInt (8 : Nat) (128 : Int)))
                (Tr.chk true
                  (Tr.leaf
                    (Sum.inr
                      (X.normal,
                        [((0 : Nat), V.str s), ((3 : Nat), V.bool h), ((4 : Nat), V.int IntKind.i64 (↑s.length : Int)),
                          ((5 : Nat), V.int IntKind.i64 (0 : Int))],
                        []))))
                (Tr.leaf
                  (Sum.inr
                    (X.normal,
                      [((0 : Nat), V.str s), ((3 : Nat), V.bool h), ((4 : Nat), V.int IntKind.i64 (↑s.length : Int)),
                        ((5 : Nat), V.int IntKind.i64 (2 : Int))],
                      [])))))
            (Tr.chk true
              (Tr.leaf
                (Sum.inr
                  (X.normal,
                    [((0 : Nat), V.str s), ((3 : Nat), V.bool h), ((4 : Nat), V.int IntKind.i64 (↑s.length : Int)),
                      ((5 : Nat), V.int IntKind.i64 (2 : Int))],
                    []))))))))
    (Tr.chk true
      (Tr.br (decide ((↑s.length : Int) > (255 : Int)))
        (Tr.chk true
          (Tr.br ((↑s.length : Int) == (1 : Int))
            (Tr.chk (decide ((0 : Int) < (↑s.length : Int)) && true)
              (Tr.br (decide (s.getD (0 : Nat) (OfNat.ofNat (0 : Nat)) < BitVec.ofInt (8 : Nat) (128 : Int)))
                (Tr.chk true
                  (Tr.leaf
                    (Sum.inr
                      (X.normal,
                        [((0 : Nat), V.str s), ((3 : Nat), V.bool h), ((4 : Nat), V.int IntKind.i64 (↑s.length : Int)),
                          ((5 : Nat), V.int IntKind.i64 (0 : Int))],
                        []))))
                (Tr.leaf
                  (Sum.inr
                    (X.normal,
                      [((0 : Nat), V.str s), ((3 : Nat), V.bool h), ((4 : Nat), V.int IntKind.i64 (↑s.length : Int)),
                        ((5 : Nat), V.int IntKind.i64 (3 : Int))],
                      [])))))
            (Tr.chk true
              (Tr.leaf
                (Sum.inr
                  (X.normal,
                    [((0 : Nat), V.str s), ((3 : Nat), V.bool h), ((4 : Nat), V.int IntKind.i64 (↑s.length : Int)),
                      ((5 : Nat), V.int IntKind.i64 (3 : Int))],
                    []))))))
        (Tr.chk true
          (Tr.br ((↑s.length : Int) == (1 : Int))
            (Tr.chk (decide ((0 : Int) < (↑s.length : Int)) && true)
              (Tr.br (decide (s.getD (0 : Nat) (OfNat.ofNat (0 : Nat)) < BitVec.ofInt (8 : Nat) (128 : Int)))
                (Tr.chk true
                  (Tr.leaf
                    (Sum.inr
                      (X.normal,
                        [((0 : Nat), V.str s), ((3 : Nat), V.bool h), ((4 : Nat), V.int IntKind.i64 (↑s.length : Int)),
                          ((5 : Nat), V.int IntKind.i64 (0 : Int))],
                        []))))
                (Tr.leaf
                  (Sum.inr
                    (X.normal,
                      [((0 : Nat), V.str s), ((3 : Nat), V.bool h), ((4 : Nat), V.int IntKind.i64 (↑s.length : Int)),
                        ((5 : Nat), V.int IntKind.i64 (1 : Int))],
                      [])))))
            (Tr.chk true
              (Tr.leaf
                (Sum.inr
                  (X.normal,
                    [((0 : Nat), V.str s), ((3 : Nat), V.bool h), ((4 : Nat), V.int IntKind.i64 (↑s.length : Int)),
                      ((5 : Nat), V.int IntKind.i64 (1 : Int))],
                    []))))))))) := by kernel_rfl
theorem ls3_x (s : List B) (h : Bool) (n : Int) (k : Int) : Tr.prune ((Tr.Sh.any.both Tr.Sh.any).both
  (Tr.Sh.any.both Tr.Sh.any))
  (execBYE Pr OL noLoopsT (100 : Nat) Go.Proofs.Tryd.f9 (0 : Nat)
  (Tell.mk [(0 : Nat), (3 : Nat), (4 : Nat), (5 : Nat), (6 : Nat), (7 : Nat), (8 : Nat)] [] []) (Tell.mk [] [] [])
  (takeSeq (4 : Nat) cS2)
  [((0 : Nat), V.str s), ((3 : Nat), V.bool h), ((4 : Nat), V.int IntKind.i64 n), ((5 : Nat), V.int IntKind.i64 k)]
  []) =
  Tr.chk
  (okVB (V.agg [V.bool false, V.str s, V.nilSl]) && true &&
    (okVB (V.agg [V.bool true, V.str [], V.isl (3 : Nat) (1 : Nat) (rwF (row1 false s (0 : Nat) fun x x_1 ↦ V.any))]) &&
        true &&
      true))
  (Tr.br (decide ((↑(encV (V.agg [V.bool false, V.str s, V.nilSl])).length : Int) > (55 : Int)))
    (Tr.chk true
      (Tr.br (decide ((↑(encV (V.agg [V.bool false, V.str s, V.nilSl])).length : Int) > (255 : Int)))
        (Tr.chk true
          (Tr.leaf
            (Sum.inr
              (X.normal,
                [((0 : Nat), V.str s), ((3 : Nat), V.bool h), ((4 : Nat), V.int IntKind.i64 n),
                  ((5 : Nat), V.int IntKind.i64 k), ((6 : Nat), V.str (encV (V.agg [V.bool false, V.str s, V.nilSl]))),
                  ((7 : Nat),
                    V.str
                      (encV
                        (V.agg
                          [V.bool true, V.str [],
                            V.isl (3 : Nat) (1 : Nat) (rwF (row1 false s (0 : Nat) fun x x_1 ↦ V.any))]))),
                  ((8 : Nat), V.int IntKind.i64 (3 : Int))],
                []))))
        (Tr.leaf
          (Sum.inr
            (X.normal,
              [((0 : Nat), V.str s), ((3 : Nat), V.bool h), ((4 : Nat), V.int IntKind.i64 n),
                ((5 : Nat), V.int IntKind.i64 k), ((6 : Nat), V.str (encV (V.agg [V.bool false, V.str s, V.nilSl]))),
                ((7 : Nat),
                  V.str
                    (encV
                      (V.agg
                        [V.bool true, V.str [],
                          V.isl (3 : Nat) (1 : Nat) (rwF (row1 false s (0 : Nat) fun x x_1 ↦ V.any))]))),
                ((8 : Nat), V.int IntKind.i64 (2 : Int))],
              [])))))
    (Tr.chk true
      (Tr.br (decide ((↑(encV (V.agg [V.bool false, V.str s, V.nilSl])).length : Int) > (255 : Int)))
        (Tr.chk true
          (Tr.leaf
            (Sum.inr
              (X.normal,
                [((0 : Nat), V.str s), ((3 : Nat), V.bool h), ((4 : Nat), V.int IntKind.i64 n),
                  ((5 : Nat), V.int IntKind.i64 k), ((6 : Nat), V.str (encV (V.agg [V.bool false, V.str s, V.nilSl]))),
                  ((7 : Nat),
                    V.str
                      (encV
                        (V.agg
                          [V.bool true, V.str [],
                            V.isl (3 : Nat) (1 : Nat) (rwF (row1 false s (0 : Nat) fun x x_1 ↦ V.any))]))),
                  ((8 : Nat), V.int IntKind.i64 (3 : Int))],
                []))))
        (Tr.leaf
          (Sum.inr
            (X.normal,
              [((0 : Nat), V.str s), ((3 : Nat), V.bool h), ((4 : Nat), V.int IntKind.i64 n),
                ((5 : Nat), V.int IntKind.i64 k), ((6 : Nat), V.str (encV (V.agg [V.bool false, V.str s, V.nilSl]))),
                ((7 : Nat),
                  V.str
                    (encV
                      (V.agg
                        [V.bool true, V.str [],
                          V.isl (3 : Nat) (1 : Nat) (rwF (row1 false s (0 : Nat) fun x x_1 ↦ V.any))]))),
                ((8 : Nat), V.int IntKind.i64 (1 : Int))],
              [])))))) := by kernel_rfl
theorem ls4_x (s : List B) (a : List B) (b : List B) (h : Bool) (n : Int) (k : Int) (m : Int) : Tr.prune ((((Tr.Sh.any.l.l.l.l.both
                                            Tr.Sh.any.r.r.r.r).l.l.l.l.l.l.both
                            Tr.Sh.any.r.r.r.r.r.r.r.r.r.r.r).l.l.l.l.both
                Tr.Sh.any.r.r.r.r.r.r.r.r.r.r.r.r.r.r.r.r).l.l.l.l.l.both
  Tr.Sh.any.r.r.r.r.r.r.r.r.r.r.r.r.r.r.r.r.r.r.r.r.r.r)
  (execBR Pr OL noLoopsT (100 : Nat) Go.Proofs.Tryd.f9 (0 : Nat) cS3
  [((0 : Nat), V.str s), ((3 : Nat), V.bool h), ((4 : Nat), V.int IntKind.i64 n), ((5 : Nat), V.int IntKind.i64 k),
    ((6 : Nat), V.str a), ((7 : Nat), V.str b), ((8 : Nat), V.int IntKind.i64 m)]
  []) =
  Tr.chk true
  (Tr.br h
    (Tr.chk true
      (Tr.br ((↑a.length : Int) == wrapI IntKind.i64 (n + k))
        (Tr.chk
          (decide ((0 : Int) ≤ (some k).getD (0 : Int)) &&
                decide ((some k).getD (0 : Int) ≤ none.getD (↑a.length : Int)) &&
              decide (none.getD (↑a.length : Int) ≤ (↑a.length : Int)) &&
            true)
          (Tr.br (List.drop ((some k).getD (0 : Int)).toNat (List.take (none.getD (↑a.length : Int)).toNat a) == s)
            (Tr.chk true
              (Tr.br ((↑b.length : Int) == wrapI IntKind.i64 ((↑a.length : Int) + m))
                (Tr.chk
                  (decide ((0 : Int) ≤ (some m).getD (0 : Int)) &&
                        decide ((some m).getD (0 : Int) ≤ none.getD (↑b.length : Int)) &&
                      decide (none.getD (↑b.length : Int) ≤ (↑b.length : Int)) &&
                    true)
                  (Tr.leaf
                    (Fin.ret
                        (V.bool
                          (List.drop ((some m).getD (0 : Int)).toNat
                              (List.take (none.getD (↑b.length : Int)).toNat b) ==
                            a)),
                      [])))
                (Tr.chk true (Tr.leaf (Fin.ret (V.bool false), [])))))
            (Tr.chk true (Tr.leaf (Fin.ret (V.bool false), [])))))
        (Tr.chk true (Tr.leaf (Fin.ret (V.bool false), [])))))
    (Tr.chk true (Tr.leaf (Fin.ret (V.bool false), [])))) := by kernel_rfl
end
end Go.Proofs.YtnafebinaheclaaDoor.K
end
section
open Go Go.Lh
namespace Go.Proofs.YtnafebinaheclaaDoor.K
noncomputable section
set_option maxRecDepth 100000
def hl (n : Nat) : Nat := if 55 < n then (if 255 < n then 3 else 2) else 1
theorem numB_le (n : BitVec 64) (k : Nat) : (numB n).length ≤ k ↔ n.toNat < 256 ^ k := by
  rw [numB_eq]
  have h := trL_le (be8 n) k
  have : (256 : Nat) ^ 8 = 2 ^ 64 := by decide
  rw [← beK_8, beN_beK 8 n (by rw [this]; exact n.isLt), beK_8] at h
  exact h
theorem headO_hl (b : B) (n : Nat) (h : n < 65536) : (headO b n).length = hl n := by
  rw [headO_eq]
  unfold headB hl
  have hn : (BitVec.ofNat 64 n).toNat = n := by rw [BitVec.toNat_ofNat]; exact Nat.mod_eq_of_lt (by omega)
  by_cases h1 : n ≤ 55
  · rw [if_pos h1, if_neg (by omega)]; rfl
  · rw [if_neg h1, if_pos (by omega), List.length_cons]
    have a0 := numB_le (BitVec.ofNat 64 n) 0
    have a1 := numB_le (BitVec.ofNat 64 n) 1
    have a2 := numB_le (BitVec.ofNat 64 n) 2
    rw [hn] at a0 a1 a2
    rw [show (256 : Nat) ^ 0 = 1 from rfl] at a0
    rw [show (256 : Nat) ^ 1 = 256 from rfl] at a1
    rw [show (256 : Nat) ^ 2 = 65536 from rfl] at a2
    by_cases h2 : n ≤ 255
    · rw [if_neg (by omega)]; omega
    · rw [if_pos (by omega)]; omega
def aheadN (t : List B) : Nat := @ite _ (t.length = 1 ∧ t.getD 0 0 < 128#8) (Classical.propDecidable _) 0 (hl t.length)
theorem enc_txt (t : List B) (h : t.length < 65536) : (enc (.txt t)).length = t.length + aheadN t ∧ (enc (.txt t)).drop (aheadN t) = t := by
  unfold aheadN
  rw [enc]
  by_cases hc : t.length = 1 ∧ t.getD 0 0 < 128#8
  · rw [if_pos hc, if_pos hc]; exact ⟨rfl, rfl⟩
  · rw [if_neg hc, if_neg hc, List.length_append]
    have := headO_hl 128#8 t.length h
    refine ⟨by omega, ?_⟩
    rw [← this, List.drop_left]
theorem enc_lst (l : List It) : enc (.lst l) = headO 192#8 (encs l).length ++ encs l := by rw [enc]
theorem encs_one (x : It) : encs [x] = enc x := by rw [encs, encs, List.append_nil]
theorem enc_one (t : List B) (h : (enc (.txt t)).length < 65536) : (enc (.lst [.txt t])).length = (enc (.txt t)).length + hl (enc (.txt t)).length ∧ (enc (.lst [.txt t])).drop (hl (enc (.txt t)).length) = enc (.txt t) := by
  rw [enc_lst, encs_one, List.length_append]
  have := headO_hl 192#8 (enc (.txt t)).length h
  refine ⟨by omega, ?_⟩
  rw [← this, List.drop_left]
theorem rlpShort_fn (s : List B) (hs : s.length < 2 ^ 63) : LFn Pr 9 [.str s] [] (.ret (.bool true)) [] := by
  refine EndsIn.done (fn := Go.Proofs.Tryd.f9) (by kernel_rfl) (by kernel_rfl) (by kernel_rfl) ?_
  refine EndsIn.cutY (L := noLoopsT) 3 OL_sound mixed (by kernel_rfl) noLoops_all (by kernel_rfl) (ls1_x s) ?_
  have hmin : (if (400 : Int) < (s.length : Int) then (400 : Int) else (s.length : Int)) = ((min s.length 400 : Nat) : Int) := by split <;> omega
  rw [hmin]
  refine wp_chk.2 ⟨by simp only [Option.getD_some, Bool.and_true, Bool.and_eq_true, decide_eq_true_eq]; omega, wp_leaf.2 ⟨clo_nil, .inl ⟨_, _, rfl, ?_⟩⟩⟩
  rw [Option.getD_some, Int.toNat_natCast]
  have ht : (List.take (min s.length 400) s).length ≤ 400 := by rw [List.length_take]; omega
  generalize List.take (min s.length 400) s = t at ht
  have ha := enc_txt t (by omega)
  have hlt : hl t.length ≤ 3 := by unfold hl; split <;> (try split) <;> omega
  have hlA : aheadN t ≤ 3 := by unfold aheadN; split <;> omega
  have hb := enc_one t (by omega)
  have hlB : hl (enc (.txt t)).length ≤ 3 := by unfold hl; split <;> (try split) <;> omega
  generalize hA : enc (.txt t) = A at ha hb hlB
  generalize hB : enc (.lst [.txt t]) = C at hb
  -- the end
  have fin : ∀ k m : Int, k = (aheadN t : Int) → m = (hl A.length : Int) → EndsIn Pr Go.Proofs.Tryd.f9 0 cS3 [(0,.str t),(3,.bool true),(4,.int .i64 (t.length : Int)),(5,.int .i64 k),(6,.str A),(7,.str C),(8,.int .i64 m)] [] (.ret (.bool true)) [] := by
    rintro k m rfl rfl
    refine EndsIn.last OL_sound mixed noLoops_all (by kernel_rfl) (ls4_x t A C true t.length (aheadN t) (hl A.length)) ?_
    have e1 : wrapI .i64 ((t.length : Int) + (aheadN t : Int)) = (A.length : Int) := by rw [show (t.length : Int) + (aheadN t : Int) = ((t.length + aheadN t : Nat) : Int) by omega, wrapI_nat (by omega), ha.1]
    have e2 : wrapI .i64 ((A.length : Int) + (hl A.length : Int)) = (C.length : Int) := by rw [show (A.length : Int) + (hl A.length : Int) = ((A.length + hl A.length : Nat) : Int) by omega, wrapI_nat (by omega), hb.1]
    rw [e1, e2, Option.getD_some, Option.getD_none, Option.getD_some, Option.getD_none, Int.toNat_natCast, Int.toNat_natCast, Int.toNat_natCast, Int.toNat_natCast, List.take_length, List.take_length, ha.2, hb.2]
    have x1 : ((A.length : Int) == (A.length : Int)) = true := by simp
    have x2 : ((C.length : Int) == (C.length : Int)) = true := by simp
    have x3 : (t == t) = true := by simp
    have x4 : (A == A) = true := by simp
    rw [x1, x2, x3, x4]
    refine brT2 (brT2 (wp_chk.2 ⟨by simp only [Bool.and_true, Bool.and_eq_true, decide_eq_true_eq]; omega, brT (brT2 (wp_chk.2 ⟨by simp only [Bool.and_true, Bool.and_eq_true, decide_eq_true_eq]; omega, wp_leaf.2 rfl⟩))⟩))
  -- both are written
  have mid : ∀ k : Int, k = (aheadN t : Int) → EndsIn Pr Go.Proofs.Tryd.f9 0 cS2 [(0,.str t),(3,.bool true),(4,.int .i64 (t.length : Int)),(5,.int .i64 k)] [] (.ret (.bool true)) [] := by
    intro k hk
    refine EndsIn.cutY (L := noLoopsT) 4 OL_sound mixed (by kernel_rfl) noLoops_all (by kernel_rfl) (ls3_x t true t.length k) ?_
    have i1 : isIt (nrm (.agg [.bool false, .str t, .nilSl])) (.txt t) := .txt t _
    have i2 : isIt (nrm (.agg [.bool true, .str [], .isl 3 1 (rwF (row1 false t 0 fun _ _ => .any))])) (.lst [.txt t]) := by
      refine .lst (row1 false t 0 fun _ _ => .any) [.txt t] fun i hi => ?_
      match i, hi with
      | 0, _ => exact .txt t _
    have o1 : okVB (.agg [.bool false, .str t, .nilSl]) = true := @decide_eq_true _ (Classical.propDecidable _) ⟨⟨_, i1⟩, by rw [encV_eq i1, hA, m40]; omega⟩
    have o2 : okVB (.agg [.bool true, .str [], .isl 3 1 (rwF (row1 false t 0 fun _ _ => .any))]) = true := @decide_eq_true _ (Classical.propDecidable _) ⟨⟨_, i2⟩, by rw [encV_eq i2, hB, m40]; omega⟩
    rw [o1, o2, encV_eq i1, encV_eq i2, hA, hB]
    refine wp_chk_true.2 (wp_br.2 ⟨fun h1 => wp_chk_true.2 (wp_br.2 ⟨fun h2 => wp_chk_true.2 (wp_leaf.2 ⟨clo_nil, .inl ⟨_, _, rfl, fin k 3 hk ?_⟩⟩), fun h2 => wp_leaf.2 ⟨clo_nil, .inl ⟨_, _, rfl, fin k 2 hk ?_⟩⟩⟩), fun h1 => wp_chk_true.2 (wp_br.2 ⟨fun h2 => ?_, fun h2 => wp_leaf.2 ⟨clo_nil, .inl ⟨_, _, rfl, fin k 1 hk ?_⟩⟩⟩)⟩)
    · have h1 := of_decide_eq_true h1; have h2 := of_decide_eq_true h2
      unfold hl; rw [if_pos (by omega), if_pos (by omega)]; rfl
    · have h1 := of_decide_eq_true h1; have h2 := of_decide_eq_false h2
      unfold hl; rw [if_pos (by omega), if_neg (by omega)]; rfl
    · have h1 := of_decide_eq_false h1; have h2 := of_decide_eq_true h2
      omega
    · have h1 := of_decide_eq_false h1
      unfold hl; rw [if_neg (by omega)]; rfl
  show EndsIn Pr _ 0 cS1 [(0,.str t),(3,.bool true)] [] _ _
  refine EndsIn.cutY (L := noLoopsT) 4 OL_sound mixed (by kernel_rfl) noLoops_all (by kernel_rfl) (ls2_x t true) ?_
  have go : ∀ c : Int, c = (hl t.length : Int) → Tr.wp (fun q => CloW ⟨[0,3,4,5],[],[]⟩ ⟨[],[],[]⟩ q ∧ ((∃ f g, q = .inr (.normal, f, g) ∧ EndsIn Pr Go.Proofs.Tryd.f9 0 (dropSeq 4 cS1) f g (.ret (.bool true)) []) ∨ ∃ g, q = .inl (.ret (.bool true), g) ∧ DeadOf g [])) (Tr.chk true
          (Tr.br ((t.length : Int) == 1)
            (Tr.chk (decide ((0 : Int) < (t.length : Int)) && true)
              (Tr.br (decide (t.getD 0 (OfNat.ofNat 0) < BitVec.ofInt 8 128))
                (Tr.chk true (Tr.leaf (Sum.inr (X.normal, [(0, V.str t), (3, V.bool true), (4, V.int .i64 (t.length : Int)), (5, V.int .i64 0)], []))))
                (Tr.leaf (Sum.inr (X.normal, [(0, V.str t), (3, V.bool true), (4, V.int .i64 (t.length : Int)), (5, V.int .i64 c)], [])))))
            (Tr.chk true (Tr.leaf (Sum.inr (X.normal, [(0, V.str t), (3, V.bool true), (4, V.int .i64 (t.length : Int)), (5, V.int .i64 c)], [])))))) := by
    intro c hc
    refine wp_chk_true.2 (wp_br.2 ⟨fun h1 => ?_, fun h1 => wp_chk_true.2 (wp_leaf.2 ⟨clo_nil, .inl ⟨_, _, rfl, mid c ?_⟩⟩)⟩)
    · have h1 : t.length = 1 := by have := eq_of_beq h1; omega
      refine wp_chk.2 ⟨by rw [h1]; decide, wp_br.2 ⟨fun h2 => wp_chk_true.2 (wp_leaf.2 ⟨clo_nil, .inl ⟨_, _, rfl, mid 0 ?_⟩⟩), fun h2 => wp_leaf.2 ⟨clo_nil, .inl ⟨_, _, rfl, mid c ?_⟩⟩⟩⟩
      · have h2 := of_decide_eq_true h2
        rw [o128] at h2
        unfold aheadN
        rw [if_pos ⟨h1, h2⟩]; rfl
      · have h2 := of_decide_eq_false h2
        rw [o128] at h2
        unfold aheadN
        rw [if_neg (fun h => h2 h.2)]; exact hc
    · have h1 : t.length ≠ 1 := by intro e; rw [e] at h1; cases h1
      unfold aheadN
      rw [if_neg (fun h => h1 h.1)]; exact hc
  refine wp_chk_true.2 (wp_br.2 ⟨fun h1 => wp_chk_true.2 (wp_br.2 ⟨fun h2 => go 3 ?_, fun h2 => go 2 ?_⟩), fun h1 => wp_chk_true.2 (wp_br.2 ⟨fun h2 => ?_, fun h2 => go 1 ?_⟩)⟩)
  · have h1 := of_decide_eq_true h1; have h2 := of_decide_eq_true h2
    unfold hl; rw [if_pos (by omega), if_pos (by omega)]; rfl
  · have h1 := of_decide_eq_true h1; have h2 := of_decide_eq_false h2
    unfold hl; rw [if_pos (by omega), if_neg (by omega)]; rfl
  · have h1 := of_decide_eq_false h1; have h2 := of_decide_eq_true h2
    omega
  · have h1 := of_decide_eq_false h1
    unfold hl; rw [if_neg (by omega)]; rfl
end
end Go.Proofs.YtnafebinaheclaaDoor.K
end
section
open Go Go.Lh
namespace Go.Proofs.YtnafebinaheclaaDoor.K
noncomputable section
set_option maxRecDepth 100000
theorem enc_txt_eq (s : List B) : enc (.txt s) = if s.length = 1 ∧ s.getD 0 0 < 128#8 then s else headO 128#8 s.length ++ s := by rw [enc]
theorem encs_cons (x : It) (r : List It) : encs (x :: r) = enc x ++ encs r := by rw [encs]
theorem encs_nil : encs [] = [] := by rw [encs]
theorem mnF_len {k : Nat} {s : List B} {p : Nat × List B} (h : mnF k s = some p) : p.2.length ≤ s.length := by
  unfold mnF at h
  split at h
  · cases h; exact Nat.le_refl _
  · split at h
    · cases h; simp only [List.length_drop]; omega
    · cases h
theorem byte_add {b base : B} {k : Nat} (hk : base.toNat + k < 256) (hb : b.toNat = base.toNat + k) : base + BitVec.ofNat 8 k = b := by
  apply BitVec.eq_of_toNat_eq
  rw [BitVec.toNat_add, BitVec.toNat_ofNat, hb]
  omega
/-- what was read as how many stands as it is written -/
theorem mnF_back {b base : B} {k n : Nat} {s r : List B} (hb : b.toNat = base.toNat + k) (h : mnF k s = some (n, r)) : headO base n ++ r = b :: s := by
  have hlt := b.isLt
  unfold mnF at h
  rw [headO_eq]
  unfold headB
  split at h
  · rename_i hk
    cases h
    rw [if_pos hk, byte_add (by omega) hb]; rfl
  · rename_i hk
    split at h
    · rename_i hc
      obtain ⟨c1, c2, c3, c4⟩ := hc
      cases h
      rw [if_neg (by omega), BitVec.ofNat_toNat, BitVec.setWidth_eq, numB_smallN c2, List.length_take, Nat.min_eq_left c1, BitVec.add_assoc]
      have e : (55#8 + BitVec.ofNat 8 (k - 55)) = BitVec.ofNat 8 k := by
        apply BitVec.eq_of_toNat_eq
        rw [BitVec.toNat_add, BitVec.toNat_ofNat, BitVec.toNat_ofNat, BitVec.toNat_ofNat]
        omega
      rw [e, byte_add (by omega) hb, List.cons_append, List.take_append_drop]
    · cases h
theorem tkF_back {k : Nat} {s : List B} {q : List B × List B} (h : tkF k s = some q) : q.1 ++ q.2 = s ∧ q.1.length = k := by
  unfold tkF at h
  split at h
  · rename_i hk
    cases h
    exact ⟨List.take_append_drop k s, by rw [List.length_take]; omega⟩
  · cases h
theorem manyD_back {dec : List B → Option (It × List B)} (hd : ∀ s x r, dec s = some (x, r) → enc x ++ r = s) : ∀ (n : Nat) (t : List B) (l : List It), manyD dec n t = some l → encs l = t
  | n, [], l, h => by
    rw [manyD.eq_def] at h
    cases h; exact encs_nil
  | 0, b :: t, l, h => by rw [manyD] at h; cases h
  | n + 1, b :: t, l, h => by
    rw [manyD] at h
    cases hx : dec (b :: t) with
    | none => rw [hx] at h; cases h
    | some p =>
      obtain ⟨x, q⟩ := p
      rw [hx] at h
      simp only at h
      rw [Option.map_eq_some_iff] at h
      obtain ⟨l', hl, rfl⟩ := h
      rw [encs_cons, manyD_back hd n q l' hl, hd _ _ _ hx]
/-- what was read stands as it is written -/
theorem itF_back : ∀ (f : Nat) (s : List B) (x : It) (r : List B), itF f s = some (x, r) → enc x ++ r = s
  | 0, s, x, r, h => by cases s <;> cases h
  | f + 1, [], x, r, h => by cases h
  | f + 1, b :: s, x, r, h => by
    have hb := b.isLt
    rw [itF] at h
    split at h
    · rename_i hlt
      cases h
      rw [enc_txt_eq, if_pos ⟨rfl, hlt⟩]; rfl
    · rename_i hlt
      rw [BitVec.lt_def, c128] at hlt
      split at h
      · rename_i hlt2
        rw [BitVec.lt_def, c192] at hlt2
        rw [Option.bind_eq_some_iff] at h
        obtain ⟨⟨n, r1⟩, hp, h⟩ := h
        rw [Option.bind_eq_some_iff] at h
        obtain ⟨⟨t, r2⟩, hq, h⟩ := h
        obtain ⟨q1, q2⟩ := tkF_back hq
        simp only at q1 q2
        split at h
        · rename_i hc
          cases h
          have hm := mnF_back (b := b) (base := 128#8) (by rw [c128]; omega) hp
          have hne : ¬ (t.length = 1 ∧ t.getD 0 0 < 128#8) := by
            rintro ⟨a1, a2⟩
            rw [BitVec.lt_def, c128] at a2
            rcases hc with hc | hc | hc
            · exact hc a1
            · have hc : 128#8 ≤ t.getD 0 0 := hc
              rw [BitVec.le_def, c128] at hc; omega
            · rw [← q2, a1] at hm
              rw [headO_eq] at hm
              unfold headB at hm
              rw [if_pos (by decide)] at hm
              have hm' : (128#8 + BitVec.ofNat 8 1) :: ([] ++ r1) = b :: s := hm
              have := List.head_eq_of_cons_eq hm'
              exact hc (by rw [← this]; decide)
          rw [enc_txt_eq, if_neg hne, q2, List.append_assoc, q1, hm]
        · cases h
      · rename_i hlt2
        rw [BitVec.lt_def, c192] at hlt2
        rw [Option.bind_eq_some_iff] at h
        obtain ⟨⟨n, r1⟩, hp, h⟩ := h
        rw [Option.bind_eq_some_iff] at h
        obtain ⟨⟨t, r2⟩, hq, h⟩ := h
        obtain ⟨q1, q2⟩ := tkF_back hq
        simp only at q1 q2 h
        rw [Option.map_eq_some_iff] at h
        obtain ⟨l, hl, h⟩ := h
        cases h
        have hm := mnF_back (b := b) (base := 192#8) (by rw [c192]; omega) hp
        rw [enc_lst, manyD_back (itF_back f) _ _ _ hl, q2, List.append_assoc, q1, hm]
/-! ### what was written is read -/
theorem head_fwd (base : B) (n : Nat) (hn : n ≤ 65536) (hbase : base.toNat ≤ 192) : ∃ b h k, headO base n = b :: h ∧ b.toNat = base.toNat + k ∧ k < 64 ∧ ∀ r, mnF k (h ++ r) = some (n, r) := by
  rw [headO_eq]
  unfold headB
  by_cases h1 : n ≤ 55
  · rw [if_pos h1]
    refine ⟨_, [], n, rfl, ?_, by omega, fun r => ?_⟩
    · rw [BitVec.toNat_add, BitVec.toNat_ofNat]; omega
    · unfold mnF; rw [if_pos h1]; rfl
  · rw [if_neg h1]
    have hv : (BitVec.ofNat 64 n).toNat = n := by rw [BitVec.toNat_ofNat]; exact Nat.mod_eq_of_lt (by omega)
    have hl := numB_len (BitVec.ofNat 64 n)
    have a0 := numB_le (BitVec.ofNat 64 n) 0
    rw [hv, show (256 : Nat) ^ 0 = 1 from rfl] at a0
    refine ⟨_, numB (BitVec.ofNat 64 n), 55 + (numB (BitVec.ofNat 64 n)).length, rfl, ?_, by omega, fun r => ?_⟩
    · rw [BitVec.toNat_add, BitVec.toNat_add, BitVec.toNat_ofNat, BitVec.toNat_ofNat]; omega
    · unfold mnF
      rw [if_neg (by omega), Nat.add_sub_cancel_left, List.take_left, List.drop_left, smallN_numB, hv, if_pos ⟨by simp, numB_small _, by omega, hn⟩]
theorem tkF_fwd (t r : List B) : tkF t.length (t ++ r) = some (t, r) := by
  unfold tkF
  rw [if_pos (by simp), List.take_left, List.drop_left]
theorem itF_head {f n : Nat} {r : List B} (b : B) (h : List B) (k : Nat) (hb : b.toNat = 192 + k) (hm : ∀ r, mnF k (h ++ r) = some (n, r)) (t : List B) (hn : n = t.length) :
    itF (f + 1) (b :: (h ++ (t ++ r))) = (manyD (itF f) t.length t).map fun l => (.lst l, r) := by
  have hlt := b.isLt
  rw [itF, if_neg (by rw [BitVec.lt_def, c128]; omega), if_neg (by rw [BitVec.lt_def, c192]; omega), hb, Nat.add_sub_cancel_left, hm, Option.bind_some, hn]
  simp only
  rw [tkF_fwd, Option.bind_some]
mutual
theorem itF_fwd : ∀ (x : It) (f : Nat) (r : List B), x.dep + 1 ≤ f → (enc x).length ≤ 65536 → itF f (enc x ++ r) = some (x, r)
  | .txt s, f + 1, r, _, hl => by
    rw [enc_txt_eq] at hl ⊢
    by_cases hc : s.length = 1 ∧ s.getD 0 0 < 128#8
    · rw [if_pos hc]
      obtain ⟨h1, h2⟩ := hc
      match s, h1, h2 with
      | [b], _, h2 =>
        have h2 : b < 128#8 := h2
        rw [List.cons_append, List.nil_append, itF, if_pos h2]
    · rw [if_neg hc] at hl ⊢
      rw [List.length_append] at hl
      obtain ⟨b, h, k, e, hb, hk, hm⟩ := head_fwd 128#8 s.length (by omega) (by decide)
      rw [c128] at hb
      rw [e, List.append_assoc, List.cons_append, itF, if_neg (by rw [BitVec.lt_def, c128]; omega), if_pos (by rw [BitVec.lt_def, c192]; omega), hb, Nat.add_sub_cancel_left, hm, Option.bind_some]
      simp only
      rw [tkF_fwd, Option.bind_some]
      simp only
      rw [if_pos]
      by_cases h1 : s.length = 1
      · right; left
        have : ¬ s.getD 0 0 < 128#8 := fun h => hc ⟨h1, h⟩
        rw [BitVec.lt_def] at this
        show 128#8 ≤ s.getD 0 0
        rw [BitVec.le_def]; omega
      · exact .inl h1
  | .lst l, f + 1, r, hd, hl => by
    rw [enc_lst] at hl ⊢
    rw [List.length_append] at hl
    rw [It.dep] at hd
    obtain ⟨b, h, k, e, hb, hk, hm⟩ := head_fwd 192#8 (encs l).length (by omega) (by decide)
    rw [c192] at hb
    rw [e, List.append_assoc, List.cons_append, itF_head b h k hb hm (encs l) rfl, itsF_fwd l f (by omega) (by omega), Option.map_some]
theorem itsF_fwd : ∀ (l : List It) (f : Nat), It.deps l + 1 ≤ f → (encs l).length ≤ 65536 → manyD (itF f) (encs l).length (encs l) = some l
  | [], f, _, _ => by rw [encs_nil]; rw [manyD.eq_def]
  | x :: l, f, hd, hl => by
    rw [It.deps] at hd
    rw [encs_cons] at hl ⊢
    rw [List.length_append] at hl
    have h1 : x.dep + 1 ≤ f := by have := Nat.le_max_left x.dep (It.deps l); omega
    have h2 : It.deps l + 1 ≤ f := by have := Nat.le_max_right x.dep (It.deps l); omega
    have hx := itF_fwd x f (encs l) h1 (by omega)
    have hr := itsF_fwd l f h2 (by omega)
    have hp := enc_pos x
    cases he : enc x with
    | nil => rw [he] at hp; simp at hp
    | cons b t =>
      rw [he] at hx hl
      rw [List.cons_append, List.length_cons, manyD, ← List.cons_append, hx]
      simp only
      rw [manyD_fuel (itF_len f) _ (encs l).length (encs l) (by rw [List.length_append]; omega) (Nat.le_refl _), hr]; rfl
end
/-! ### more behind changes nothing -/
theorem mnF_more {k n : Nat} {s r : List B} (t : List B) (h : mnF k s = some (n, r)) : mnF k (s ++ t) = some (n, r ++ t) := by
  unfold mnF at h ⊢
  split at h
  · rename_i hk
    cases h
    rw [if_pos hk]
  · rename_i hk
    rw [if_neg hk]
    split at h
    · rename_i hc
      cases h
      rw [List.take_append_of_le_length hc.1, List.drop_append_of_le_length hc.1, if_pos ⟨by rw [List.length_append]; omega, hc.2⟩]
    · cases h
theorem tkF_more {k : Nat} {s : List B} {q : List B × List B} (t : List B) (h : tkF k s = some q) : tkF k (s ++ t) = some (q.1, q.2 ++ t) := by
  unfold tkF at h ⊢
  split at h
  · rename_i hk
    cases h
    rw [if_pos (by rw [List.length_append]; omega), List.take_append_of_le_length hk, List.drop_append_of_le_length hk]
  · cases h
theorem itF_more : ∀ (f : Nat) (s t : List B) (x : It) (r : List B), itF f s = some (x, r) → itF f (s ++ t) = some (x, r ++ t)
  | 0, s, t, x, r, h => by cases s <;> cases h
  | f + 1, [], t, x, r, h => by cases h
  | f + 1, b :: s, t, x, r, h => by
    rw [List.cons_append]
    rw [itF] at h ⊢
    split at h
    · rename_i hlt
      cases h
      rw [if_pos hlt]
    · rename_i hlt
      rw [if_neg hlt]
      split at h
      · rename_i hlt2
        rw [if_pos hlt2]
        rw [Option.bind_eq_some_iff] at h
        obtain ⟨⟨n, r1⟩, hp, h⟩ := h
        rw [Option.bind_eq_some_iff] at h
        obtain ⟨q, hq, h⟩ := h
        rw [mnF_more t hp, Option.bind_some]
        simp only
        rw [tkF_more t hq, Option.bind_some]
        split at h
        · rename_i hc
          cases h
          simp only
          rw [if_pos hc]
        · cases h
      · rename_i hlt2
        rw [if_neg hlt2]
        rw [Option.bind_eq_some_iff] at h
        obtain ⟨⟨n, r1⟩, hp, h⟩ := h
        rw [Option.bind_eq_some_iff] at h
        obtain ⟨q, hq, h⟩ := h
        rw [mnF_more t hp, Option.bind_some]
        simp only
        rw [tkF_more t hq, Option.bind_some]
        simp only
        rw [Option.map_eq_some_iff] at h
        obtain ⟨l, hl, h⟩ := h
        cases h
        rw [hl]; rfl
/-! ### Decode -/
theorem decF_back {s : List B} {x : It} (h : decF s = some x) : enc x = s ∧ s.length ≤ 65536 := by
  unfold decF at h
  split at h
  · rename_i hs
    rw [Option.bind_eq_some_iff] at h
    obtain ⟨⟨y, r⟩, hp, h⟩ := h
    split at h
    · rename_i hr
      cases h
      simp only at hr
      subst hr
      have := itF_back 65 s _ [] hp
      rw [List.append_nil] at this
      exact ⟨this, hs⟩
    · cases h
  · cases h
theorem decF_fwd (x : It) (hd : x.dep ≤ 64) (hl : (enc x).length ≤ 65536) : decF (enc x) = some x := by
  have := itF_fwd x 65 [] (by omega) hl
  rw [List.append_nil] at this
  unfold decF
  rw [if_pos hl, this, Option.bind_some, if_pos rfl]
theorem decF_behind (x : It) (hd : x.dep ≤ 64) (hl : (enc x).length ≤ 65536) (b : B) (r : List B) : decF (enc x ++ b :: r) = none := by
  have := itF_fwd x 65 (b :: r) (by omega) hl
  unfold decF
  split
  · rw [this, Option.bind_some, if_neg (by simp)]
  · rfl
theorem decF_cut (x : It) (hd : x.dep ≤ 64) (hl : (enc x).length ≤ 65536) (m : Nat) (hm : m < (enc x).length) : decF ((enc x).take m) = none := by
  cases h : decF ((enc x).take m) with
  | none => rfl
  | some y =>
    exfalso
    unfold decF at h
    split at h
    · rw [Option.bind_eq_some_iff] at h
      obtain ⟨⟨z, r⟩, hp, h⟩ := h
      split at h
      · rename_i hr
        simp only at hr
        subst hr
        have h1 := itF_more 65 _ ((enc x).drop m) z [] hp
        have h2 := itF_fwd x 65 [] (by omega) hl
        rw [List.take_append_drop] at h1
        rw [List.append_nil] at h2
        rw [h1] at h2
        injection h2 with h2
        injection h2 with _ h2
        rw [List.nil_append] at h2
        have := congrArg List.length h2
        rw [List.length_drop, List.length_nil] at this
        omega
      · cases h
    · cases h
end
end Go.Proofs.YtnafebinaheclaaDoor.K
end
section
open Go Go.Lh
namespace Go.Proofs.YtnafebinaheclaaDoor.K
noncomputable section
set_option maxRecDepth 100000
theorem la_x (s : List B) : Tr.prune ((Tr.Sh.any.l.l.l.l.r.both
    (Tr.Sh.any.l.l.l.l.l.l.l.l.l.l.both Tr.Sh.any.l.l.l.l)).r)
  (execBF Pr OL noLoopsT (100 : Nat) Go.Proofs.Tryd.f6 [V.str s] []) =
  Tr.chk true
  (Tr.br (dcO s)
    (Tr.chk (okVB (V.agg [V.bool (dcI s).fI.b, V.str (dcI s).fI.s, V.isl (3 : Nat) (dcI s).fI.m (dcI s).fI.g]) && true)
      (Tr.leaf
        (Fin.ret
            (V.bool
              (encV (V.agg [V.bool (dcI s).fI.b, V.str (dcI s).fI.s, V.isl (3 : Nat) (dcI s).fI.m (dcI s).fI.g]) == s)),
          [])))
    (Tr.chk true
      (Tr.br (dcE s != (0 : Int)) (Tr.chk true (Tr.leaf (Fin.ret (V.bool true), [])))
        (Tr.chk
          (Decidable.rec (fun h ↦ (fun x ↦ false) h) (fun h ↦ (fun x ↦ true) h)
              (Classical.propDecidable (okV (V.agg [V.bool false, V.str [], V.nilSl]))) &&
            true)
          (Tr.leaf (Fin.ret (V.bool (encV (V.agg [V.bool false, V.str [], V.nilSl]) == s)), [])))))) := by kernel_rfl
def cD1 : Code := dropSeq 5 (bodyOf Go.Proofs.Tryd.f7)
theorem lda_x (n : B) : Tr.prune (Tr.Sh.any.r)
  (execBYE Pr OL noLoopsT (100 : Nat) Go.Proofs.Tryd.f7 (0 : Nat)
  (Tell.mk [(3 : Nat), (4 : Nat), (5 : Nat), (6 : Nat)] [(0 : Nat)] []) (Tell.mk [] [] [])
  ((takeSeq (4 : Nat) (bodyOf Go.Proofs.Tryd.f7)).seq (headC (headC (dropSeq (4 : Nat) (bodyOf Go.Proofs.Tryd.f7)))))
  [((0 : Nat), V.u8 n)] []) =
  Tr.chk true
  (Tr.leaf
    (Sum.inr
      (X.normal,
        [((3 : Nat), V.bool true),
          ((4 : Nat), V.int IntKind.i64 (↑(n % BitVec.ofInt (8 : Nat) (81 : Int)).toNat : Int)),
          ((5 : Nat), V.ptr (0 : Nat) (0 : Nat)), ((6 : Nat), V.int IntKind.i64 (0 : Int))],
        [Blk.vals [V.bool false, V.str (bytesOf (ByteArray.mk #[])), V.nilSl]]))) := by kernel_rfl
theorem ldb0_x (h : Bool) (k : Int) (j : Int) (s : List B) : Tr.prune (Tr.Sh.any.both Tr.Sh.any)
  (execBYE Pr OL noLoopsT (100 : Nat) Go.Proofs.Tryd.f7 (0 : Nat)
  (Tell.mk [(3 : Nat), (4 : Nat), (5 : Nat), (6 : Nat)] [(0 : Nat)] [])
  (Tell.mk [(3 : Nat), (4 : Nat), (5 : Nat)] [(0 : Nat)] []) (loopBody Go.Proofs.Tryd.f7 (0 : Nat))
  [((3 : Nat), V.bool h), ((4 : Nat), V.int IntKind.i64 k), ((5 : Nat), V.ptr (0 : Nat) (0 : Nat)),
    ((6 : Nat), V.int IntKind.i64 j)]
  [Blk.vals [V.bool false, V.str s, V.nilSl]]) =
  Tr.chk true
  (Tr.br (decide (j < k))
    (Tr.chk true
      (Tr.leaf
        (Sum.inr
          (X.normal,
            [((3 : Nat), V.bool h), ((4 : Nat), V.int IntKind.i64 k), ((5 : Nat), V.ptr (0 : Nat) (0 : Nat)),
              ((6 : Nat), V.int IntKind.i64 (wrapI IntKind.i64 (j + (1 : Int))))],
            [Blk.vals
                [V.bool true, V.str [], V.isl (3 : Nat) (1 : Nat) (rwF (row1 false s (0 : Nat) fun x x_1 ↦ V.any))]]))))
    (Tr.leaf
      (Sum.inr
        (X.exit (0 : Nat),
          [((3 : Nat), V.bool h), ((4 : Nat), V.int IntKind.i64 k), ((5 : Nat), V.ptr (0 : Nat) (0 : Nat))],
          [Blk.vals [V.bool false, V.str s, V.nilSl]])))) := by kernel_rfl
theorem ldb1_x (h : Bool) (b : Bool) (k : Int) (j : Int) (s : List B) (m : Nat) (g : Nat → Nat → V) : Tr.prune (Tr.Sh.any.both
  Tr.Sh.any)
  (execBYE Pr OL noLoopsT (100 : Nat) Go.Proofs.Tryd.f7 (0 : Nat)
  (Tell.mk [(3 : Nat), (4 : Nat), (5 : Nat), (6 : Nat)] [(0 : Nat)] [])
  (Tell.mk [(3 : Nat), (4 : Nat), (5 : Nat)] [(0 : Nat)] []) (loopBody Go.Proofs.Tryd.f7 (0 : Nat))
  [((3 : Nat), V.bool h), ((4 : Nat), V.int IntKind.i64 k), ((5 : Nat), V.ptr (0 : Nat) (0 : Nat)),
    ((6 : Nat), V.int IntKind.i64 j)]
  [Blk.vals [V.bool b, V.str s, V.isl (3 : Nat) m g]]) =
  Tr.chk true
  (Tr.br (decide (j < k))
    (Tr.chk true
      (Tr.leaf
        (Sum.inr
          (X.normal,
            [((3 : Nat), V.bool h), ((4 : Nat), V.int IntKind.i64 k), ((5 : Nat), V.ptr (0 : Nat) (0 : Nat)),
              ((6 : Nat), V.int IntKind.i64 (wrapI IntKind.i64 (j + (1 : Int))))],
            [Blk.vals [V.bool true, V.str [], V.isl (3 : Nat) (1 : Nat) (rwF (row1 b s m g))]]))))
    (Tr.leaf
      (Sum.inr
        (X.exit (0 : Nat),
          [((3 : Nat), V.bool h), ((4 : Nat), V.int IntKind.i64 k), ((5 : Nat), V.ptr (0 : Nat) (0 : Nat))],
          [Blk.vals [V.bool b, V.str s, V.isl (3 : Nat) m g]])))) := by kernel_rfl
theorem ldc0_x (h : Bool) (k : Int) (s : List B) : Tr.prune ((((Tr.Sh.any.l.l.l.l.l.both
                          Tr.Sh.any.l.r.r.r.r).l.l.both
                  Tr.Sh.any.r.r.r).l.l.l.l.both
      Tr.Sh.any.r.r.r.r.r.r.r.r).both
  (((Tr.Sh.any.l.l.l.l.l.both Tr.Sh.any.l.r.r.r.r).l.l.both Tr.Sh.any.r.r.r).l.l.l.l.both Tr.Sh.any.r.r.r.r.r.r.r.r))
  (execBR Pr OL noLoopsT (100 : Nat) Go.Proofs.Tryd.f7 (0 : Nat) cD1
  [((3 : Nat), V.bool h), ((4 : Nat), V.int IntKind.i64 k), ((5 : Nat), V.ptr (0 : Nat) (0 : Nat))]
  [Blk.vals [V.bool false, V.str s, V.nilSl]]) =
  Tr.chk (okVB (V.agg [V.bool false, V.str s, V.nilSl]))
  (Tr.br (dcO (encV (V.agg [V.bool false, V.str s, V.nilSl])))
    (Tr.chk true
      (Tr.br h
        (Tr.chk true
          (Tr.br (true == decide (k ≤ (64 : Int)))
            (Tr.chk true
              (Tr.br (decide (k > (64 : Int))) (Tr.chk true (Tr.leaf (Fin.ret (V.bool true), [])))
                (Tr.chk
                  (okVB
                      (V.agg
                        [V.bool (dcI (encV (V.agg [V.bool false, V.str s, V.nilSl]))).fI.b,
                          V.str (dcI (encV (V.agg [V.bool false, V.str s, V.nilSl]))).fI.s,
                          V.isl (3 : Nat) (dcI (encV (V.agg [V.bool false, V.str s, V.nilSl]))).fI.m
                            (dcI (encV (V.agg [V.bool false, V.str s, V.nilSl]))).fI.g]) &&
                    (okVB (V.agg [V.bool false, V.str s, V.nilSl]) && true))
                  (Tr.leaf
                    (Fin.ret
                        (V.bool
                          (shwV
                              (V.agg
                                [V.bool (dcI (encV (V.agg [V.bool false, V.str s, V.nilSl]))).fI.b,
                                  V.str (dcI (encV (V.agg [V.bool false, V.str s, V.nilSl]))).fI.s,
                                  V.isl (3 : Nat) (dcI (encV (V.agg [V.bool false, V.str s, V.nilSl]))).fI.m
                                    (dcI (encV (V.agg [V.bool false, V.str s, V.nilSl]))).fI.g]) ==
                            shwV (V.agg [V.bool false, V.str s, V.nilSl]))),
                      [])))))
            (Tr.chk true (Tr.leaf (Fin.ret (V.bool false), [])))))
        (Tr.chk true (Tr.leaf (Fin.ret (V.bool false), [])))))
    (Tr.chk true
      (Tr.br h
        (Tr.chk true
          (Tr.br ((dcE (encV (V.agg [V.bool false, V.str s, V.nilSl])) == (0 : Int)) == decide (k ≤ (64 : Int)))
            (Tr.chk true
              (Tr.br (decide (k > (64 : Int))) (Tr.chk true (Tr.leaf (Fin.ret (V.bool true), [])))
                (Tr.chk
                  (Decidable.rec (fun h ↦ (fun x ↦ false) h) (fun h ↦ (fun x ↦ true) h)
                      (Classical.propDecidable (okV (V.agg [V.bool false, V.str [], V.nilSl]))) &&
                    (okVB (V.agg [V.bool false, V.str s, V.nilSl]) && true))
                  (Tr.leaf
                    (Fin.ret
                        (V.bool
                          (shwV (V.agg [V.bool false, V.str [], V.nilSl]) ==
                            shwV (V.agg [V.bool false, V.str s, V.nilSl]))),
                      [])))))
            (Tr.chk true (Tr.leaf (Fin.ret (V.bool false), [])))))
        (Tr.chk true (Tr.leaf (Fin.ret (V.bool false), [])))))) := by kernel_rfl
theorem ldc1_x (h : Bool) (b : Bool) (k : Int) (s : List B) (m : Nat) (g : Nat → Nat → V) : Tr.prune ((((Tr.Sh.any.l.l.l.l.l.both
                          Tr.Sh.any.l.r.r.r.r).l.l.both
                  Tr.Sh.any.r.r.r).l.l.l.l.both
      Tr.Sh.any.r.r.r.r.r.r.r.r).both
  (((Tr.Sh.any.l.l.l.l.l.both Tr.Sh.any.l.r.r.r.r).l.l.both Tr.Sh.any.r.r.r).l.l.l.l.both Tr.Sh.any.r.r.r.r.r.r.r.r))
  (execBR Pr OL noLoopsT (100 : Nat) Go.Proofs.Tryd.f7 (0 : Nat) cD1
  [((3 : Nat), V.bool h), ((4 : Nat), V.int IntKind.i64 k), ((5 : Nat), V.ptr (0 : Nat) (0 : Nat))]
  [Blk.vals [V.bool b, V.str s, V.isl (3 : Nat) m g]]) =
  Tr.chk (okVB (V.agg [V.bool b, V.str s, V.isl (3 : Nat) m g]))
  (Tr.br (dcO (encV (V.agg [V.bool b, V.str s, V.isl (3 : Nat) m g])))
    (Tr.chk true
      (Tr.br h
        (Tr.chk true
          (Tr.br (true == decide (k ≤ (64 : Int)))
            (Tr.chk true
              (Tr.br (decide (k > (64 : Int))) (Tr.chk true (Tr.leaf (Fin.ret (V.bool true), [])))
                (Tr.chk
                  (okVB
                      (V.agg
                        [V.bool (dcI (encV (V.agg [V.bool b, V.str s, V.isl (3 : Nat) m g]))).fI.b,
                          V.str (dcI (encV (V.agg [V.bool b, V.str s, V.isl (3 : Nat) m g]))).fI.s,
                          V.isl (3 : Nat) (dcI (encV (V.agg [V.bool b, V.str s, V.isl (3 : Nat) m g]))).fI.m
                            (dcI (encV (V.agg [V.bool b, V.str s, V.isl (3 : Nat) m g]))).fI.g]) &&
                    (okVB (V.agg [V.bool b, V.str s, V.isl (3 : Nat) m g]) && true))
                  (Tr.leaf
                    (Fin.ret
                        (V.bool
                          (shwV
                              (V.agg
                                [V.bool (dcI (encV (V.agg [V.bool b, V.str s, V.isl (3 : Nat) m g]))).fI.b,
                                  V.str (dcI (encV (V.agg [V.bool b, V.str s, V.isl (3 : Nat) m g]))).fI.s,
                                  V.isl (3 : Nat) (dcI (encV (V.agg [V.bool b, V.str s, V.isl (3 : Nat) m g]))).fI.m
                                    (dcI (encV (V.agg [V.bool b, V.str s, V.isl (3 : Nat) m g]))).fI.g]) ==
                            shwV (V.agg [V.bool b, V.str s, V.isl (3 : Nat) m g]))),
                      [])))))
            (Tr.chk true (Tr.leaf (Fin.ret (V.bool false), [])))))
        (Tr.chk true (Tr.leaf (Fin.ret (V.bool false), [])))))
    (Tr.chk true
      (Tr.br h
        (Tr.chk true
          (Tr.br ((dcE (encV (V.agg [V.bool b, V.str s, V.isl (3 : Nat) m g])) == (0 : Int)) == decide (k ≤ (64 : Int)))
            (Tr.chk true
              (Tr.br (decide (k > (64 : Int))) (Tr.chk true (Tr.leaf (Fin.ret (V.bool true), [])))
                (Tr.chk
                  (Decidable.rec (fun h ↦ (fun x ↦ false) h) (fun h ↦ (fun x ↦ true) h)
                      (Classical.propDecidable (okV (V.agg [V.bool false, V.str [], V.nilSl]))) &&
                    (okVB (V.agg [V.bool b, V.str s, V.isl (3 : Nat) m g]) && true))
                  (Tr.leaf
                    (Fin.ret
                        (V.bool
                          (shwV (V.agg [V.bool false, V.str [], V.nilSl]) ==
                            shwV (V.agg [V.bool b, V.str s, V.isl (3 : Nat) m g]))),
                      [])))))
            (Tr.chk true (Tr.leaf (Fin.ret (V.bool false), [])))))
        (Tr.chk true (Tr.leaf (Fin.ret (V.bool false), [])))))) := by kernel_rfl
end
end Go.Proofs.YtnafebinaheclaaDoor.K
end
section
open Go Go.Lh
namespace Go.Proofs.YtnafebinaheclaaDoor.K
noncomputable section
set_option maxRecDepth 100000
theorem dcE_ne (s : List B) : (dcE s != 0) = true := by
  unfold dcE
  split <;> rfl
theorem itV_ok {x : It} (h : (enc x).length ≤ most40) : okVB (itV x) = true := by
  have hi : isIt (nrm (itV x)) x := itV_is x
  exact @decide_eq_true _ (Classical.propDecidable _) ⟨⟨x, hi⟩, by rw [encV_eq hi]; exact h⟩
theorem itV_enc (x : It) : encV (itV x) = enc x := encV_eq (show isIt (nrm (itV x)) x from itV_is x)
theorem itV_shw (x : It) : shwV (itV x) = shw x := shwV_eq (show isIt (nrm (itV x)) x from itV_is x)
theorem rlpAgain_fn (s : List B) : LFn Pr 6 [.str s] [] (.ret (.bool true)) [] := by
  refine fnT OL_sound mixed (by kernel_rfl) LoopsOk.noneT (la_x s) ?_
  refine wp_chk_true.2 (wp_br.2 ⟨fun h => ?_, fun h => wp_chk_true.2 (wp_br.2 ⟨fun _ => wp_chk_true.2 (wp_leaf.2 rfl), fun h2 => ?_⟩)⟩)
  · obtain ⟨x, hx⟩ : ∃ x, decF s = some x := @of_decide_eq_true _ (Classical.propDecidable _) h
    obtain ⟨h1, h2⟩ := decF_back hx
    rw [dcI_eq hx]
    have o : okVB (itV x) = true := itV_ok (by rw [h1, m40]; omega)
    have e : encV (itV x) = s := by rw [itV_enc, h1]
    have ev : V.agg [V.bool x.fI.b, V.str x.fI.s, V.isl 3 x.fI.m x.fI.g] = itV x := rfl
    rw [ev, o, e]
    refine wp_chk_true.2 (wp_leaf.2 ?_)
    rw [beq_self_eq_true]
  · rw [dcE_ne] at h2; cases h2
/-! ### deep lists -/
def nestIt : Nat → It
  | 0 => .txt []
  | k + 1 => .lst [nestIt k]
def nestQ : Nat → RW
  | 0 => row1 false [] 0 fun _ _ => .any
  | k + 1 => row1 true [] 1 (rwF (nestQ k))
def nestV : Nat → V
  | 0 => .agg [.bool false, .str [], .nilSl]
  | k + 1 => .agg [.bool true, .str [], .isl 3 1 (rwF (nestQ k))]
theorem nestQ_is : ∀ k, isIt ((nestQ k).at 0) (nestIt k)
  | 0 => .txt [] _
  | k + 1 => .lst (nestQ k) [nestIt k] fun i hi => by
    match i, hi with
    | 0, _ => exact nestQ_is k
theorem nestV_is : ∀ k, isIt (nrm (nestV k)) (nestIt k)
  | 0 => .txt [] _
  | k + 1 => .lst (nestQ k) [nestIt k] fun i hi => by
    match i, hi with
    | 0, _ => exact nestQ_is k
theorem nest_dep : ∀ k, (nestIt k).dep = k
  | 0 => by rw [nestIt, It.dep]
  | k + 1 => by rw [nestIt, It.dep, It.deps, It.deps, nest_dep k]; omega
theorem nest_len : ∀ k, k ≤ 80 → (enc (nestIt k)).length ≤ 1 + 3 * k
  | 0, _ => by
    rw [nestIt, enc_txt_eq, if_neg (by simp), List.length_append]
    have := headO_hl 128#8 ([] : List B).length (by decide)
    rw [this]; decide
  | k + 1, h => by
    have ih := nest_len k (by omega)
    rw [nestIt, enc_lst, encs_one, List.length_append]
    have h2 := headO_hl 192#8 (enc (nestIt k)).length (by omega)
    have h3 : hl (enc (nestIt k)).length ≤ 3 := by unfold hl; split <;> (try split) <;> omega
    omega
theorem nest_none : ∀ (f k : Nat) (r : List B), f ≤ k → k ≤ 80 → itF f (enc (nestIt k) ++ r) = none
  | 0, k, r, _, _ => by cases enc (nestIt k) ++ r <;> rfl
  | f + 1, 0, r, h, _ => by omega
  | f + 1, k + 1, r, h, h80 => by
    have hl := nest_len k (by omega)
    have ih := nest_none f k [] (by omega) (by omega)
    rw [List.append_nil] at ih
    rw [nestIt, enc_lst, encs_one]
    obtain ⟨b, hh, m, e, hb, hk, hm⟩ := head_fwd 192#8 (enc (nestIt k)).length (by omega) (by decide)
    rw [c192] at hb
    rw [e, List.append_assoc, List.cons_append, itF_head b hh m hb hm (enc (nestIt k)) rfl]
    have hp := enc_pos (nestIt k)
    generalize enc (nestIt k) = t at ih hp
    cases t with
    | nil => simp at hp
    | cons c t => rw [List.length_cons, manyD, ih]; rfl
theorem nest_dec (k : Nat) (h : k ≤ 80) : (k ≤ 64 → decF (enc (nestIt k)) = some (nestIt k)) ∧ (64 < k → decF (enc (nestIt k)) = none) := by
  have hl := nest_len k h
  refine ⟨fun h2 => decF_fwd _ (by rw [nest_dep]; exact h2) (by omega), fun h2 => ?_⟩
  have := nest_none 65 k [] (by omega) h
  rw [List.append_nil] at this
  unfold decF
  rw [this]
  split <;> rfl
/-- a loop by its rounds -/
theorem Runs.loopY {P : Program} {T : OrcT} {L : LoopsT} {n0 : Nat} {fn : Func} {α : Type} {id : Nat} {c : Code} {R : X → Fr → Heap → Prop} (S : α → Fr × Heap) (μ : α → Nat) (ok : α → Prop) (hO : OrcSound P T.o) (hm : P.follows .mixedOrders = true) (hL : ∀ d, d ∈ loopsOf c → LoopOk P fn.ntmps n0 L.o d) (hd : dstsIn fn.ntmps c = true)
    (round : ∀ a, ok a → ∃ on off fuel, (execBYE P T L fuel fn n0 on off c (S a).1 (S a).2).wp fun q => CloW on off q ∧
      ((∃ a', q = .inr (.normal, S a') ∧ ok a' ∧ μ a' < μ a) ∨ (∃ f g, q = .inr (.exit id, f, g) ∧ ∀ f' g', Weaker fn.ntmps n0 f' g' f g → R .normal f' g')))
    {a0 : α} (h0 : ok a0) : Runs P fn.ntmps n0 (.block id (.loop c)) (S a0).1 (S a0).2 R := by
  refine Runs.block (Runs.loop (fun n fr h => ∃ a, ok a ∧ μ a = n ∧ fr = (S a).1 ∧ h = (S a).2) (n := μ a0) ⟨a0, h0, rfl, rfl, rfl⟩ ?_)
  rintro n fr h ⟨a, ha, rfl, rfl, rfl⟩
  obtain ⟨on, off, fuel, hw⟩ := round a ha
  obtain ⟨q, h1, hc, h2⟩ := Tr.wp_is hw
  have H := execBYE_sound hO hm hL hd h1 hc
  rcases h2 with ⟨a', rfl, q2, q3⟩ | ⟨f1, g1, rfl, hE⟩
  · refine H.mono ?_
    rintro y f k ⟨hy, hwk⟩
    simp only at hy
    subst hy
    exact ⟨μ a', (S a').1, (S a').2, q3, ⟨a', q2, rfl, rfl, rfl⟩, hwk⟩
  · refine H.mono ?_
    rintro y f k ⟨hy, hwk⟩
    simp only at hy
    subst hy
    simp only [thenX, inBlockX, if_true]
    exact hE _ _ hwk
def dp_S (k j : Nat) : Fr × Heap := ([(3,.bool true),(4,.int .i64 (k : Int)),(5,.ptr 0 0),(6,.int .i64 (j : Int))], match j with
  | 0 => [.vals [.bool false, .str [], .nilSl]]
  | j + 1 => [.vals [.bool true, .str [], .isl 3 1 (rwF (nestQ j))]])
theorem deep_end (k : Nat) (hk : k ≤ 80) (b : Bool) (s : List B) (c3 : V) (hv : V.agg [.bool b, .str s, c3] = nestV k)
    {sh : Tr.Sh} (hx : Tr.prune sh (execBR Pr OL noLoopsT 100 Go.Proofs.Tryd.f7 0 cD1 [(3,.bool true),(4,.int .i64 (k : Int)),(5,.ptr 0 0)] [.vals [.bool b,.str s,c3]]) =
  Tr.chk (okVB (V.agg [V.bool b, V.str s, c3]))
  (Tr.br (dcO (encV (V.agg [V.bool b, V.str s, c3])))
    (Tr.chk true
      (Tr.br true
        (Tr.chk true
          (Tr.br (true == decide ((k : Int) ≤ (64 : Int)))
            (Tr.chk true
              (Tr.br (decide ((k : Int) > (64 : Int))) (Tr.chk true (Tr.leaf (Fin.ret (V.bool true), [])))
                (Tr.chk
                  (okVB (itV (dcI (encV (V.agg [V.bool b, V.str s, c3])))) &&
                    (okVB (V.agg [V.bool b, V.str s, c3]) && true))
                  (Tr.leaf
                    (Fin.ret
                        (V.bool
                          (shwV (itV (dcI (encV (V.agg [V.bool b, V.str s, c3])))) ==
                            shwV (V.agg [V.bool b, V.str s, c3]))),
                      [])))))
            (Tr.chk true (Tr.leaf (Fin.ret (V.bool false), [])))))
        (Tr.chk true (Tr.leaf (Fin.ret (V.bool false), [])))))
    (Tr.chk true
      (Tr.br true
        (Tr.chk true
          (Tr.br ((dcE (encV (V.agg [V.bool b, V.str s, c3])) == (0 : Int)) == decide ((k : Int) ≤ (64 : Int)))
            (Tr.chk true
              (Tr.br (decide ((k : Int) > (64 : Int))) (Tr.chk true (Tr.leaf (Fin.ret (V.bool true), [])))
                (Tr.chk
                  (okVB (V.agg [V.bool false, V.str [], V.nilSl]) &&
                    (okVB (V.agg [V.bool b, V.str s, c3]) && true))
                  (Tr.leaf
                    (Fin.ret
                        (V.bool
                          (shwV (V.agg [V.bool false, V.str [], V.nilSl]) ==
                            shwV (V.agg [V.bool b, V.str s, c3]))),
                      [])))))
            (Tr.chk true (Tr.leaf (Fin.ret (V.bool false), [])))))
        (Tr.chk true (Tr.leaf (Fin.ret (V.bool false), []))))))) : EndsIn Pr Go.Proofs.Tryd.f7 0 cD1 [(3,.bool true),(4,.int .i64 (k : Int)),(5,.ptr 0 0)] [.vals [.bool b,.str s,c3]] (.ret (.bool true)) [] := by
  refine EndsIn.last OL_sound mixed noLoops_all (by kernel_rfl) hx ?_
  have hi := nestV_is k
  have hl := nest_len k hk
  obtain ⟨d1, d2⟩ := nest_dec k hk
  rw [hv]
  have o : okVB (nestV k) = true := @decide_eq_true _ (Classical.propDecidable _) ⟨⟨_, hi⟩, by rw [encV_eq hi, m40]; omega⟩
  rw [o, encV_eq hi, shwV_eq hi]
  refine wp_chk_true.2 (wp_br.2 ⟨fun h => ?_, fun h => ?_⟩)
  · obtain ⟨x, hx⟩ : ∃ x, decF _ = some x := @of_decide_eq_true _ (Classical.propDecidable _) h
    have h64 : k ≤ 64 := by
      rcases Nat.lt_or_ge 64 k with h | h
      · rw [d2 h] at hx; cases hx
      · exact h
    have e : x = nestIt k := by rw [d1 h64] at hx; cases hx; rfl
    subst e
    rw [dcI_eq hx, itV_ok (by rw [m40]; omega), itV_shw, beq_self_eq_true]
    refine brT2 (wp_chk_true.2 (wp_br.2 ⟨fun _ => wp_chk_true.2 (wp_br.2 ⟨fun _ => wp_chk_true.2 (wp_leaf.2 rfl), fun _ => wp_chk_true.2 (wp_leaf.2 rfl)⟩), fun h => ?_⟩))
    rw [decide_eq_true (by omega)] at h; cases h
  · have hn : decF (enc (nestIt k)) = none := by
      have := @of_decide_eq_false _ (Classical.propDecidable _) h
      cases h8 : decF (enc (nestIt k)) with
      | none => rfl
      | some p => exact absurd ⟨p, h8⟩ this
    have h64 : 64 < k := by
      rcases Nat.lt_or_ge 64 k with h | h
      · exact h
      · rw [d1 h] at hn; cases hn
    have hE : (dcE (enc (nestIt k)) == 0) = false := by
      have := dcE_ne (enc (nestIt k))
      cases hh : (dcE (enc (nestIt k)) == 0) with
      | false => rfl
      | true => rw [bne, hh] at this; cases this
    rw [hE]
    refine brT2 (wp_chk_true.2 (wp_br.2 ⟨fun _ => wp_chk_true.2 (wp_br.2 ⟨fun _ => wp_chk_true.2 (wp_leaf.2 rfl), fun h => ?_⟩), fun h => ?_⟩))
    · have := of_decide_eq_false h; omega
    · rw [decide_eq_false (by omega)] at h; cases h
theorem ldd_x (n : B) : Tr.prune (Tr.Sh.any.r)
  (execBYE Pr OL noLoopsT (100 : Nat) Go.Proofs.Tryd.f7 (0 : Nat)
  (Tell.mk [(3 : Nat), (4 : Nat), (5 : Nat)] [(0 : Nat)] []) (Tell.mk [] [] [])
  (takeSeq (4 : Nat) (bodyOf Go.Proofs.Tryd.f7)) [((0 : Nat), V.u8 n)] []) =
  Tr.chk true
  (Tr.leaf
    (Sum.inr
      (X.normal,
        [((3 : Nat), V.bool true),
          ((4 : Nat), V.int IntKind.i64 (↑(n % BitVec.ofInt (8 : Nat) (81 : Int)).toNat : Int)),
          ((5 : Nat), V.ptr (0 : Nat) (0 : Nat))],
        [Blk.vals [V.bool false, V.str (bytesOf (ByteArray.mk #[])), V.nilSl]]))) := by kernel_rfl
theorem lde_x (k : Int) (h : Bool) (s : List B) : Tr.prune (Tr.Sh.any)
  (execBY Pr OL noLoopsT (100 : Nat) (headC (headC (dropSeq (4 : Nat) (bodyOf Go.Proofs.Tryd.f7))))
  [((3 : Nat), V.bool h), ((4 : Nat), V.int IntKind.i64 k), ((5 : Nat), V.ptr (0 : Nat) (0 : Nat))]
  [Blk.vals [V.bool false, V.str s, V.nilSl]]) =
  Tr.chk true
  (Tr.leaf
    (X.normal,
      [((3 : Nat), V.bool h), ((4 : Nat), V.int IntKind.i64 k), ((5 : Nat), V.ptr (0 : Nat) (0 : Nat)),
        ((6 : Nat), V.int IntKind.i64 (0 : Int))],
      [Blk.vals [V.bool false, V.str s, V.nilSl]])) := by kernel_rfl
theorem rlpDeep_fn (n : B) : LFn Pr 7 [.u8 n] [] (.ret (.bool true)) [] := by
  refine EndsIn.done (fn := Go.Proofs.Tryd.f7) (by kernel_rfl) (by kernel_rfl) (by kernel_rfl) ?_
  refine EndsIn.cutY (L := noLoopsT) 4 OL_sound mixed (by kernel_rfl) noLoops_all (by kernel_rfl) (ldd_x n) ?_
  refine wp_chk_true.2 (wp_leaf.2 ⟨clo_nil, .inl ⟨_, _, rfl, ?_⟩⟩)
  have hk : (n % BitVec.ofInt 8 81).toNat ≤ 80 := by
    rw [BitVec.toNat_umod, show (BitVec.ofInt 8 81).toNat = 81 by decide]
    have := Nat.mod_lt n.toNat (show 81 > 0 by decide)
    omega
  generalize (n % BitVec.ofInt 8 81).toNat = k at hk
  have e : dropSeq 4 (bodyOf Go.Proofs.Tryd.f7) = .seq (.seq (headC (headC (dropSeq 4 (bodyOf Go.Proofs.Tryd.f7)))) (.block 0 (.loop (Go.Lh.loopBody Go.Proofs.Tryd.f7 0)))) cD1 := by kernel_rfl
  have hd6 : dstsIn (Go.Proofs.Tryd.f7).ntmps (headC (headC (dropSeq 4 (bodyOf Go.Proofs.Tryd.f7)))) = true := by kernel_rfl
  have t6 := tree_is (lde_x (k : Int) true []) rfl
  rw [e]
  refine Runs.seq (Runs.seq ?_)
  refine (execBY_sound (n0 := 0) OL_sound mixed _ noLoops_all _ _ _ _ _ hd6 t6).mono ?_
  rintro y f g ⟨rfl, hw⟩
  refine Runs.weaken hw ?_
  refine Runs.loopY (T := OL) (L := noLoopsT) (dp_S k) (fun j => k - j) (fun j => j ≤ k) OL_sound mixed noLoops_all (by kernel_rfl) ?_ (a0 := 0) (Nat.zero_le _)
  intro j hj
  cases j with
  | zero =>
    refine ⟨⟨[3,4,5,6],[0],[]⟩, ⟨[3,4,5],[0],[]⟩, 100, Tr.wp_prune (ldb0_x true k 0 []) ?_⟩
    refine wp_chk_true.2 (wp_br.2 ⟨fun h => wp_chk_true.2 (wp_leaf.2 ⟨clo_nil, .inl ⟨1, ?_, ?_, ?_⟩⟩), fun h => wp_leaf.2 ⟨clo_nil, .inr ⟨_, _, rfl, fun f' g' hw => ?_⟩⟩⟩)
    · rfl
    · have := of_decide_eq_true h; omega
    · have := of_decide_eq_true h; omega
    · have h := of_decide_eq_false h
      have e0 : k = 0 := by omega
      subst e0
      simp only [thenX]
      exact Runs.weaken hw (deep_end 0 (by decide) false [] .nilSl rfl (ldc0_x true ((0 : Nat) : Int) []))
  | succ j =>
    refine ⟨⟨[3,4,5,6],[0],[]⟩, ⟨[3,4,5],[0],[]⟩, 100, Tr.wp_prune (ldb1_x true true k ((j + 1 : Nat) : Int) [] 1 (rwF (nestQ j))) ?_⟩
    refine wp_chk_true.2 (wp_br.2 ⟨fun h => wp_chk_true.2 (wp_leaf.2 ⟨clo_nil, .inl ⟨j + 2, ?_, ?_, ?_⟩⟩), fun h => wp_leaf.2 ⟨clo_nil, .inr ⟨_, _, rfl, fun f' g' hw => ?_⟩⟩⟩)
    · rw [show (((j + 1 : Nat) : Int) + 1) = ((j + 2 : Nat) : Int) by omega, wrapI_nat (by omega)]
      rfl
    · have := of_decide_eq_true h; omega
    · have := of_decide_eq_true h; omega
    · have h := of_decide_eq_false h
      have e0 : k = j + 1 := by omega
      subst e0
      simp only [thenX]
      exact Runs.weaken hw (deep_end (j + 1) hk true [] (.isl 3 1 (rwF (nestQ j))) rfl (ldc1_x true true ((j + 1 : Nat) : Int) [] 1 (rwF (nestQ j))))
end
end Go.Proofs.YtnafebinaheclaaDoor.K
end
section
open Go Go.Lh
namespace Go.Proofs.YtnafebinaheclaaDoor.K
noncomputable section
set_option maxRecDepth 100000
/-- a row of parts -/
structure PW where
  k : Nat → B
  s : Nat → List B
def pwF (p : PW) : Nat → Nat → V := fun i j => match j with
  | 0 => .u8 (p.k i)
  | _ + 1 => .str (p.s i)
def kOfV : V → B | .u8 b => b | _ => 0
abbrev Pt := B × List B
def mkL (dec : List Pt → It × Nat) : Nat → List Pt → List It × Nat
  | 0, _ => ([], 0)
  | _ + 1, [] => ([], 0)
  | c + 1, p :: r => ((dec (p :: r)).1 :: (mkL dec c ((p :: r).drop (dec (p :: r)).2)).1, (dec (p :: r)).2 + (mkL dec c ((p :: r).drop (dec (p :: r)).2)).2)
/-- an item of parts, how many of them it took -/
def mkF : Nat → List Pt → It × Nat
  | _, [] => (.txt [], 0)
  | 0, p :: _ => (.txt (p.2.take 300), 1)
  | f + 1, p :: r => if p.1.toNat % 2 = 0 then (.txt (p.2.take 300), 1) else (.lst (mkL (mkF f) (p.1.toNat / 2 % 5) r).1, 1 + (mkL (mkF f) (p.1.toNat / 2 % 5) r).2)
def ptsOf (n : Nat) (F : Nat → Nat → V) : List Pt := (List.range n).map fun i => (kOfV (F i 0), sOfV (F i 1))
def mkI (f n : Nat) (F : Nat → Nat → V) : It := @ite _ True (Classical.propDecidable True) (mkF f (ptsOf n F)).1 (.txt [])
def mkN (f n : Nat) (F : Nat → Nat → V) : Int := @ite _ True (Classical.propDecidable True) ((mkF f (ptsOf n F)).2 : Int) 0
structure MA where
  n : Nat
  F : Nat → Nat → V
  d : Int
def mk_read : List V → Heap → Option MA := fun a h => match a, h with
  | [.isl 2 n F, .int .i64 d], [] => some ⟨n, F, d⟩
  | _, _ => none
def mkP (f : Nat) (a : MA) : Prop := a.d = 61 - (f : Int) ∧ f ≤ 61 ∧ a.n ≤ 1000 ∧ (∃ p, a.F = pwF p)
def mkPB (f : Nat) (a : MA) : Bool := @decide (mkP f a) (Classical.propDecidable _)
def mk_f (f : Nat) (a : MA) : Tr (Fin × Heap) := .chk (mkPB f a) (.leaf (.ret (.tup [itV (mkI f a.n a.F), .int .i64 (mkN f a.n a.F)]), []))
def MkOk (f : Nat) : Prop := ∀ args h r, ((ctT mk_read (mk_f f)) args h).is r → LFn Pr 11 args h r.1 r.2
def OM (f : Nat) : OrcT := autoT Pr ext [(11, ctT mk_read (mk_f f))] [] 3
theorem OM_sound {f : Nat} (h : MkOk f) : OrcSound Pr (OM f).o := autoT_sound mixed ext_ok (KOkT.cons (Enters.of (fn := Go.Proofs.Tryd.f11) (by kernel_rfl) (by kernel_rfl)) h .nil) (by kernel_rfl) 3
def cM1 : Code := dropSeq 4 (bodyOf Go.Proofs.Tryd.f11)
def cM2 : Code := tailC cM1
theorem mka_x (n : Nat) (d : Int) (p : PW) : Tr.prune (Tr.Sh.any.both
  (Tr.Sh.any.l.l.both (Tr.Sh.any.both Tr.Sh.any).r))
  (execBYE Pr OR5 noLoopsT (100 : Nat) Go.Proofs.Tryd.f11 (0 : Nat)
  (Tell.mk [(0 : Nat), (1 : Nat), (4 : Nat), (6 : Nat), (7 : Nat)] [(0 : Nat), (1 : Nat)] []) (Tell.mk [] [] [])
  (takeSeq (4 : Nat) (bodyOf Go.Proofs.Tryd.f11))
  [((0 : Nat), V.isl (2 : Nat) n (pwF p)), ((1 : Nat), V.int IntKind.i64 d)] []) =
  Tr.chk true
  (Tr.br ((↑n : Int) == (0 : Int))
    (Tr.chk true
      (Tr.leaf
        (Sum.inl
          (Fin.ret
              (V.tup [V.agg [V.bool false, V.str (bytesOf (ByteArray.mk #[])), V.nilSl], V.int IntKind.i64 (0 : Int)]),
            []))))
    (Tr.chk (decide ((0 : Int) < (↑n : Int)) && (decide ((0 : Nat) < n) && true && true))
      (Tr.br (p.k (0 : Nat) % BitVec.ofInt (8 : Nat) (2 : Int) == BitVec.ofInt (8 : Nat) (0 : Int))
        (Tr.chk
          (decide ((0 : Int) < (↑n : Int)) &&
              (decide ((0 : Nat) < n) && true &&
                (decide ((0 : Int) < (↑n : Int)) &&
                  (decide ((0 : Nat) < n) && true &&
                    (decide
                          ((0 : Int) ≤
                            (some
                                  (if (300 : Int) < (↑(p.s (0 : Nat)).length : Int) then (300 : Int)
                                  else (↑(p.s (0 : Nat)).length : Int))).getD
                              (↑(p.s (0 : Nat)).length : Int)) &&
                        decide
                          ((some
                                  (if (300 : Int) < (↑(p.s (0 : Nat)).length : Int) then (300 : Int)
                                  else (↑(p.s (0 : Nat)).length : Int))).getD
                              (↑(p.s (0 : Nat)).length : Int) ≤
                            (↑(p.s (0 : Nat)).length : Int)) &&
                      true)))) &&
            true)
          (Tr.leaf
            (Sum.inl
              (Fin.ret
                  (V.tup
                    [V.agg
                        [V.bool false,
                          V.str
                            (List.take
                              ((some
                                      (if (300 : Int) < (↑(p.s (0 : Nat)).length : Int) then (300 : Int)
                                      else (↑(p.s (0 : Nat)).length : Int))).getD
                                  (↑(p.s (0 : Nat)).length : Int)).toNat
                              (p.s (0 : Nat))),
                          V.nilSl],
                      V.int IntKind.i64 (1 : Int)]),
                []))))
        (Tr.chk true
          (Tr.br (decide (d > (60 : Int)))
            (Tr.chk
              (decide ((0 : Int) < (↑n : Int)) &&
                  (decide ((0 : Nat) < n) && true &&
                    (decide ((0 : Int) < (↑n : Int)) &&
                      (decide ((0 : Nat) < n) && true &&
                        (decide
                              ((0 : Int) ≤
                                (some
                                      (if (300 : Int) < (↑(p.s (0 : Nat)).length : Int) then (300 : Int)
                                      else (↑(p.s (0 : Nat)).length : Int))).getD
                                  (↑(p.s (0 : Nat)).length : Int)) &&
                            decide
                              ((some
                                      (if (300 : Int) < (↑(p.s (0 : Nat)).length : Int) then (300 : Int)
                                      else (↑(p.s (0 : Nat)).length : Int))).getD
                                  (↑(p.s (0 : Nat)).length : Int) ≤
                                (↑(p.s (0 : Nat)).length : Int)) &&
                          true)))) &&
                true)
              (Tr.leaf
                (Sum.inl
                  (Fin.ret
                      (V.tup
                        [V.agg
                            [V.bool false,
                              V.str
                                (List.take
                                  ((some
                                          (if (300 : Int) < (↑(p.s (0 : Nat)).length : Int) then (300 : Int)
                                          else (↑(p.s (0 : Nat)).length : Int))).getD
                                      (↑(p.s (0 : Nat)).length : Int)).toNat
                                  (p.s (0 : Nat))),
                              V.nilSl],
                          V.int IntKind.i64 (1 : Int)]),
                    []))))
            (Tr.chk true
              (Tr.leaf
                (Sum.inr
                  (X.normal,
                    [((0 : Nat), V.isl (2 : Nat) n (pwF p)), ((1 : Nat), V.int IntKind.i64 d),
                      ((4 : Nat), V.ptr (0 : Nat) (0 : Nat)), ((6 : Nat), V.ptr (1 : Nat) (0 : Nat)),
                      ((7 : Nat), V.int IntKind.i64 (1 : Int))],
                    [Blk.vals [V.bool false, V.str (bytesOf (ByteArray.mk #[])), V.nilSl],
                      Blk.vals [V.bool true, V.str (bytesOf (ByteArray.mk #[])), V.nilSl]]))))))))) := by kernel_rfl
theorem mkr_x (n : Nat) (u : Nat) (d : Int) (p : PW) : Tr.prune (Tr.Sh.any)
  (execBY Pr OR5 noLoopsT (100 : Nat) (headC (headC cM1))
  [((0 : Nat), V.isl (2 : Nat) n (pwF p)), ((1 : Nat), V.int IntKind.i64 d), ((4 : Nat), V.ptr (0 : Nat) (0 : Nat)),
    ((6 : Nat), V.ptr (1 : Nat) (0 : Nat)), ((7 : Nat), V.int IntKind.i64 (↑u : Int))]
  [Blk.vals [V.bool false, V.str [], V.nilSl], Blk.vals [V.bool true, V.str [], V.nilSl]]) =
  Tr.chk true
  (Tr.leaf
    (X.normal,
      [((0 : Nat), V.isl (2 : Nat) n (pwF p)), ((1 : Nat), V.int IntKind.i64 d), ((4 : Nat), V.ptr (0 : Nat) (0 : Nat)),
        ((6 : Nat), V.ptr (1 : Nat) (0 : Nat)), ((7 : Nat), V.int IntKind.i64 (↑u : Int)),
        ((8 : Nat), V.int IntKind.i64 (0 : Int))],
      [Blk.vals [V.bool false, V.str [], V.nilSl], Blk.vals [V.bool true, V.str [], V.nilSl]])) := by kernel_rfl
theorem mkb0_x (f : Nat) (n : Nat) (u : Nat) (k : Nat) (d : Int) (p : PW) : Tr.prune ((Tr.Sh.any.both
            Tr.Sh.any).l.l.l.both
  Tr.Sh.any.r.r.r.r)
  (execBYE Pr (OM f) noLoopsT (100 : Nat) Go.Proofs.Tryd.f11 (0 : Nat)
  (Tell.mk [(0 : Nat), (1 : Nat), (4 : Nat), (6 : Nat), (7 : Nat), (8 : Nat)] [(0 : Nat), (1 : Nat), (4 : Nat)]
    [(4 : Nat)])
  (Tell.mk [(4 : Nat), (6 : Nat), (7 : Nat)] [(0 : Nat), (1 : Nat)] []) (loopBody Go.Proofs.Tryd.f11 (0 : Nat))
  [((0 : Nat), V.isl (2 : Nat) n (pwF p)), ((1 : Nat), V.int IntKind.i64 d), ((4 : Nat), V.ptr (0 : Nat) (0 : Nat)),
    ((6 : Nat), V.ptr (1 : Nat) (0 : Nat)), ((7 : Nat), V.int IntKind.i64 (↑u : Int)),
    ((8 : Nat), V.int IntKind.i64 (↑k : Int))]
  [Blk.vals [V.bool false, V.str [], V.nilSl], Blk.vals [V.bool true, V.str [], V.nilSl]]) =
  Tr.chk (decide ((0 : Int) < (↑n : Int)) && (decide ((0 : Nat) < n) && true && true))
  (Tr.br
    (decide
      ((↑k : Int) <
        (↑(p.k (0 : Nat) / BitVec.ofInt (8 : Nat) (2 : Int) % BitVec.ofInt (8 : Nat) (5 : Int)).toNat : Int)))
    (Tr.chk true
      (Tr.br (decide ((↑u : Int) < (↑n : Int)))
        (Tr.chk
          (decide ((some (↑u : Int)).getD (0 : Int) ≤ none.getD (↑n : Int)) &&
                  decide (none.getD (↑n : Int) ≤ (↑n : Int)) &&
                (mkPB f
                    (MA.mk (none.getD (↑n : Int) - (some (↑u : Int)).getD (0 : Int)).toNat
                      (fun i j ↦ pwF p (((some (↑u : Int)).getD (0 : Int)).toNat + i) j)
                      (wrapI IntKind.i64 (d + (1 : Int)))) &&
                  true) &&
              true &&
            true)
          (Tr.leaf
            (Sum.inr
              (X.normal,
                [((0 : Nat), V.isl (2 : Nat) n (pwF p)), ((1 : Nat), V.int IntKind.i64 d),
                  ((4 : Nat), V.ptr (0 : Nat) (0 : Nat)), ((6 : Nat), V.ptr (1 : Nat) (0 : Nat)),
                  ((7 : Nat),
                    V.int IntKind.i64
                      (wrapI IntKind.i64
                        ((↑u : Int) +
                          mkN f (none.getD (↑n : Int) - (some (↑u : Int)).getD (0 : Int)).toNat fun i j ↦
                            pwF p (((some (↑u : Int)).getD (0 : Int)).toNat + i) j))),
                  ((8 : Nat), V.int IntKind.i64 (wrapI IntKind.i64 ((↑k : Int) + (1 : Int))))],
                [Blk.vals [V.bool false, V.str [], V.nilSl],
                  Blk.vals [V.bool true, V.str [], V.sl (2 : Nat) (0 : Nat) (3 : Nat) (1 : Nat) none],
                  Blk.vals
                    [V.bool
                        (mkI f (none.getD (↑n : Int) - (some (↑u : Int)).getD (0 : Int)).toNat fun i j ↦
                              pwF p (((some (↑u : Int)).getD (0 : Int)).toNat + i) j).fI.b,
                      V.str
                        (mkI f (none.getD (↑n : Int) - (some (↑u : Int)).getD (0 : Int)).toNat fun i j ↦
                              pwF p (((some (↑u : Int)).getD (0 : Int)).toNat + i) j).fI.s,
                      V.isl (3 : Nat)
                        (mkI f (none.getD (↑n : Int) - (some (↑u : Int)).getD (0 : Int)).toNat fun i j ↦
                              pwF p (((some (↑u : Int)).getD (0 : Int)).toNat + i) j).fI.m
                        (mkI f (none.getD (↑n : Int) - (some (↑u : Int)).getD (0 : Int)).toNat fun i j ↦
                              pwF p (((some (↑u : Int)).getD (0 : Int)).toNat + i) j).fI.g]]))))
        (Tr.leaf
          (Sum.inr
            (X.exit (0 : Nat),
              [((4 : Nat), V.ptr (0 : Nat) (0 : Nat)), ((6 : Nat), V.ptr (1 : Nat) (0 : Nat)),
                ((7 : Nat), V.int IntKind.i64 (↑u : Int))],
              [Blk.vals [V.bool false, V.str [], V.nilSl], Blk.vals [V.bool true, V.str [], V.nilSl]])))))
    (Tr.chk true
      (Tr.leaf
        (Sum.inr
          (X.exit (0 : Nat),
            [((4 : Nat), V.ptr (0 : Nat) (0 : Nat)), ((6 : Nat), V.ptr (1 : Nat) (0 : Nat)),
              ((7 : Nat), V.int IntKind.i64 (↑u : Int))],
            [Blk.vals [V.bool false, V.str [], V.nilSl],
              Blk.vals [V.bool true, V.str [], V.nilSl]]))))) := by kernel_rfl
theorem mkb1_x (f : Nat) (n : Nat) (u : Nat) (k : Nat) (d : Int) (p : PW) (m : Nat) (c : V) (cs : List V) : Tr.prune ((Tr.Sh.any.both
            Tr.Sh.any).l.l.l.both
  Tr.Sh.any.r.r.r.r)
  (execBYE Pr (OM f) noLoopsT (100 : Nat) Go.Proofs.Tryd.f11 (0 : Nat)
  (Tell.mk [(0 : Nat), (1 : Nat), (4 : Nat), (6 : Nat), (7 : Nat), (8 : Nat)] [(0 : Nat), (1 : Nat), (5 : Nat)]
    [(5 : Nat)])
  (Tell.mk [(4 : Nat), (6 : Nat), (7 : Nat)] [(0 : Nat), (1 : Nat), (2 : Nat)] [(2 : Nat)])
  (loopBody Go.Proofs.Tryd.f11 (0 : Nat))
  [((0 : Nat), V.isl (2 : Nat) n (pwF p)), ((1 : Nat), V.int IntKind.i64 d), ((4 : Nat), V.ptr (0 : Nat) (0 : Nat)),
    ((6 : Nat), V.ptr (1 : Nat) (0 : Nat)), ((7 : Nat), V.int IntKind.i64 (↑u : Int)),
    ((8 : Nat), V.int IntKind.i64 (↑k : Int))]
  [Blk.vals [V.bool false, V.str [], V.nilSl],
    Blk.vals [V.bool true, V.str [], V.sl (2 : Nat) (0 : Nat) (3 : Nat) (m + (1 : Nat)) none], Blk.vals (c :: cs)]) =
  Tr.chk (decide ((0 : Int) < (↑n : Int)) && (decide ((0 : Nat) < n) && true && true))
  (Tr.br
    (decide
      ((↑k : Int) <
        (↑(p.k (0 : Nat) / BitVec.ofInt (8 : Nat) (2 : Int) % BitVec.ofInt (8 : Nat) (5 : Int)).toNat : Int)))
    (Tr.chk true
      (Tr.br (decide ((↑u : Int) < (↑n : Int)))
        (Tr.chk
          (decide ((some (↑u : Int)).getD (0 : Int) ≤ none.getD (↑n : Int)) &&
                  decide (none.getD (↑n : Int) ≤ (↑n : Int)) &&
                (mkPB f
                    (MA.mk (none.getD (↑n : Int) - (some (↑u : Int)).getD (0 : Int)).toNat
                      (fun i j ↦ pwF p (((some (↑u : Int)).getD (0 : Int)).toNat + i) j)
                      (wrapI IntKind.i64 (d + (1 : Int)))) &&
                  true) &&
              (decide ((0 : Nat) + (m + (1 : Nat)) * (3 : Nat) ≤ (c :: cs).length) &&
                      (decide (m + (1 : Nat) + (1 : Nat) ≤ (281474976710656 : Nat)) &&
                          decide
                            (((2 : Nat) * (m + (1 : Nat) + (1 : Nat)) + (1024 : Nat)) * (48 : Nat) ≤
                              (281474976710656 : Nat)) &&
                        true) &&
                    (List.take (3 : Nat)
                          (setCells
                            (List.replicate (1 : Nat)
                                [V.bool false, V.str (bytesOf (ByteArray.mk #[])), V.nilSl]).flatten
                            (0 : Nat)
                            ((Blk.vals
                                  [V.bool
                                      (mkI f (none.getD (↑n : Int) - (some (↑u : Int)).getD (0 : Int)).toNat fun i j ↦
                                            pwF p (((some (↑u : Int)).getD (0 : Int)).toNat + i) j).fI.b,
                                    V.str
                                      (mkI f (none.getD (↑n : Int) - (some (↑u : Int)).getD (0 : Int)).toNat fun i j ↦
                                            pwF p (((some (↑u : Int)).getD (0 : Int)).toNat + i) j).fI.s,
                                    V.isl (3 : Nat)
                                      (mkI f (none.getD (↑n : Int) - (some (↑u : Int)).getD (0 : Int)).toNat fun i j ↦
                                            pwF p (((some (↑u : Int)).getD (0 : Int)).toNat + i) j).fI.m
                                      (mkI f (none.getD (↑n : Int) - (some (↑u : Int)).getD (0 : Int)).toNat fun i j ↦
                                            pwF p (((some (↑u : Int)).getD (0 : Int)).toNat + i) j).fI.g]).atN
                              (0 : Nat) (3 : Nat)))).all
                      V.one &&
                  true &&
                true) &&
            true)
          (Tr.leaf
            (Sum.inr
              (X.normal,
                [((0 : Nat), V.isl (2 : Nat) n (pwF p)), ((1 : Nat), V.int IntKind.i64 d),
                  ((4 : Nat), V.ptr (0 : Nat) (0 : Nat)), ((6 : Nat), V.ptr (1 : Nat) (0 : Nat)),
                  ((7 : Nat),
                    V.int IntKind.i64
                      (wrapI IntKind.i64
                        ((↑u : Int) +
                          mkN f (none.getD (↑n : Int) - (some (↑u : Int)).getD (0 : Int)).toNat fun i j ↦
                            pwF p (((some (↑u : Int)).getD (0 : Int)).toNat + i) j))),
                  ((8 : Nat), V.int IntKind.i64 (wrapI IntKind.i64 ((↑k : Int) + (1 : Int))))],
                [Blk.vals [V.bool false, V.str [], V.nilSl],
                  Blk.vals [V.bool true, V.str [], V.sl (2 : Nat) (0 : Nat) (3 : Nat) (m + (1 : Nat) + (1 : Nat)) none],
                  Blk.vals
                    (List.take ((m + 1) * 3) (c :: cs) ++ [V.bool (mkI f (none.getD (↑n : Int) - (some (↑u : Int)).getD (0 : Int)).toNat fun i j ↦ pwF p (((some (↑u : Int)).getD (0 : Int)).toNat + i) j).fI.b, V.str (mkI f (none.getD (↑n : Int) - (some (↑u : Int)).getD (0 : Int)).toNat fun i j ↦ pwF p (((some (↑u : Int)).getD (0 : Int)).toNat + i) j).fI.s, V.isl 3 (mkI f (none.getD (↑n : Int) - (some (↑u : Int)).getD (0 : Int)).toNat fun i j ↦ pwF p (((some (↑u : Int)).getD (0 : Int)).toNat + i) j).fI.m (mkI f (none.getD (↑n : Int) - (some (↑u : Int)).getD (0 : Int)).toNat fun i j ↦ pwF p (((some (↑u : Int)).getD (0 : Int)).toNat + i) j).fI.g])]))))
        (Tr.leaf
          (Sum.inr
            (X.exit (0 : Nat),
              [((4 : Nat), V.ptr (0 : Nat) (0 : Nat)), ((6 : Nat), V.ptr (1 : Nat) (0 : Nat)),
                ((7 : Nat), V.int IntKind.i64 (↑u : Int))],
              [Blk.vals [V.bool false, V.str [], V.nilSl],
                Blk.vals [V.bool true, V.str [], V.sl (2 : Nat) (0 : Nat) (3 : Nat) (m + (1 : Nat)) none],
                Blk.vals (c :: cs)])))))
    (Tr.chk true
      (Tr.leaf
        (Sum.inr
          (X.exit (0 : Nat),
            [((4 : Nat), V.ptr (0 : Nat) (0 : Nat)), ((6 : Nat), V.ptr (1 : Nat) (0 : Nat)),
              ((7 : Nat), V.int IntKind.i64 (↑u : Int))],
            [Blk.vals [V.bool false, V.str [], V.nilSl],
              Blk.vals [V.bool true, V.str [], V.sl (2 : Nat) (0 : Nat) (3 : Nat) (m + (1 : Nat)) none],
              Blk.vals (c :: cs)]))))) := by kernel_rfl
theorem mkd_x (u : Int) (n : Nat) (cs : List V) : Tr.prune (Tr.Sh.any)
  (execB Pr OR5 noLoopsT (100 : Nat) (partA (1 : Nat) cM2)
  [((4 : Nat), V.ptr (0 : Nat) (0 : Nat)), ((6 : Nat), V.ptr (1 : Nat) (0 : Nat)), ((7 : Nat), V.int IntKind.i64 u)]
  [Blk.vals [V.bool false, V.str [], V.nilSl],
    Blk.vals [V.bool true, V.str [], V.sl (2 : Nat) (0 : Nat) (3 : Nat) n none], Blk.vals cs]) =
  Tr.chk true
  (Tr.leaf
    (X.normal,
      [((4 : Nat), V.ptr (0 : Nat) (0 : Nat)), ((6 : Nat), V.ptr (1 : Nat) (0 : Nat)), ((7 : Nat), V.int IntKind.i64 u),
        ((73 : Nat), V.agg [V.bool true, V.str [], V.sl (2 : Nat) (0 : Nat) (3 : Nat) n none])],
      [Blk.vals [V.bool false, V.str [], V.nilSl],
        Blk.vals [V.bool true, V.str [], V.sl (2 : Nat) (0 : Nat) (3 : Nat) n none], Blk.vals cs])) := by kernel_rfl
theorem mke_x (u : Int) (n : Nat) (F : Nat → Nat → V) : Tr.prune (Tr.Sh.any)
  (execBN Pr OR5 noLoopsT (100 : Nat) (0 : Nat) [(4 : Nat), (5 : Nat)] [] (partB (1 : Nat) cM2)
  [((4 : Nat), V.ptr (0 : Nat) (0 : Nat)), ((6 : Nat), V.ptr (1 : Nat) (0 : Nat)), ((7 : Nat), V.int IntKind.i64 u),
    ((73 : Nat), V.agg [V.bool true, V.str [], V.isl (3 : Nat) n F])]
  [Blk.vals [V.bool false, V.str [], V.nilSl],
    Blk.vals [V.bool true, V.str [], V.sl (2 : Nat) (0 : Nat) (3 : Nat) n none], Blk.dead]) =
  Tr.chk true
  (Tr.leaf
    (X.normal, [((4 : Nat), V.ptr (0 : Nat) (0 : Nat)), ((5 : Nat), V.int IntKind.i64 u)],
      [Blk.vals [V.bool true, V.str [], V.isl (3 : Nat) n F]])) := by kernel_rfl
theorem mkg_x (u : Int) (n : Nat) (F : Nat → Nat → V) : Tr.prune (Tr.Sh.any)
  (execBR Pr OR5 noLoopsT (100 : Nat) Go.Proofs.Tryd.f11 (0 : Nat) (tailC cM2)
  [((4 : Nat), V.ptr (0 : Nat) (0 : Nat)), ((5 : Nat), V.int IntKind.i64 u)]
  [Blk.vals [V.bool true, V.str [], V.isl (3 : Nat) n F]]) =
  Tr.chk true
  (Tr.leaf
    (Fin.ret (V.tup [V.agg [V.bool true, V.str [], V.isl (3 : Nat) n F], V.int IntKind.i64 u]), [])) := by kernel_rfl
theorem mkz_x (u : Int) : Tr.prune (Tr.Sh.any)
  (execBR Pr OR5 noLoopsT (100 : Nat) Go.Proofs.Tryd.f11 (0 : Nat) cM2
  [((4 : Nat), V.ptr (0 : Nat) (0 : Nat)), ((6 : Nat), V.ptr (1 : Nat) (0 : Nat)), ((7 : Nat), V.int IntKind.i64 u)]
  [Blk.vals [V.bool false, V.str [], V.nilSl], Blk.vals [V.bool true, V.str [], V.nilSl]]) =
  Tr.chk true
  (Tr.leaf (Fin.ret (V.tup [V.agg [V.bool true, V.str [], V.nilSl], V.int IntKind.i64 u]), [])) := by kernel_rfl
end
end Go.Proofs.YtnafebinaheclaaDoor.K
end
section
open Go Go.Lh
namespace Go.Proofs.YtnafebinaheclaaDoor.K
noncomputable section
set_option maxRecDepth 100000
theorem mkF_nil (f : Nat) : mkF f [] = (.txt [], 0) := by cases f <;> rfl
theorem mkL_nil (dec : List Pt → It × Nat) (c : Nat) : mkL dec c [] = ([], 0) := by cases c <;> rfl
mutual
theorem mkF_le : ∀ (f : Nat) (l : List Pt), (mkF f l).2 ≤ l.length ∧ (l ≠ [] → 1 ≤ (mkF f l).2)
  | f, [] => by rw [mkF_nil]; exact ⟨Nat.le_refl _, fun h => absurd rfl h⟩
  | 0, p :: r => by rw [mkF]; exact ⟨by simp, fun _ => Nat.le_refl _⟩
  | f + 1, p :: r => by
    rw [mkF]
    split
    · exact ⟨by simp, fun _ => Nat.le_refl _⟩
    · have := mkL_le f (p.1.toNat / 2 % 5) r
      simp only [List.length_cons]
      exact ⟨by omega, fun _ => by omega⟩
theorem mkL_le : ∀ (f c : Nat) (l : List Pt), (mkL (mkF f) c l).2 ≤ l.length
  | f, 0, l => by rw [mkL]; exact Nat.zero_le _
  | f, c + 1, [] => by rw [mkL]; exact Nat.zero_le _
  | f, c + 1, p :: r => by
    rw [mkL]
    have h1 := (mkF_le f (p :: r)).1
    have h2 := mkL_le f c ((p :: r).drop (mkF f (p :: r)).2)
    rw [List.length_drop] at h2
    simp only at h2 ⊢
    omega
end
theorem ptsOf_len (n : Nat) (F : Nat → Nat → V) : (ptsOf n F).length = n := by simp [ptsOf]
theorem ptsOf_at (n : Nat) (F : Nat → Nat → V) (i : Nat) (h : i < n) : (ptsOf n F)[i]? = some (kOfV (F i 0), sOfV (F i 1)) := by
  unfold ptsOf
  rw [List.getElem?_map, List.getElem?_range h]; rfl
theorem ptsOf_drop (n u : Nat) (p : PW) : ptsOf (n - u) (fun i j => pwF p (u + i) j) = (ptsOf n (pwF p)).drop u := by
  refine List.ext_getElem? fun i => ?_
  rw [List.getElem?_drop]
  rcases Nat.lt_or_ge i (n - u) with h | h
  · rw [ptsOf_at _ _ _ h, ptsOf_at _ _ _ (by omega)]
  · rw [List.getElem?_eq_none (by rw [ptsOf_len]; exact h), List.getElem?_eq_none (by rw [ptsOf_len]; omega)]
theorem ptsOf_cons (n : Nat) (p : PW) (h : 0 < n) : ptsOf n (pwF p) = (p.k 0, p.s 0) :: (ptsOf n (pwF p)).drop 1 := by
  have h0 := ptsOf_at n (pwF p) 0 h
  cases hl : ptsOf n (pwF p) with
  | nil => rw [hl] at h0; cases h0
  | cons x r => rw [hl] at h0; cases h0; rfl
theorem take_min (s : List B) : List.take (min s.length 300) s = s.take 300 := by
  rcases Nat.le_total s.length 300 with h | h
  · rw [Nat.min_eq_left h, List.take_length, List.take_of_length_le h]
  · rw [Nat.min_eq_right h]
def finM (q : It × Nat) : Fin × Heap := (.ret (.tup [rawI q.1, .int .i64 (q.2 : Int)]), [])
structure MS where
  l : List It
  u : Nat
def mk_S (n : Nat) (p : PW) (d : Int) (a : MS) : Fr × Heap := ([(0,.isl 2 n (pwF p)),(1,.int .i64 d),(4,.ptr 0 0),(6,.ptr 1 0),(7,.int .i64 (a.u : Int)),(8,.int .i64 (a.l.length : Int))], match a.l with
  | [] => [.vals [.bool false,.str [],.nilSl], .vals [.bool true,.str [],.nilSl]]
  | x :: r => [.vals [.bool false,.str [],.nilSl], .vals [.bool true,.str [],.sl 2 0 3 (r.length + 1) none], .vals (cellsL (x :: r))])
theorem clo_23 {x : Nat} {ts : List Nat} {c0 c1 : Blk} {cs : List V} (hx : 2 ≤ x) (hc : ∀ v, v ∈ cs → v.clo = true) : Tell.clo ⟨ts, [0, 1, x], [x]⟩ [c0, c1, .vals cs] := by
  intro k i b hk hm hb cs' e
  have hm := (memN_iff i [x]).1 hm
  rw [List.mem_singleton] at hm
  subst hm
  match k, hk, hb with
  | 0, hk, _ => simp at hk; omega
  | 1, hk, _ => simp at hk; omega
  | 2, _, hb => simp at hb; subst hb; cases e; exact hc
  | k + 3, hk, _ => simp at hk
/-- the end: what was made is handed back -/
theorem mk_end (l : List It) (u : Nat) : EndsIn Pr Go.Proofs.Tryd.f11 0 cM2 [(4,.ptr 0 0),(6,.ptr 1 0),(7,.int .i64 (u : Int))] (match l with
  | [] => [.vals [.bool false,.str [],.nilSl], .vals [.bool true,.str [],.nilSl]]
  | x :: r => [.vals [.bool false,.str [],.nilSl], .vals [.bool true,.str [],.sl 2 0 3 (r.length + 1) none], .vals (cellsL (x :: r))]) (finM (.lst l, u)).1 [] := by
  cases l with
  | nil => exact EndsIn.last (T := OR5) OR5_sound mixed noLoops_all (by kernel_rfl) (mkz_x u) (tr1 rfl rfl)
  | cons x r =>
    refine EndsIn.two (T := OR5) (fuel := 100) (on := [4,5]) (fr3 := [(4,.ptr 0 0),(5,.int .i64 (u : Int))]) (h3 := [.vals [.bool true,.str [],.isl 3 (r.length + 1) (frzC (cellsL (x :: r)) 0 3)]]) 1 OR5_sound mixed (by kernel_rfl) (by kernel_rfl)
      (tree_is (mkd_x u (r.length + 1) (cellsL (x :: r))) rfl) (.inr ⟨2, cellsL (x :: r), rfl, cellsL_clo _, rfl, rfl⟩) ?_ ?_
    · exact tree_is (mke_x u (r.length + 1) (frzC (cellsL (x :: r)) 0 3)) rfl
    · exact EndsIn.last (T := OR5) OR5_sound mixed noLoops_all (by kernel_rfl) (mkg_x u (r.length + 1) (frzC (cellsL (x :: r)) 0 3)) (tr1 rfl rfl)
theorem mk_count (b : B) : (b / BitVec.ofInt 8 2 % BitVec.ofInt 8 5).toNat = b.toNat / 2 % 5 := by
  rw [BitVec.toNat_umod, BitVec.toNat_udiv, show (BitVec.ofInt 8 2).toNat = 2 by decide, show (BitVec.ofInt 8 5).toNat = 5 by decide]
theorem mk_loop {f : Nat} (hf : MkOk f) (h61 : f + 1 ≤ 61) (n : Nat) (p : PW) (hn : n ≤ 1000) (h0 : 0 < n) :
    EndsIn Pr Go.Proofs.Tryd.f11 0 cM1 [(0,.isl 2 n (pwF p)),(1,.int .i64 (60 - (f : Int))),(4,.ptr 0 0),(6,.ptr 1 0),(7,.int .i64 ((1 : Nat) : Int))] [.vals [.bool false,.str [],.nilSl], .vals [.bool true,.str [],.nilSl]] (finM (.lst (mkL (mkF f) ((p.k 0).toNat / 2 % 5) ((ptsOf n (pwF p)).drop 1)).1, 1 + (mkL (mkF f) ((p.k 0).toNat / 2 % 5) ((ptsOf n (pwF p)).drop 1)).2)).1 [] := by
  have e : cM1 = .seq (.seq (headC (headC cM1)) (.block 0 (.loop (Go.Lh.loopBody Go.Proofs.Tryd.f11 0)))) cM2 := by kernel_rfl
  have hd7 : dstsIn (Go.Proofs.Tryd.f11).ntmps (headC (headC cM1)) = true := by kernel_rfl
  have t7 := tree_is (mkr_x n 1 (60 - (f : Int)) p) rfl
  generalize hc : (p.k 0).toNat / 2 % 5 = c
  generalize hP : ptsOf n (pwF p) = P
  have hPl : P.length = n := by rw [← hP, ptsOf_len]
  generalize hL : mkL (mkF f) c (P.drop 1) = L
  rw [e]
  refine Runs.seq (Runs.seq ?_)
  refine (execBY_sound (n0 := 0) OR5_sound mixed _ noLoops_all _ _ _ _ _ hd7 t7).mono ?_
  rintro y f0 g ⟨rfl, hw⟩
  refine Runs.weaken hw ?_
  refine Runs.loopY (T := OM f) (L := noLoopsT) (mk_S n p (60 - (f : Int))) (fun a => c - a.l.length) (fun a => a.l.length ≤ c ∧ a.u ≤ n ∧ a.l ++ (mkL (mkF f) (c - a.l.length) (P.drop a.u)).1 = L.1 ∧ a.u + (mkL (mkF f) (c - a.l.length) (P.drop a.u)).2 = 1 + L.2) (OM_sound hf) mixed noLoops_all (by kernel_rfl) ?_ (a0 := ⟨[], 1⟩) ⟨Nat.zero_le _, h0, by simp only [List.nil_append, List.length_nil, Nat.sub_zero]; rw [hL], by simp only [List.length_nil, Nat.sub_zero]; rw [hL]⟩
  rintro ⟨l, u⟩ ⟨hlc, hun, hl1, hl2⟩
  simp only at hlc hun hl1 hl2
  have hc5 : c < 5 := by rw [← hc]; exact Nat.mod_lt _ (by decide)
  have hkc : (p.k 0 / BitVec.ofInt 8 2 % BitVec.ofInt 8 5).toNat = c := by rw [mk_count, hc]
  have hdd : wrapI .i64 (60 - (f : Int) + 1) = 61 - (f : Int) := by rw [show (60 : Int) - f + 1 = ((61 - f : Nat) : Int) by omega, wrapI_nat (by omega)]; omega
  have hsub : ((n : Int) - (u : Int)).toNat = n - u := by omega
  have hPB : mkPB f (MA.mk (n - u) (fun i j => pwF p (u + i) j) (61 - (f : Int))) = true := by
    refine @decide_eq_true _ (Classical.propDecidable _) ⟨rfl, by omega, by simp only; omega, ⟨⟨fun i => p.k (u + i), fun i => p.s (u + i)⟩, ?_⟩⟩
    rfl
  have hpts : ptsOf (n - u) (fun i j => pwF p (u + i) j) = P.drop u := by rw [ptsOf_drop, hP]
  have hI : mkI f (n - u) (fun i j => pwF p (u + i) j) = (mkF f (P.drop u)).1 := by unfold mkI; rw [if_pos trivial, hpts]
  have hN : mkN f (n - u) (fun i j => pwF p (u + i) j) = ((mkF f (P.drop u)).2 : Int) := by unfold mkN; rw [if_pos trivial, hpts]
  have hle := mkF_le f (P.drop u)
  rw [List.length_drop, hPl] at hle
  have hwu : wrapI .i64 ((u : Int) + ((mkF f (P.drop u)).2 : Int)) = ((u + (mkF f (P.drop u)).2 : Nat) : Int) := by rw [show (u : Int) + ((mkF f (P.drop u)).2 : Int) = ((u + (mkF f (P.drop u)).2 : Nat) : Int) by omega, wrapI_nat (by omega)]
  have hwl : wrapI .i64 ((l.length : Int) + 1) = ((l.length + 1 : Nat) : Int) := by rw [show (l.length : Int) + 1 = ((l.length + 1 : Nat) : Int) by omega, wrapI_nat (by omega)]
  -- one more
  have next : l.length < c → u < n → (l ++ [(mkF f (P.drop u)).1]).length ≤ c ∧ u + (mkF f (P.drop u)).2 ≤ n ∧ (l ++ [(mkF f (P.drop u)).1]) ++ (mkL (mkF f) (c - (l ++ [(mkF f (P.drop u)).1]).length) (P.drop (u + (mkF f (P.drop u)).2))).1 = L.1 ∧ u + (mkF f (P.drop u)).2 + (mkL (mkF f) (c - (l ++ [(mkF f (P.drop u)).1]).length) (P.drop (u + (mkF f (P.drop u)).2))).2 = 1 + L.2 := by
    intro h1 h2
    rw [show c - l.length = (c - (l.length + 1)) + 1 by omega] at hl1 hl2
    have hne : P.drop u ≠ [] := by
      intro e
      have := congrArg List.length e
      rw [List.length_drop, hPl, List.length_nil] at this; omega
    have e3 : P.drop (u + (mkF f (P.drop u)).2) = (P.drop u).drop (mkF f (P.drop u)).2 := by rw [List.drop_drop]
    rw [List.length_append, List.length_singleton, e3]
    refine ⟨by omega, by omega, ?_⟩
    cases hq : P.drop u with
    | nil => exact absurd hq hne
    | cons a r =>
      rw [hq, mkL] at hl1 hl2
      simp only at hl1 hl2
      rw [List.append_assoc, List.singleton_append]
      exact ⟨hl1, by omega⟩
  -- the end
  have last : (l.length = c ∨ n ≤ u) → l = L.1 ∧ u = 1 + L.2 := by
    intro h
    have : mkL (mkF f) (c - l.length) (P.drop u) = ([], 0) := by
      rcases h with h | h
      · rw [h, Nat.sub_self]; rfl
      · rw [List.drop_eq_nil_of_le (by rw [hPl]; exact h), mkL_nil]
    rw [this] at hl1 hl2
    simp only [List.append_nil] at hl1 hl2
    exact ⟨hl1, by omega⟩
  cases l with
  | nil =>
    have hS : mk_S n p (60 - (f : Int)) ⟨[], u⟩ = ([(0,.isl 2 n (pwF p)),(1,.int .i64 (60 - (f : Int))),(4,.ptr 0 0),(6,.ptr 1 0),(7,.int .i64 (u : Int)),(8,.int .i64 ((0 : Nat) : Int))], [.vals [.bool false,.str [],.nilSl], .vals [.bool true,.str [],.nilSl]]) := rfl
    rw [hS]
    refine ⟨⟨[0,1,4,6,7,8],[0,1,4],[4]⟩, ⟨[4,6,7],[0,1],[]⟩, 100, ?_⟩
    dsimp only
    have hT := mkb0_x f n u 0 (60 - (f : Int)) p
    revert hT
    generalize (execBYE Pr (OM f) noLoopsT 100 Go.Proofs.Tryd.f11 0 ⟨[0,1,4,6,7,8],[0,1,4],[4]⟩ ⟨[4,6,7],[0,1],[]⟩ (Go.Lh.loopBody Go.Proofs.Tryd.f11 0) [(0,.isl 2 n (pwF p)),(1,.int .i64 (60 - (f : Int))),(4,.ptr 0 0),(6,.ptr 1 0),(7,.int .i64 (u : Int)),(8,.int .i64 ((0 : Nat) : Int))] [.vals [.bool false,.str [],.nilSl], .vals [.bool true,.str [],.nilSl]]) = E
    intro hT
    refine Tr.wp_prune hT ?_
    rw [Option.getD_none, Option.getD_some, hdd, hsub, Int.toNat_natCast, hPB, hI, hN, hkc, hwu]
    refine wp_chk.2 ⟨by simp only [Bool.and_true, Bool.and_eq_true, decide_eq_true_eq]; omega, wp_br.2 ⟨fun h1 => wp_chk_true.2 (wp_br.2 ⟨fun h2 => wp_chk.2 ⟨by simp only [Bool.and_true, Bool.and_eq_true, decide_eq_true_eq]; omega, wp_leaf.2 ⟨clo_23 (by decide) ?_, .inl ⟨⟨[(mkF f (P.drop u)).1], u + (mkF f (P.drop u)).2⟩, ?_, ?_, ?_⟩⟩⟩, fun h2 => wp_leaf.2 ⟨clo_nil, .inr ⟨_, _, rfl, fun f' g' hw => ?_⟩⟩⟩), fun h1 => wp_chk_true.2 (wp_leaf.2 ⟨clo_nil, .inr ⟨_, _, rfl, fun f' g' hw => ?_⟩⟩)⟩⟩
    · intro v hv
      simp only [List.mem_cons, List.not_mem_nil, or_false] at hv
      rcases hv with rfl | rfl | rfl <;> rfl
    · have hwl := hwl
      simp only [List.length_nil] at hwl
      rw [show ((0 : Nat) : Int) = ((0 : Nat) : Int) from rfl, hwl]; rfl
    · exact next (by have := of_decide_eq_true h1; simpa using this) (by have := of_decide_eq_true h2; omega)
    · have := of_decide_eq_true h1
      simp only [List.length_singleton, List.length_nil]; omega
    · obtain ⟨q1, q2⟩ := last (.inr (by have := of_decide_eq_false h2; omega))
      simp only [thenX]
      rw [← q1, ← q2]
      exact Runs.weaken hw (mk_end [] u)
    · obtain ⟨q1, q2⟩ := last (.inl (by have := of_decide_eq_false h1; simp only [List.length_nil]; omega))
      simp only [thenX]
      rw [← q1, ← q2]
      exact Runs.weaken hw (mk_end [] u)
  | cons y r =>
    obtain ⟨c0, cs, ec⟩ : ∃ c0 cs, cellsL (y :: r) = c0 :: cs := ⟨_, _, rfl⟩
    have hS : mk_S n p (60 - (f : Int)) ⟨y :: r, u⟩ = ([(0,.isl 2 n (pwF p)),(1,.int .i64 (60 - (f : Int))),(4,.ptr 0 0),(6,.ptr 1 0),(7,.int .i64 (u : Int)),(8,.int .i64 ((r.length + 1 : Nat) : Int))], [.vals [.bool false,.str [],.nilSl], .vals [.bool true,.str [],.sl 2 0 3 (r.length + 1) none], .vals (c0 :: cs)]) := by rw [← ec]; rfl
    have hlen : (c0 :: cs).length = (r.length + 1) * 3 := by rw [← ec, cellsL_len]; rfl
    have hcs : List.take ((r.length + 1) * 3) (c0 :: cs) = cellsL (y :: r) := by rw [← hlen, List.take_length, ec]
    rw [hS]
    refine ⟨⟨[0,1,4,6,7,8],[0,1,5],[5]⟩, ⟨[4,6,7],[0,1,2],[2]⟩, 100, ?_⟩
    dsimp only
    have hT := mkb1_x f n u (r.length + 1) (60 - (f : Int)) p r.length c0 cs
    revert hT
    generalize (execBYE Pr (OM f) noLoopsT 100 Go.Proofs.Tryd.f11 0 ⟨[0,1,4,6,7,8],[0,1,5],[5]⟩ ⟨[4,6,7],[0,1,2],[2]⟩ (Go.Lh.loopBody Go.Proofs.Tryd.f11 0) [(0,.isl 2 n (pwF p)),(1,.int .i64 (60 - (f : Int))),(4,.ptr 0 0),(6,.ptr 1 0),(7,.int .i64 (u : Int)),(8,.int .i64 ((r.length + 1 : Nat) : Int))] [.vals [.bool false,.str [],.nilSl], .vals [.bool true,.str [],.sl 2 0 3 (r.length + 1) none], .vals (c0 :: cs)]) = E
    intro hT
    refine Tr.wp_prune hT ?_
    rw [Option.getD_none, Option.getD_some, hdd, hsub, Int.toNat_natCast, hPB, hI, hN, hkc, hwu, hcs]
    simp only [List.length_cons] at hwl hlc next last
    refine wp_chk.2 ⟨by simp only [Bool.and_true, Bool.and_eq_true, decide_eq_true_eq]; omega, wp_br.2 ⟨fun h1 => wp_chk_true.2 (wp_br.2 ⟨fun h2 => wp_chk.2 ⟨?_, wp_leaf.2 ⟨clo_23 (by decide) ?_, .inl ⟨⟨(y :: r) ++ [(mkF f (P.drop u)).1], u + (mkF f (P.drop u)).2⟩, ?_, ?_, ?_⟩⟩⟩, fun h2 => wp_leaf.2 ⟨?_, .inr ⟨_, _, rfl, fun f' g' hw => ?_⟩⟩⟩), fun h1 => wp_chk_true.2 (wp_leaf.2 ⟨?_, .inr ⟨_, _, rfl, fun f' g' hw => ?_⟩⟩)⟩⟩
    · have e1 : ∀ x : FI, (List.take 3 (setCells (List.replicate 1 [V.bool false, V.str (bytesOf (ByteArray.mk #[])), V.nilSl]).flatten 0 ((Blk.vals [V.bool x.b, V.str x.s, V.isl 3 x.m x.g]).atN 0 3))).all V.one = true := fun x => rfl
      rw [e1, hlen]
      simp only [Bool.and_true, Bool.true_and, Bool.and_eq_true, decide_eq_true_eq]; omega
    · intro v hv
      rcases List.mem_append.1 hv with hv | hv
      · exact cellsL_clo _ v hv
      · simp only [List.mem_cons, List.not_mem_nil, or_false] at hv
        rcases hv with rfl | rfl | rfl <;> rfl
    · have e2 : mk_S n p (60 - (f : Int)) ⟨(y :: r) ++ [(mkF f (P.drop u)).1], u + (mkF f (P.drop u)).2⟩ = ([(0,.isl 2 n (pwF p)),(1,.int .i64 (60 - (f : Int))),(4,.ptr 0 0),(6,.ptr 1 0),(7,.int .i64 ((u + (mkF f (P.drop u)).2 : Nat) : Int)),(8,.int .i64 (((r ++ [(mkF f (P.drop u)).1]).length + 1 : Nat) : Int))], [.vals [.bool false,.str [],.nilSl], .vals [.bool true,.str [],.sl 2 0 3 ((r ++ [(mkF f (P.drop u)).1]).length + 1) none], .vals (cellsL ((y :: r) ++ [(mkF f (P.drop u)).1]))]) := rfl
      rw [e2, cellsL_snoc, List.length_append, List.length_singleton, hwl]
      rfl
    · exact next (by have := of_decide_eq_true h1; omega) (by have := of_decide_eq_true h2; omega)
    · have := of_decide_eq_true h1
      simp only [List.length_append, List.length_cons, List.length_singleton]; omega
    · rw [← ec]; exact clo_23 (by decide) (cellsL_clo _)
    · obtain ⟨q1, q2⟩ := last (.inr (by have := of_decide_eq_false h2; omega))
      simp only [thenX]
      rw [← q1, ← q2]
      rw [← ec] at hw
      exact Runs.weaken hw (mk_end (y :: r) u)
    · rw [← ec]; exact clo_23 (by decide) (cellsL_clo _)
    · obtain ⟨q1, q2⟩ := last (.inl (by have := of_decide_eq_false h1; omega))
      simp only [thenX]
      rw [← q1, ← q2]
      rw [← ec] at hw
      exact Runs.weaken hw (mk_end (y :: r) u)
end
end Go.Proofs.YtnafebinaheclaaDoor.K
end
section
open Go Go.Lh
namespace Go.Proofs.YtnafebinaheclaaDoor.K
noncomputable section
set_option maxRecDepth 100000
theorem mk_even (b : B) : (b % BitVec.ofInt 8 2 == BitVec.ofInt 8 0) = decide (b.toNat % 2 = 0) := by
  have h : (b % BitVec.ofInt 8 2).toNat = b.toNat % 2 := by rw [BitVec.toNat_umod, show (BitVec.ofInt 8 2).toNat = 2 by decide]
  by_cases hb : b.toNat % 2 = 0
  · rw [decide_eq_true hb, beq_iff_eq]
    apply BitVec.eq_of_toNat_eq
    rw [h, hb]; decide
  · rw [decide_eq_false hb, beq_eq_false_iff_ne]
    intro e
    have := congrArg BitVec.toNat e
    rw [h, show (BitVec.ofInt 8 0).toNat = 0 by decide] at this
    exact hb this
theorem mk_step (f : Nat) (hf : ∀ e, f = e + 1 → MkOk e) (h61 : f ≤ 61) (n : Nat) (p : PW) (hn : n ≤ 1000) :
    LFn Pr 11 [.isl 2 n (pwF p), .int .i64 (61 - (f : Int))] [] (finM (mkF f (ptsOf n (pwF p)))).1 [] := by
  refine EndsIn.done (fn := Go.Proofs.Tryd.f11) (by kernel_rfl) (by kernel_rfl) (by kernel_rfl) ?_
  refine EndsIn.cutY (L := noLoopsT) 4 OR5_sound mixed (by kernel_rfl) noLoops_all (by kernel_rfl) (mka_x n (61 - (f : Int)) p) ?_
  refine wp_chk_true.2 (wp_br.2 ⟨fun h => ?_, fun h => ?_⟩)
  · have h0 : n = 0 := by have := eq_of_beq h; omega
    subst h0
    have : ptsOf 0 (pwF p) = [] := rfl
    rw [this, mkF_nil]
    exact wp_chk_true.2 (wp_leaf.2 ⟨trivial, .inr ⟨_, rfl, .inl rfl⟩⟩)
  · have h0 : 0 < n := by
      rcases Nat.eq_zero_or_pos n with h9 | h9
      · rw [h9] at h; cases h
      · exact h9
    have hmin : (if (300 : Int) < ((p.s 0).length : Int) then (300 : Int) else ((p.s 0).length : Int)) = ((min (p.s 0).length 300 : Nat) : Int) := by split <;> omega
    have hc := ptsOf_cons n p h0
    rw [mk_even, hmin, Option.getD_some, Int.toNat_natCast, take_min]
    refine wp_chk.2 ⟨by simp only [Bool.and_true, Bool.and_eq_true, decide_eq_true_eq]; omega, wp_br.2 ⟨fun h1 => wp_chk.2 ⟨by simp only [Bool.and_true, Bool.and_eq_true, decide_eq_true_eq]; omega, wp_leaf.2 ⟨trivial, .inr ⟨_, ?_, .inl rfl⟩⟩⟩, fun h1 => wp_chk_true.2 (wp_br.2 ⟨fun h2 => wp_chk.2 ⟨by simp only [Bool.and_true, Bool.and_eq_true, decide_eq_true_eq]; omega, wp_leaf.2 ⟨trivial, .inr ⟨_, ?_, .inl rfl⟩⟩⟩, fun h2 => wp_chk_true.2 (wp_leaf.2 ⟨clo_nil, .inl ⟨_, _, rfl, ?_⟩⟩)⟩)⟩⟩
    · have h1 := of_decide_eq_true h1
      have : mkF f (ptsOf n (pwF p)) = (.txt ((p.s 0).take 300), 1) := by
        rw [hc]
        cases f with
        | zero => rw [mkF]
        | succ e => rw [mkF, if_pos h1]
      rw [this]; rfl
    · have h2 := of_decide_eq_true h2
      have e0 : f = 0 := by omega
      subst e0
      have : mkF 0 (ptsOf n (pwF p)) = (.txt ((p.s 0).take 300), 1) := by rw [hc, mkF]
      rw [this]; rfl
    · have h1 := of_decide_eq_false h1
      have h2 := of_decide_eq_false h2
      obtain ⟨e, rfl⟩ : ∃ e, f = e + 1 := ⟨f - 1, by omega⟩
      have hd : (61 : Int) - ((e + 1 : Nat) : Int) = 60 - (e : Int) := by omega
      have hm : mkF (e + 1) (ptsOf n (pwF p)) = (.lst (mkL (mkF e) ((p.k 0).toNat / 2 % 5) ((ptsOf n (pwF p)).drop 1)).1, 1 + (mkL (mkF e) ((p.k 0).toNat / 2 % 5) ((ptsOf n (pwF p)).drop 1)).2) := by
        generalize (ptsOf n (pwF p)).drop 1 = r at hc
        rw [hc, mkF, if_neg h1]
      rw [hm, hd]
      exact mk_loop (hf e rfl) h61 n p hn h0
theorem mk_all : ∀ f, MkOk f := by
  intro f
  induction f with
  | zero => exact go 0 (fun e h => by cases h)
  | succ f ih => exact go (f + 1) (fun e h => by cases h; exact ih)
where
  go (f : Nat) (hf : ∀ e, f = e + 1 → MkOk e) : MkOk f := by
    refine ctT_ok (fun a => [.isl 2 a.n a.F, .int .i64 a.d]) (fun _ => []) ?_ (fun a r h => ?_)
    · intro args h a e
      unfold mk_read at e
      split at e <;> cases e <;> exact ⟨rfl, rfl⟩
    · obtain ⟨n, F, d⟩ := a
      rw [mk_f, Tr.is_chk, Tr.is_leaf] at h
      obtain ⟨h1, rfl⟩ := h
      obtain ⟨hd, h61, hn, p, hF⟩ : mkP f ⟨n, F, d⟩ := @of_decide_eq_true _ (Classical.propDecidable _) h1
      simp only at hd hn hF
      subst hd
      subst hF
      have hI : mkI f n (pwF p) = (mkF f (ptsOf n (pwF p))).1 := by unfold mkI; rw [if_pos trivial]
      have hN : mkN f n (pwF p) = ((mkF f (ptsOf n (pwF p))).2 : Int) := by unfold mkN; rw [if_pos trivial]
      simp only
      rw [hI, hN]
      exact LFn.wkRet (mk_step f hf h61 n p hn) (.tup2 (rawI_wk _) (.refl _))
/-! ### how deep, how long -/
mutual
theorem mkF_dep : ∀ (f : Nat) (l : List Pt), (mkF f l).1.dep ≤ f
  | f, [] => by rw [mkF_nil, It.dep]; exact Nat.zero_le _
  | 0, p :: r => by rw [mkF, It.dep]; exact Nat.zero_le _
  | f + 1, p :: r => by
    rw [mkF]
    split
    · rw [It.dep]; exact Nat.zero_le _
    · have := mkL_dep f (p.1.toNat / 2 % 5) r
      rw [It.dep]; omega
theorem mkL_dep : ∀ (f c : Nat) (l : List Pt), It.deps (mkL (mkF f) c l).1 ≤ f
  | f, 0, l => by rw [mkL, It.deps]; exact Nat.zero_le _
  | f, c + 1, [] => by rw [mkL, It.deps]; exact Nat.zero_le _
  | f, c + 1, p :: r => by
    have h1 := mkF_dep f (p :: r)
    have h2 := mkL_dep f c ((p :: r).drop (mkF f (p :: r)).2)
    rw [mkL, It.deps]
    exact Nat.max_le.2 ⟨h1, h2⟩
end
theorem txt300 (s : List B) : (enc (.txt (s.take 300))).length ≤ 303 := by
  rw [enc_txt_eq]
  split
  · rename_i h; omega
  · rw [List.length_append]
    have h1 : (s.take 300).length ≤ 300 := by rw [List.length_take]; omega
    have := headO_hl 128#8 (s.take 300).length (by omega)
    have : hl (s.take 300).length ≤ 3 := by unfold hl; split <;> (try split) <;> omega
    omega
mutual
theorem mkF_len : ∀ (f : Nat) (l : List Pt), l ≠ [] → (enc (mkF f l).1).length ≤ 310 * (mkF f l).2
  | f, [], h => absurd rfl h
  | 0, p :: r, _ => by rw [mkF]; have := txt300 p.2; simp only; omega
  | f + 1, p :: r, _ => by
    rw [mkF]
    split
    · have := txt300 p.2; simp only; omega
    · have h := mkL_len f (p.1.toNat / 2 % 5) r
      simp only
      rw [enc_lst, List.length_append]
      have := headO_len 192#8 (encs (mkL (mkF f) (p.1.toNat / 2 % 5) r).1).length
      omega
theorem mkL_len : ∀ (f c : Nat) (l : List Pt), (encs (mkL (mkF f) c l).1).length ≤ 310 * (mkL (mkF f) c l).2
  | f, 0, l => by rw [mkL, encs_nil]; exact Nat.zero_le _
  | f, c + 1, [] => by rw [mkL, encs_nil]; exact Nat.zero_le _
  | f, c + 1, p :: r => by
    have h1 := mkF_len f (p :: r) (by simp)
    have h2 := mkL_len f c ((p :: r).drop (mkF f (p :: r)).2)
    rw [mkL, encs_cons, List.length_append]
    simp only
    omega
end
/-- what is made of at most 60 parts -/
theorem mk_60 (l : List Pt) (h : l.length ≤ 60) : (enc (mkF 61 l).1).length ≤ 18600 ∧ (mkF 61 l).1.dep ≤ 61 := by
  refine ⟨?_, mkF_dep 61 l⟩
  cases l with
  | nil =>
    rw [mkF_nil, enc_txt_eq, if_neg (by simp), List.length_append]
    have := headO_len 128#8 ([] : List B).length
    simp only [List.length_nil] at this ⊢; omega
  | cons p r =>
    have h1 := mkF_len 61 (p :: r) (by simp)
    have h2 := (mkF_le 61 (p :: r)).1
    omega
end
end Go.Proofs.YtnafebinaheclaaDoor.K
end
section
open Go Go.Lh
namespace Go.Proofs.YtnafebinaheclaaDoor.K
noncomputable section
set_option maxRecDepth 100000
def KB : KnownT := (11, ctT mk_read (mk_f 61)) :: KL
theorem KB_ok : KOkT Pr KB := KOkT.cons (Enters.of (fn := Go.Proofs.Tryd.f11) (by kernel_rfl) (by kernel_rfl)) (mk_all 61) KL_ok
def OB : OrcT := autoT Pr ext KB [23,19] 3
theorem OB_sound : OrcSound Pr OB.o := autoT_sound mixed ext_ok KB_ok (by kernel_rfl) 3
def cB1 : Code := dropSeq 3 (bodyOf Go.Proofs.Tryd.f5)
def cB2 : Code := dropSeq 0 cB1
theorem lb1_x (n : Nat) (p : PW) (c : BitVec 16) : Tr.prune (Tr.Sh.any.r)
  (execBYE Pr OB noLoopsT (100 : Nat) Go.Proofs.Tryd.f5 (0 : Nat)
  (Tell.mk [(1 : Nat), (5 : Nat), (6 : Nat)] [(0 : Nat)] []) (Tell.mk [] [] [])
  (takeSeq (3 : Nat) (bodyOf Go.Proofs.Tryd.f5)) [((0 : Nat), V.isl (2 : Nat) n (pwF p)), ((1 : Nat), V.u16 c)] []) =
  Tr.chk
  (decide ((0 : Int) ≤ (some (if (60 : Int) < (↑n : Int) then (60 : Int) else (↑n : Int))).getD (↑n : Int)) &&
      decide ((some (if (60 : Int) < (↑n : Int) then (60 : Int) else (↑n : Int))).getD (↑n : Int) ≤ (↑n : Int)) &&
    (mkPB (61 : Nat)
        (MA.mk ((some (if (60 : Int) < (↑n : Int) then (60 : Int) else (↑n : Int))).getD (↑n : Int) - (0 : Int)).toNat
          (fun i j ↦ pwF p ((none.getD (0 : Int)).toNat + i) j) (0 : Int)) &&
      true))
  (Tr.leaf
    (Sum.inr
      (X.normal, [((1 : Nat), V.u16 c), ((5 : Nat), V.bool true), ((6 : Nat), V.ptr (0 : Nat) (0 : Nat))],
        [Blk.vals
            [V.bool
                (mkI (61 : Nat)
                      ((some (if (60 : Int) < (↑n : Int) then (60 : Int) else (↑n : Int))).getD (↑n : Int) -
                          (0 : Int)).toNat
                      fun i j ↦ pwF p ((none.getD (0 : Int)).toNat + i) j).fI.b,
              V.str
                (mkI (61 : Nat)
                      ((some (if (60 : Int) < (↑n : Int) then (60 : Int) else (↑n : Int))).getD (↑n : Int) -
                          (0 : Int)).toNat
                      fun i j ↦ pwF p ((none.getD (0 : Int)).toNat + i) j).fI.s,
              V.isl (3 : Nat)
                (mkI (61 : Nat)
                      ((some (if (60 : Int) < (↑n : Int) then (60 : Int) else (↑n : Int))).getD (↑n : Int) -
                          (0 : Int)).toNat
                      fun i j ↦ pwF p ((none.getD (0 : Int)).toNat + i) j).fI.m
                (mkI (61 : Nat)
                      ((some (if (60 : Int) < (↑n : Int) then (60 : Int) else (↑n : Int))).getD (↑n : Int) -
                          (0 : Int)).toNat
                      fun i j ↦ pwF p ((none.getD (0 : Int)).toNat + i) j).fI.g]]))) := by kernel_rfl
theorem lb2_x (b : Bool) (h : Bool) (s : List B) (m : Nat) (g : Nat → Nat → V) (c : BitVec 16) : Tr.prune (Tr.Sh.any)
  (execBYE Pr OB noLoopsT (100 : Nat) Go.Proofs.Tryd.f5 (0 : Nat)
  (Tell.mk [(1 : Nat), (5 : Nat), (6 : Nat), (8 : Nat)] [(0 : Nat)] []) (Tell.mk [] [] []) (takeSeq (0 : Nat) cB1)
  [((1 : Nat), V.u16 c), ((5 : Nat), V.bool h), ((6 : Nat), V.ptr (0 : Nat) (0 : Nat))]
  [Blk.vals [V.bool b, V.str s, V.isl (3 : Nat) m g]]) =
  Tr.chk (okVB (V.agg [V.bool b, V.str s, V.isl (3 : Nat) m g]) && true)
  (Tr.leaf
    (Sum.inr
      (X.normal,
        [((1 : Nat), V.u16 c), ((5 : Nat), V.bool h), ((6 : Nat), V.ptr (0 : Nat) (0 : Nat)),
          ((8 : Nat), V.str (encV (V.agg [V.bool b, V.str s, V.isl (3 : Nat) m g])))],
        [Blk.vals [V.bool b, V.str s, V.isl (3 : Nat) m g]]))) := by kernel_rfl
theorem lb3_x (b : Bool) (h : Bool) (s : List B) (t : List B) (m : Nat) (g : Nat → Nat → V) (c : BitVec 16) : Tr.prune ((Tr.Sh.any.l.l.l.both
      (Tr.Sh.any.both
            ((((Tr.Sh.any.r.r.l.both Tr.Sh.any.r.r.r).l.l.l.l.l.l.both Tr.Sh.any.r.r.r.r.r.r.r.r.r.r).both
                  ((Tr.Sh.any.r.r.l.both Tr.Sh.any.r.r.r).l.l.l.l.l.l.both Tr.Sh.any.r.r.r.r.r.r.r.r.r.r)).both
              ((((Tr.Sh.any.l.both Tr.Sh.any.r).l.both Tr.Sh.any.r.r.r).l.l.l.l.l.l.both
                    Tr.Sh.any.r.r.r.r.r.r.r.r.r.r).both
                (((Tr.Sh.any.l.both Tr.Sh.any.r).l.both Tr.Sh.any.r.r.r).l.l.l.l.l.l.both
                  Tr.Sh.any.r.r.r.r.r.r.r.r.r.r)))).r.r).both
  (Tr.Sh.any.l.l.l.both
    (Tr.Sh.any.both
          (((((Tr.Sh.any.r.r.l.both Tr.Sh.any.r.r.r).l.l.l.l.both Tr.Sh.any.r.r.r.r.r.r.r.r).l.both
                    Tr.Sh.any.r.r.r.r.r.r.r.r.r.r).both
                (((Tr.Sh.any.r.r.l.both Tr.Sh.any.r.r.r).l.l.l.l.both Tr.Sh.any.r.r.r.r.r.r.r.r).l.both
                  Tr.Sh.any.r.r.r.r.r.r.r.r.r.r)).both
            (((((Tr.Sh.any.l.both Tr.Sh.any.r).l.both Tr.Sh.any.r.r.r).l.l.l.l.both Tr.Sh.any.r.r.r.r.r.r.r.r).l.both
                  Tr.Sh.any.r.r.r.r.r.r.r.r.r.r).both
              ((((Tr.Sh.any.l.both Tr.Sh.any.r).l.both Tr.Sh.any.r.r.r).l.l.l.l.both Tr.Sh.any.r.r.r.r.r.r.r.r).l.both
                Tr.Sh.any.r.r.r.r.r.r.r.r.r.r)))).r.r))
  (execBR Pr OB noLoopsT (100 : Nat) Go.Proofs.Tryd.f5 (0 : Nat) cB2
  [((1 : Nat), V.u16 c), ((5 : Nat), V.bool h), ((6 : Nat), V.ptr (0 : Nat) (0 : Nat)), ((8 : Nat), V.str t)]
  [Blk.vals [V.bool b, V.str s, V.isl (3 : Nat) m g]]) =
  Tr.chk true
  (Tr.br (dcO t)
    (Tr.chk true
      (Tr.br ((↑t.length : Int) == (0 : Int))
        (Tr.chk true (Tr.leaf (Fin.ret (V.bool (decide ((↑t.length : Int) > (0 : Int)))), [])))
        (Tr.chk true
          (Tr.br (decide ((↑t.length : Int) > (60000 : Int)))
            (Tr.chk true (Tr.leaf (Fin.ret (V.bool (decide ((↑t.length : Int) > (0 : Int)))), [])))
            (Tr.chk (decide (t.length + (1 : Nat) ≤ (9223372036854775807 : Nat)))
              (Tr.br (dcO (t ++ bytesOf (ByteArray.mk #[OfNat.ofNat (1 : Nat)])))
                (Tr.chk
                  (!decide ((↑t.length : Int) = (0 : Int)) &&
                    decide
                      ((some ((↑c.toNat : Int).tmod (↑t.length : Int))).getD (↑t.length : Int) ≤ (↑t.length : Int)))
                  (Tr.br
                    (dcO (List.take ((some ((↑c.toNat : Int).tmod (↑t.length : Int))).getD (↑t.length : Int)).toNat t))
                    (Tr.chk true
                      (Tr.br h
                        (Tr.chk
                          (okVB
                              (V.agg
                                [V.bool (dcI t).fI.b, V.str (dcI t).fI.s, V.isl (3 : Nat) (dcI t).fI.m (dcI t).fI.g]) &&
                            (okVB (V.agg [V.bool b, V.str s, V.isl (3 : Nat) m g]) && true))
                          (Tr.br
                            (shwV
                                (V.agg
                                  [V.bool (dcI t).fI.b, V.str (dcI t).fI.s,
                                    V.isl (3 : Nat) (dcI t).fI.m (dcI t).fI.g]) ==
                              shwV (V.agg [V.bool b, V.str s, V.isl (3 : Nat) m g]))
                            (Tr.chk true (Tr.leaf (Fin.ret (V.bool false), [])))
                            (Tr.chk true (Tr.leaf (Fin.ret (V.bool false), [])))))
                        (Tr.chk true (Tr.leaf (Fin.ret (V.bool false), [])))))
                    (Tr.chk true
                      (Tr.br h
                        (Tr.chk
                          (okVB
                              (V.agg
                                [V.bool (dcI t).fI.b, V.str (dcI t).fI.s, V.isl (3 : Nat) (dcI t).fI.m (dcI t).fI.g]) &&
                            (okVB (V.agg [V.bool b, V.str s, V.isl (3 : Nat) m g]) && true))
                          (Tr.br
                            (shwV
                                (V.agg
                                  [V.bool (dcI t).fI.b, V.str (dcI t).fI.s,
                                    V.isl (3 : Nat) (dcI t).fI.m (dcI t).fI.g]) ==
                              shwV (V.agg [V.bool b, V.str s, V.isl (3 : Nat) m g]))
                            (Tr.chk true (Tr.leaf (Fin.ret (V.bool false), [])))
                            (Tr.chk true (Tr.leaf (Fin.ret (V.bool false), [])))))
                        (Tr.chk true (Tr.leaf (Fin.ret (V.bool false), [])))))))
                (Tr.chk
                  (!decide ((↑t.length : Int) = (0 : Int)) &&
                    decide
                      ((some ((↑c.toNat : Int).tmod (↑t.length : Int))).getD (↑t.length : Int) ≤ (↑t.length : Int)))
                  (Tr.br
                    (dcO (List.take ((some ((↑c.toNat : Int).tmod (↑t.length : Int))).getD (↑t.length : Int)).toNat t))
                    (Tr.chk true
                      (Tr.br h
                        (Tr.chk
                          (okVB
                              (V.agg
                                [V.bool (dcI t).fI.b, V.str (dcI t).fI.s, V.isl (3 : Nat) (dcI t).fI.m (dcI t).fI.g]) &&
                            (okVB (V.agg [V.bool b, V.str s, V.isl (3 : Nat) m g]) && true))
                          (Tr.br
                            (shwV
                                (V.agg
                                  [V.bool (dcI t).fI.b, V.str (dcI t).fI.s,
                                    V.isl (3 : Nat) (dcI t).fI.m (dcI t).fI.g]) ==
                              shwV (V.agg [V.bool b, V.str s, V.isl (3 : Nat) m g]))
                            (Tr.chk true
                              (Tr.br (dcE (t ++ bytesOf (ByteArray.mk #[OfNat.ofNat (1 : Nat)])) == (2 : Int))
                                (Tr.chk true (Tr.leaf (Fin.ret (V.bool false), [])))
                                (Tr.chk true (Tr.leaf (Fin.ret (V.bool false), [])))))
                            (Tr.chk true (Tr.leaf (Fin.ret (V.bool false), [])))))
                        (Tr.chk true (Tr.leaf (Fin.ret (V.bool false), [])))))
                    (Tr.chk true
                      (Tr.br h
                        (Tr.chk
                          (okVB
                              (V.agg
                                [V.bool (dcI t).fI.b, V.str (dcI t).fI.s, V.isl (3 : Nat) (dcI t).fI.m (dcI t).fI.g]) &&
                            (okVB (V.agg [V.bool b, V.str s, V.isl (3 : Nat) m g]) && true))
                          (Tr.br
                            (shwV
                                (V.agg
                                  [V.bool (dcI t).fI.b, V.str (dcI t).fI.s,
                                    V.isl (3 : Nat) (dcI t).fI.m (dcI t).fI.g]) ==
                              shwV (V.agg [V.bool b, V.str s, V.isl (3 : Nat) m g]))
                            (Tr.chk true
                              (Tr.br (dcE (t ++ bytesOf (ByteArray.mk #[OfNat.ofNat (1 : Nat)])) == (2 : Int))
                                (Tr.chk true
                                  (Tr.leaf
                                    (Fin.ret
                                        (V.bool
                                          (dcE
                                              (List.take
                                                ((some ((↑c.toNat : Int).tmod (↑t.length : Int))).getD
                                                    (↑t.length : Int)).toNat
                                                t) ==
                                            (2 : Int))),
                                      [])))
                                (Tr.chk true (Tr.leaf (Fin.ret (V.bool false), [])))))
                            (Tr.chk true (Tr.leaf (Fin.ret (V.bool false), [])))))
                        (Tr.chk true (Tr.leaf (Fin.ret (V.bool false), [])))))))))))))
    (Tr.chk true
      (Tr.br ((↑t.length : Int) == (0 : Int))
        (Tr.chk true (Tr.leaf (Fin.ret (V.bool (decide ((↑t.length : Int) > (0 : Int)))), [])))
        (Tr.chk true
          (Tr.br (decide ((↑t.length : Int) > (60000 : Int)))
            (Tr.chk true (Tr.leaf (Fin.ret (V.bool (decide ((↑t.length : Int) > (0 : Int)))), [])))
            (Tr.chk (decide (t.length + (1 : Nat) ≤ (9223372036854775807 : Nat)))
              (Tr.br (dcO (t ++ bytesOf (ByteArray.mk #[OfNat.ofNat (1 : Nat)])))
                (Tr.chk
                  (!decide ((↑t.length : Int) = (0 : Int)) &&
                    decide
                      ((some ((↑c.toNat : Int).tmod (↑t.length : Int))).getD (↑t.length : Int) ≤ (↑t.length : Int)))
                  (Tr.br
                    (dcO (List.take ((some ((↑c.toNat : Int).tmod (↑t.length : Int))).getD (↑t.length : Int)).toNat t))
                    (Tr.chk true
                      (Tr.br h
                        (Tr.chk true
                          (Tr.br (dcE t == (0 : Int))
                            (Tr.chk
                              (Decidable.rec (fun h ↦ (fun x ↦ false) h) (fun h ↦ (fun x ↦ true) h)
                                  (Classical.propDecidable (okV (V.agg [V.bool false, V.str [], V.nilSl]))) &&
                                (okVB (V.agg [V.bool b, V.str s, V.isl (3 : Nat) m g]) && true))
                              (Tr.br
                                (shwV (V.agg [V.bool false, V.str [], V.nilSl]) ==
                                  shwV (V.agg [V.bool b, V.str s, V.isl (3 : Nat) m g]))
                                (Tr.chk true (Tr.leaf (Fin.ret (V.bool false), [])))
                                (Tr.chk true (Tr.leaf (Fin.ret (V.bool false), [])))))
                            (Tr.chk true (Tr.leaf (Fin.ret (V.bool false), [])))))
                        (Tr.chk true (Tr.leaf (Fin.ret (V.bool false), [])))))
                    (Tr.chk true
                      (Tr.br h
                        (Tr.chk true
                          (Tr.br (dcE t == (0 : Int))
                            (Tr.chk
                              (Decidable.rec (fun h ↦ (fun x ↦ false) h) (fun h ↦ (fun x ↦ true) h)
                                  (Classical.propDecidable (okV (V.agg [V.bool false, V.str [], V.nilSl]))) &&
                                (okVB (V.agg [V.bool b, V.str s, V.isl (3 : Nat) m g]) && true))
                              (Tr.br
                                (shwV (V.agg [V.bool false, V.str [], V.nilSl]) ==
                                  shwV (V.agg [V.bool b, V.str s, V.isl (3 : Nat) m g]))
                                (Tr.chk true (Tr.leaf (Fin.ret (V.bool false), [])))
                                (Tr.chk true (Tr.leaf (Fin.ret (V.bool false), [])))))
                            (Tr.chk true (Tr.leaf (Fin.ret (V.bool false), [])))))
                        (Tr.chk true (Tr.leaf (Fin.ret (V.bool false), [])))))))
                (Tr.chk
                  (!decide ((↑t.length : Int) = (0 : Int)) &&
                    decide
                      ((some ((↑c.toNat : Int).tmod (↑t.length : Int))).getD (↑t.length : Int) ≤ (↑t.length : Int)))
                  (Tr.br
                    (dcO (List.take ((some ((↑c.toNat : Int).tmod (↑t.length : Int))).getD (↑t.length : Int)).toNat t))
                    (Tr.chk true
                      (Tr.br h
                        (Tr.chk true
                          (Tr.br (dcE t == (0 : Int))
                            (Tr.chk
                              (Decidable.rec (fun h ↦ (fun x ↦ false) h) (fun h ↦ (fun x ↦ true) h)
                                  (Classical.propDecidable (okV (V.agg [V.bool false, V.str [], V.nilSl]))) &&
                                (okVB (V.agg [V.bool b, V.str s, V.isl (3 : Nat) m g]) && true))
                              (Tr.br
                                (shwV (V.agg [V.bool false, V.str [], V.nilSl]) ==
                                  shwV (V.agg [V.bool b, V.str s, V.isl (3 : Nat) m g]))
                                (Tr.chk true
                                  (Tr.br (dcE (t ++ bytesOf (ByteArray.mk #[OfNat.ofNat (1 : Nat)])) == (2 : Int))
                                    (Tr.chk true (Tr.leaf (Fin.ret (V.bool false), [])))
                                    (Tr.chk true (Tr.leaf (Fin.ret (V.bool false), [])))))
                                (Tr.chk true (Tr.leaf (Fin.ret (V.bool false), [])))))
                            (Tr.chk true (Tr.leaf (Fin.ret (V.bool false), [])))))
                        (Tr.chk true (Tr.leaf (Fin.ret (V.bool false), [])))))
                    (Tr.chk true
                      (Tr.br h
                        (Tr.chk true
                          (Tr.br (dcE t == (0 : Int))
                            (Tr.chk
                              (Decidable.rec (fun h ↦ (fun x ↦ false) h) (fun h ↦ (fun x ↦ true) h)
                                  (Classical.propDecidable (okV (V.agg [V.bool false, V.str [], V.nilSl]))) &&
                                (okVB (V.agg [V.bool b, V.str s, V.isl (3 : Nat) m g]) && true))
                              (Tr.br
                                (shwV (V.agg [V.bool false, V.str [], V.nilSl]) ==
                                  shwV (V.agg [V.bool b, V.str s, V.isl (3 : Nat) m g]))
                                (Tr.chk true
                                  (Tr.br (dcE (t ++ bytesOf (ByteArray.mk #[OfNat.ofNat (1 : Nat)])) == (2 : Int))
                                    (Tr.chk true
                                      (Tr.leaf
                                        (Fin.ret
                                            (V.bool
                                              (dcE
                                                  (List.take
                                                    ((some ((↑c.toNat : Int).tmod (↑t.length : Int))).getD
                                                        (↑t.length : Int)).toNat
                                                    t) ==
                                                (2 : Int))),
                                          [])))
                                    (Tr.chk true (Tr.leaf (Fin.ret (V.bool false), [])))))
                                (Tr.chk true (Tr.leaf (Fin.ret (V.bool false), [])))))
                            (Tr.chk true (Tr.leaf (Fin.ret (V.bool false), [])))))
                        (Tr.chk true (Tr.leaf (Fin.ret (V.bool false), [])))))))))))))) := by kernel_rfl
end
end Go.Proofs.YtnafebinaheclaaDoor.K
end
section
open Go Go.Lh
namespace Go.Proofs.YtnafebinaheclaaDoor.K
noncomputable section
set_option maxRecDepth 100000
theorem brF {α : Type} {t u : Tr α} {Q : α → Prop} (h : u.wp Q) : (Tr.br false t u).wp Q := wp_br.2 ⟨fun e => (by cases e), fun _ => h⟩
theorem brF2 {α : Type} {t u : Tr α} {Q : α → Prop} (h : u.wp Q) : (Tr.chk true (Tr.br false t u)).wp Q := wp_chk_true.2 (brF h)
theorem dcO_some {s : List B} {x : It} (h : decF s = some x) : dcO s = true := @decide_eq_true _ (Classical.propDecidable _) ⟨x, h⟩
theorem dcO_none {s : List B} (h : decF s = none) : dcO s = false := @decide_eq_false _ (Classical.propDecidable _) (by rw [h]; rintro ⟨x, hx⟩; cases hx)
theorem dcE_two {s : List B} (h : s.length ≤ 65536) : dcE s = 2 := by unfold dcE; rw [if_pos h]
/-- the parts of the first sixty -/
def lawPts (n : Nat) (p : PW) : List Pt := ptsOf (min n 60) (pwF p)
theorem lawPts_len (n : Nat) (p : PW) : (lawPts n p).length ≤ 60 := by unfold lawPts; rw [ptsOf_len]; omega
def lawIt (n : Nat) (p : PW) : It := (mkF 61 (lawPts n p)).1
theorem min60 (n : Nat) : (if (60 : Int) < (n : Int) then (60 : Int) else (n : Int)) = ((min n 60 : Nat) : Int) := by split <;> omega
theorem law_I (n : Nat) (p : PW) : mkI 61 (min n 60) (fun i j => pwF p (0 + i) j) = lawIt n p := by
  unfold mkI lawIt lawPts
  rw [if_pos trivial]
  congr 2
  have := ptsOf_drop (min n 60) 0 p
  rw [Nat.sub_zero, List.drop_zero] at this
  exact this
theorem law_P (n : Nat) (p : PW) : mkPB 61 (MA.mk (min n 60) (fun i j => pwF p (0 + i) j) 0) = true := by
  refine @decide_eq_true _ (Classical.propDecidable _) ⟨rfl, Nat.le_refl _, by simp only; omega, ⟨⟨fun i => p.k (0 + i), fun i => p.s (0 + i)⟩, rfl⟩⟩
theorem rlpBack_fn (n : Nat) (p : PW) (c : BitVec 16) : LFn Pr 5 [.isl 2 n (pwF p), .u16 c] [] (.ret (.bool true)) [] := by
  refine EndsIn.done (fn := Go.Proofs.Tryd.f5) (by kernel_rfl) (by kernel_rfl) (by kernel_rfl) ?_
  refine EndsIn.cutY (L := noLoopsT) 3 OB_sound mixed (by kernel_rfl) noLoops_all (by kernel_rfl) (lb1_x n p c) ?_
  rw [min60, Option.getD_some, Int.sub_zero, Int.toNat_natCast, Option.getD_none, Int.toNat_zero, law_P, law_I]
  refine wp_chk.2 ⟨by simp only [Bool.and_true, Bool.and_eq_true, decide_eq_true_eq]; omega, wp_leaf.2 ⟨clo_nil, .inl ⟨_, _, rfl, ?_⟩⟩⟩
  obtain ⟨hl, hd⟩ := mk_60 (lawPts n p) (lawPts_len n p)
  have hx : (mkF 61 (lawPts n p)).1 = lawIt n p := rfl
  rw [hx] at hl hd
  generalize lawIt n p = x at hl hd
  refine EndsIn.cutY (L := noLoopsT) 0 OB_sound mixed (by kernel_rfl) noLoops_all (by kernel_rfl) (lb2_x x.fI.b true x.fI.s x.fI.m x.fI.g c) ?_
  have ev : V.agg [V.bool x.fI.b, V.str x.fI.s, V.isl 3 x.fI.m x.fI.g] = itV x := rfl
  have ok : okVB (itV x) = true := itV_ok (by rw [m40]; omega)
  rw [ev, ok, itV_enc]
  refine wp_chk_true.2 (wp_leaf.2 ⟨clo_nil, .inl ⟨_, _, rfl, ?_⟩⟩)
  have hp := enc_pos x
  have h1 : decF (enc x) = some x := decF_fwd x (by omega) (by omega)
  have h2 : decF (enc x ++ bytesOf (ByteArray.mk #[OfNat.ofNat 1])) = none := decF_behind x (by omega) (by omega) 1#8 []
  have hmod : c.toNat % (enc x).length < (enc x).length := Nat.mod_lt _ hp
  have h3 : decF ((enc x).take (c.toNat % (enc x).length)) = none := decF_cut x (by omega) (by omega) _ hmod
  have l2 : (enc x ++ bytesOf (ByteArray.mk #[OfNat.ofNat 1])).length ≤ 65536 := by rw [List.length_append]; have : (bytesOf (ByteArray.mk #[OfNat.ofNat 1])).length = 1 := rfl; omega
  have l3 : ((enc x).take (c.toNat % (enc x).length)).length ≤ 65536 := by rw [List.length_take]; omega
  have hT := lb3_x x.fI.b true x.fI.s (enc x) x.fI.m x.fI.g c
  have htm : ((c.toNat : Int)).tmod ((enc x).length : Int) = ((c.toNat % (enc x).length : Nat) : Int) := rfl
  have n0 : (((enc x).length : Int) == 0) = false := by rw [beq_eq_false_iff_ne]; omega
  have n6 : decide (((enc x).length : Int) > 60000) = false := decide_eq_false (by omega)
  rw [dcO_some h1, dcO_none h2, n0, n6, htm, Option.getD_some, Int.toNat_natCast, dcO_none h3, dcI_eq h1, ev, ok, itV_shw, beq_self_eq_true, dcE_two l2, dcE_two l3] at hT
  refine EndsIn.last OB_sound mixed noLoops_all (by kernel_rfl) hT ?_
  refine brT2 (brF2 (brF2 (wp_chk.2 ⟨decide_eq_true (by omega), brF (wp_chk.2 ⟨?_, brF (brT2 (brT2 (brT2 (wp_chk_true.2 (wp_leaf.2 rfl)))))⟩)⟩)))
  simp only [Bool.and_eq_true, Bool.not_eq_true', decide_eq_false_iff_not, decide_eq_true_eq]; omega
end
end Go.Proofs.YtnafebinaheclaaDoor.K
end
section
open Go Go.Lh
namespace Go.Proofs.YtnafebinaheclaaDoor.K
noncomputable section
set_option maxRecDepth 100000
theorem parts_arg {H : Type} {enc : TypeId × Value → H} {w : World} {r : Reach} {b0 : Nat} {v : Value} {d : DataW H} {p : List MemPlace} (hok : Value.okWide Pr w r b0 22 v) (hr : DataW.Trod enc Pr w 0 (fun _ => true) true 22 v d p) :
    ∃ (n : Nat) (x : PW), ∀ ρ, VRel (Old w) w ρ (.isl 2 n (pwF x)) v := by
  have h1 := TR.struct (enc := enc) (P := Pr) (w := w) (base := 0) (spare := fun _ => true) (held := true) (T := 2) Go.Proofs.Tryd.underlying57 (l := [_, _]) rfl (by kernel_rfl) (TRF.cons' 5 1 (by rfl) (by rfl) (by kernel_rfl) (TR.u8 (by kernel_rfl)) (TRF.cons' 9 1 (by rfl) (by rfl) (by kernel_rfl) (TR.str (by kernel_rfl)) (TRF.nil 2)))
  have h2 := TR.sliceAs (t := 22) (e := 57) 2 (fun A => (⟨fun i => (A i).1, fun i => (A i).2.1⟩ : PW)) pwF (fun A i j hj => by match j, hj with | 0, _ => rfl | 1, _ => rfl) Go.Proofs.Tryd.underlying22 (by kernel_rfl) (by decide) h1
  obtain ⟨⟨n, x⟩, ha, _⟩ := TR.arg_slice Go.Proofs.Tryd.underlying22 h2 hok hr
  exact ⟨n, x, ha⟩
end
end Go.Proofs.YtnafebinaheclaaDoor.K
end
section
open Go Go.Lh
namespace Go.Proofs.YtnafebinaheclaaDoor.K
noncomputable section
set_option maxRecDepth 100000
def dw_f (d : Nat) (v : V) : Tr (Fin × Heap) := .chk (dpOkB d v) (.leaf (.ret (.str (shwV v)), []))
def DwOk (d : Nat) : Prop := ∀ args h r, ((ctT en_read (dw_f d)) args h).is r → LFn Pr 18 args h r.1 r.2
def ODw (d : Nat) : OrcT := autoT Pr ext [(18, ctT en_read (dw_f d))] [] 3
theorem ODw_sound {d : Nat} (h : DwOk d) : OrcSound Pr (ODw d).o := autoT_sound mixed ext_ok (KOkT.cons (Enters.of (fn := Go.Proofs.Tryd.f18) (by kernel_rfl) (by kernel_rfl)) h .nil) (by kernel_rfl) 3
theorem dst_x (n : Nat) (k : Nat) (b : Bool) (s : List B) (t : List B) (m : Nat) (g : Nat → Nat → V) : Tr.prune (Tr.Sh.any.both
  Tr.Sh.any)
  (execBN Pr OR5 noLoopsT (100 : Nat) (0 : Nat) [(1 : Nat), (3 : Nat), (4 : Nat)] [(3 : Nat)]
  (loopBody Go.Proofs.Tryd.f18 (0 : Nat))
  [((1 : Nat), V.ptr (0 : Nat) (0 : Nat)), ((3 : Nat), V.str t), ((4 : Nat), V.int IntKind.i64 (↑k : Int))]
  [Blk.vals [V.bool b, V.str s, V.isl (3 : Nat) m g]]) =
  Tr.chk true
  (Tr.br (decide ((↑k : Int) < (↑s.length : Int)))
    (Tr.chk
      (decide ((↑k : Int) < (↑s.length : Int)) && true &&
          (decide ((↑k : Int) < (↑s.length : Int)) && true &&
            (decide
                    ((0 : Int) ≤
                      (some
                            (wrapI IntKind.i64
                              ((↑(s.getD k (OfNat.ofNat (0 : Nat))).toNat : Int).tdiv (16 : Int)))).getD
                        (0 : Int)) &&
                  decide
                    ((some (wrapI IntKind.i64 ((↑(s.getD k (OfNat.ofNat (0 : Nat))).toNat : Int).tdiv (16 : Int)))).getD
                        (0 : Int) ≤
                      (some
                            (wrapI IntKind.i64
                              (wrapI IntKind.i64 ((↑(s.getD k (OfNat.ofNat (0 : Nat))).toNat : Int).tdiv (16 : Int)) +
                                (1 : Int)))).getD
                        (16 : Int)) &&
                decide
                  ((some
                          (wrapI IntKind.i64
                            (wrapI IntKind.i64 ((↑(s.getD k (OfNat.ofNat (0 : Nat))).toNat : Int).tdiv (16 : Int)) +
                              (1 : Int)))).getD
                      (16 : Int) ≤
                    (16 : Int)) &&
              (decide
                  (t.length +
                      (List.drop
                          ((some
                                  (wrapI IntKind.i64
                                    ((↑(s.getD k (OfNat.ofNat (0 : Nat))).toNat : Int).tdiv (16 : Int)))).getD
                              (0 : Int)).toNat
                          (List.take
                            ((some
                                    (wrapI IntKind.i64
                                      (wrapI IntKind.i64
                                          ((↑(s.getD k (OfNat.ofNat (0 : Nat))).toNat : Int).tdiv (16 : Int)) +
                                        (1 : Int)))).getD
                                (16 : Int)).toNat
                            (bytesOf
                              (ByteArray.mk
                                #[OfNat.ofNat (48 : Nat), OfNat.ofNat (49 : Nat), OfNat.ofNat (50 : Nat),
                                  OfNat.ofNat (51 : Nat), OfNat.ofNat (52 : Nat), OfNat.ofNat (53 : Nat),
                                  OfNat.ofNat (54 : Nat), OfNat.ofNat (55 : Nat), OfNat.ofNat (56 : Nat),
                                  OfNat.ofNat (57 : Nat), OfNat.ofNat (97 : Nat), OfNat.ofNat (98 : Nat),
                                  OfNat.ofNat (99 : Nat), OfNat.ofNat (100 : Nat), OfNat.ofNat (101 : Nat),
                                  OfNat.ofNat (102 : Nat)])))).length ≤
                    (9223372036854775807 : Nat)) &&
                (decide
                      ((some ((↑(s.getD k (OfNat.ofNat (0 : Nat))).toNat : Int).tmod (16 : Int))).getD (0 : Int) ≤
                        (some
                              (wrapI IntKind.i64
                                ((↑(s.getD k (OfNat.ofNat (0 : Nat))).toNat : Int).tmod (16 : Int) + (1 : Int)))).getD
                          (16 : Int)) &&
                    decide
                      ((some
                              (wrapI IntKind.i64
                                ((↑(s.getD k (OfNat.ofNat (0 : Nat))).toNat : Int).tmod (16 : Int) + (1 : Int)))).getD
                          (16 : Int) ≤
                        (16 : Int)) &&
                  (decide
                      ((t ++
                              List.drop
                                ((some
                                        (wrapI IntKind.i64
                                          ((↑(s.getD k (OfNat.ofNat (0 : Nat))).toNat : Int).tdiv (16 : Int)))).getD
                                    (0 : Int)).toNat
                                (List.take
                                  ((some
                                          (wrapI IntKind.i64
                                            (wrapI IntKind.i64
                                                ((↑(s.getD k (OfNat.ofNat (0 : Nat))).toNat : Int).tdiv (16 : Int)) +
                                              (1 : Int)))).getD
                                      (16 : Int)).toNat
                                  (bytesOf
                                    (ByteArray.mk
                                      #[OfNat.ofNat (48 : Nat), OfNat.ofNat (49 : Nat), OfNat.ofNat (50 : Nat),
                                        OfNat.ofNat (51 : Nat), OfNat.ofNat (52 : Nat), OfNat.ofNat (53 : Nat),
                                        OfNat.ofNat (54 : Nat), OfNat.ofNat (55 : Nat), OfNat.ofNat (56 : Nat),
                                        OfNat.ofNat (57 : Nat), OfNat.ofNat (97 : Nat), OfNat.ofNat (98 : Nat),
                                        OfNat.ofNat (99 : Nat), OfNat.ofNat (100 : Nat), OfNat.ofNat (101 : Nat),
                                        OfNat.ofNat (102 : Nat)])))).length +
                          (List.drop
                              ((some ((↑(s.getD k (OfNat.ofNat (0 : Nat))).toNat : Int).tmod (16 : Int))).getD
                                  (0 : Int)).toNat
                              (List.take
                                ((some
                                        (wrapI IntKind.i64
                                          ((↑(s.getD k (OfNat.ofNat (0 : Nat))).toNat : Int).tmod (16 : Int) +
                                            (1 : Int)))).getD
                                    (16 : Int)).toNat
                                (bytesOf
                                  (ByteArray.mk
                                    #[OfNat.ofNat (48 : Nat), OfNat.ofNat (49 : Nat), OfNat.ofNat (50 : Nat),
                                      OfNat.ofNat (51 : Nat), OfNat.ofNat (52 : Nat), OfNat.ofNat (53 : Nat),
                                      OfNat.ofNat (54 : Nat), OfNat.ofNat (55 : Nat), OfNat.ofNat (56 : Nat),
                                      OfNat.ofNat (57 : Nat), OfNat.ofNat (97 : Nat), OfNat.ofNat (98 : Nat),
                                      OfNat.ofNat (99 : Nat), OfNat.ofNat (100 : Nat), OfNat.ofNat (101 : Nat),
                                      OfNat.ofNat (102 : Nat)])))).length ≤
                        (9223372036854775807 : Nat)) &&
                    true))))) &&
        true)
      (Tr.leaf
        (X.normal,
          [((1 : Nat), V.ptr (0 : Nat) (0 : Nat)),
            ((3 : Nat),
              V.str
                (t ++
                    List.drop
                      ((some
                              (wrapI IntKind.i64
                                ((↑(s.getD k (OfNat.ofNat (0 : Nat))).toNat : Int).tdiv (16 : Int)))).getD
                          (0 : Int)).toNat
                      (List.take
                        ((some
                                (wrapI IntKind.i64
                                  (wrapI IntKind.i64
                                      ((↑(s.getD k (OfNat.ofNat (0 : Nat))).toNat : Int).tdiv (16 : Int)) +
                                    (1 : Int)))).getD
                            (16 : Int)).toNat
                        (bytesOf
                          (ByteArray.mk
                            #[OfNat.ofNat (48 : Nat), OfNat.ofNat (49 : Nat), OfNat.ofNat (50 : Nat),
                              OfNat.ofNat (51 : Nat), OfNat.ofNat (52 : Nat), OfNat.ofNat (53 : Nat),
                              OfNat.ofNat (54 : Nat), OfNat.ofNat (55 : Nat), OfNat.ofNat (56 : Nat),
                              OfNat.ofNat (57 : Nat), OfNat.ofNat (97 : Nat), OfNat.ofNat (98 : Nat),
                              OfNat.ofNat (99 : Nat), OfNat.ofNat (100 : Nat), OfNat.ofNat (101 : Nat),
                              OfNat.ofNat (102 : Nat)]))) ++
                  List.drop
                    ((some ((↑(s.getD k (OfNat.ofNat (0 : Nat))).toNat : Int).tmod (16 : Int))).getD (0 : Int)).toNat
                    (List.take
                      ((some
                              (wrapI IntKind.i64
                                ((↑(s.getD k (OfNat.ofNat (0 : Nat))).toNat : Int).tmod (16 : Int) + (1 : Int)))).getD
                          (16 : Int)).toNat
                      (bytesOf
                        (ByteArray.mk
                          #[OfNat.ofNat (48 : Nat), OfNat.ofNat (49 : Nat), OfNat.ofNat (50 : Nat),
                            OfNat.ofNat (51 : Nat), OfNat.ofNat (52 : Nat), OfNat.ofNat (53 : Nat),
                            OfNat.ofNat (54 : Nat), OfNat.ofNat (55 : Nat), OfNat.ofNat (56 : Nat),
                            OfNat.ofNat (57 : Nat), OfNat.ofNat (97 : Nat), OfNat.ofNat (98 : Nat),
                            OfNat.ofNat (99 : Nat), OfNat.ofNat (100 : Nat), OfNat.ofNat (101 : Nat),
                            OfNat.ofNat (102 : Nat)]))))),
            ((4 : Nat), V.int IntKind.i64 (wrapI IntKind.i64 ((↑k : Int) + (1 : Int))))],
          [Blk.vals [V.bool b, V.str s, V.isl (3 : Nat) m g]])))
    (Tr.leaf (X.exit (0 : Nat), [((3 : Nat), V.str t)], []))) := by kernel_rfl
theorem dsl_x (d : Nat) (n : Nat) (k : Nat) (b : Bool) (s : List B) (t : List B) (q : RW) : Tr.prune ((Tr.Sh.any.both
      Tr.Sh.any).both
  Tr.Sh.any)
  (execBN Pr (ODw d) noLoopsT (100 : Nat) (0 : Nat) [(1 : Nat), (7 : Nat), (8 : Nat)] [(7 : Nat)]
  (loopBody Go.Proofs.Tryd.f18 (1 : Nat))
  [((1 : Nat), V.ptr (0 : Nat) (0 : Nat)), ((7 : Nat), V.str t), ((8 : Nat), V.int IntKind.i64 (↑k : Int))]
  [Blk.vals [V.bool b, V.str s, V.isl (3 : Nat) n (rwF q)]]) =
  Tr.chk true
  (Tr.br (decide ((↑k : Int) < (↑n : Int)))
    (Tr.chk true
      (Tr.br (decide ((↑k : Int) > (0 : Int)))
        (Tr.chk
          (decide (t.length + (1 : Nat) ≤ (9223372036854775807 : Nat)) && true &&
              (decide ((↑k : Int) < (↑n : Int)) &&
                (decide (k < n) && true &&
                  (dpOkB d (V.agg [V.bool (q.b k), V.str (q.s k), V.isl (3 : Nat) (q.m k) (q.g k)]) &&
                    (decide
                        ((t ++ bytesOf (ByteArray.mk #[OfNat.ofNat (32 : Nat)])).length +
                            (shwV (V.agg [V.bool (q.b k), V.str (q.s k), V.isl (3 : Nat) (q.m k) (q.g k)])).length ≤
                          (9223372036854775807 : Nat)) &&
                      true)))) &&
            true)
          (Tr.leaf
            (X.normal,
              [((1 : Nat), V.ptr (0 : Nat) (0 : Nat)),
                ((7 : Nat),
                  V.str
                    (t ++ bytesOf (ByteArray.mk #[OfNat.ofNat (32 : Nat)]) ++
                      shwV (V.agg [V.bool (q.b k), V.str (q.s k), V.isl (3 : Nat) (q.m k) (q.g k)]))),
                ((8 : Nat), V.int IntKind.i64 (wrapI IntKind.i64 ((↑k : Int) + (1 : Int))))],
              [Blk.vals [V.bool b, V.str s, V.isl (3 : Nat) n (rwF q)]])))
        (Tr.chk
          (decide ((↑k : Int) < (↑n : Int)) &&
              (decide (k < n) && true &&
                (dpOkB d (V.agg [V.bool (q.b k), V.str (q.s k), V.isl (3 : Nat) (q.m k) (q.g k)]) &&
                  (decide
                      (t.length +
                          (shwV (V.agg [V.bool (q.b k), V.str (q.s k), V.isl (3 : Nat) (q.m k) (q.g k)])).length ≤
                        (9223372036854775807 : Nat)) &&
                    true))) &&
            true)
          (Tr.leaf
            (X.normal,
              [((1 : Nat), V.ptr (0 : Nat) (0 : Nat)),
                ((7 : Nat), V.str (t ++ shwV (V.agg [V.bool (q.b k), V.str (q.s k), V.isl (3 : Nat) (q.m k) (q.g k)]))),
                ((8 : Nat), V.int IntKind.i64 (wrapI IntKind.i64 ((↑k : Int) + (1 : Int))))],
              [Blk.vals [V.bool b, V.str s, V.isl (3 : Nat) n (rwF q)]])))))
    (Tr.leaf (X.exit (2 : Nat), [((7 : Nat), V.str t)], []))) := by kernel_rfl
end
end Go.Proofs.YtnafebinaheclaaDoor.K
end
section
open Go Go.Lh
namespace Go.Proofs.YtnafebinaheclaaDoor.K
noncomputable section
set_option maxRecDepth 100000
/-! ### Small -/
structure DM where
  l : Bool
  s : List B
  m : Nat
  g : Nat → Nat → V
def dm_S (a : DM) (k : Nat) : Fr × Heap := ([(1,.ptr 0 0),(2,.u64 0),(3,.bool false),(4,.u64 (foldB 0 (a.s.take k))),(5,.int .i64 (k : Int))], [.vals [.bool a.l,.str a.s,.isl 3 a.m a.g]])
def dm_read : Fr → Heap → Option DM := fun f h => match f, h with
  | [(1,.ptr 0 0),(2,.u64 n2),(3,.bool false),(4,.u64 n4),(5,.int .i64 0)], [.vals [.bool l,.str s,.isl 3 m g]] => if n2 = 0 then (if n4 = 0 then some ⟨l, s, m, g⟩ else none) else none
  | _, _ => none
def dm_ok (a : DM) : Bool := @decide (a.s.length < 2 ^ 62) (Classical.propDecidable _)
def dm_E (a : DM) : Tr (X × Fr × Heap) := .leaf (.exit 0, [(4,.u64 (valB a.s))], [])
def dm_s : SmT := whT 5 [1,2,3,4,5] dm_read dm_ok dm_E
theorem dm_at : SmAtT Pr Go.Proofs.Tryd.f13 0 dm_s 0 := by
  refine cntT_at (L := noLoopsT) (fuel := 100) (on := [1,2,3,4,5]) (off := [4]) OR2_sound mixed dm_S (fun a => a.s.length) (by kernel_rfl) (by kernel_rfl) (by kernel_rfl) LoopsOk.noneT ?_ ?_
  · intro f g a h
    unfold dm_read at h
    split at h
    · split at h
      · rename_i e2
        split at h
        · rename_i e4
          cases h
          subst e2
          subst e4
          rfl
        · cases h
      · cases h
    · cases h
  · rintro ⟨l, s, m, g⟩ q hok hq k hk
    have hok := @of_decide_eq_true _ (Classical.propDecidable _) hok
    have : (2 : Nat) ^ 62 = 4611686018427387904 := by decide
    simp only at hok hk
    rw [dm_E, Tr.is_leaf] at hq
    simp only at hq
    refine Tr.wp_prune (rsb1_x s (foldB 0 (s.take k)) l m g k) ?_
    refine wp_chk_true.2 (wp_br.2 ⟨fun h => ?_, fun h => ?_⟩)
    · have h := of_decide_eq_true h
      have hk' : k < s.length := by omega
      refine wp_chk.2 ⟨by simp only [Bool.and_true, decide_eq_true_eq]; omega, wp_leaf.2 (.inl ⟨rfl, hk', ?_⟩)⟩
      rw [show ((k : Int) + 1) = ((k + 1 : Nat) : Int) by omega, wrapI_nat (by omega)]
      have e : foldB 0 (s.take (k + 1)) = foldB 0 (s.take k) * BitVec.ofInt 64 256 + BitVec.setWidth 64 (s.getD k (OfNat.ofNat 0)) := by
        rw [foldB_snoc 0 s k hk', byte_step]
        rfl
      show _ = (([(1,V.ptr 0 0),(2,V.u64 0),(3,V.bool false),(4,V.u64 (foldB 0 (s.take (k + 1)))),(5,V.int .i64 ((k + 1 : Nat) : Int))], [Blk.vals [.bool l,.str s,.isl 3 m g]]) : Fr × Heap)
      rw [e]
      try rfl
    · have h := of_decide_eq_false h
      have e : k = s.length := by omega
      subst e
      refine wp_leaf.2 (.inr ⟨fun h => (by cases h), ?_⟩)
      rw [← hq, List.take_length, valB_eq]
theorem dm_Ls : LoopsOk Pr Go.Proofs.Tryd.f13 0 (smLT 0 [dm_s]).o := LoopsOk.one (by kernel_rfl) dm_at
theorem dm_x (l : Bool) (s : List B) (m : Nat) (g : Nat → Nat → V) : Tr.prune (Tr.Sh.any.l.l.l.l.l.l.l.l.l.l.both
  (Tr.Sh.any.l.l.l.l.l.l.both ((Tr.Sh.any.both Tr.Sh.any).r.l.l.l.both Tr.Sh.any.r.r.r.r.r).r.r.r.r).r.r.r)
  (execBF Pr OR2 (smLT (0 : Nat) [dm_s]) (100 : Nat) Go.Proofs.Tryd.f13 [V.agg [V.bool l, V.str s, V.isl (3 : Nat) m g]]
  []) =
  Tr.chk true
  (Tr.br l (Tr.chk true (Tr.leaf (Fin.ret (V.tup [V.u64 (BitVec.ofInt (64 : Nat) (0 : Int)), V.bool false]), [])))
    (Tr.chk true
      (Tr.br (decide ((↑s.length : Int) > (8 : Int)))
        (Tr.chk true (Tr.leaf (Fin.ret (V.tup [V.u64 (BitVec.ofInt (64 : Nat) (0 : Int)), V.bool false]), [])))
        (Tr.chk true
          (Tr.br (decide ((↑s.length : Int) > (0 : Int)))
            (Tr.chk (decide ((0 : Int) < (↑s.length : Int)) && true)
              (Tr.br (s.getD (0 : Nat) (OfNat.ofNat (0 : Nat)) == BitVec.ofInt (8 : Nat) (0 : Int))
                (Tr.chk true (Tr.leaf (Fin.ret (V.tup [V.u64 (BitVec.ofInt (64 : Nat) (0 : Int)), V.bool false]), [])))
                (Tr.chk (dm_ok (DM.mk l s m g) && true && true)
                  (Tr.leaf (Fin.ret (V.tup [V.u64 (valB s), V.bool true]), [])))))
            (Tr.chk (dm_ok (DM.mk l s m g) && true && true)
              (Tr.leaf (Fin.ret (V.tup [V.u64 (valB s), V.bool true]), [])))))))) := by kernel_rfl
/-! ### Show: a text -/
def ds_S (a : DM) (k : Nat) : Fr × Heap := ([(1,.ptr 0 0),(3,.str (hexS (a.s.take k))),(4,.int .i64 (k : Int))], [.vals [.bool a.l,.str a.s,.isl 3 a.m a.g]])
def ds_read : Fr → Heap → Option DM := fun f h => match f, h with
  | [(1,.ptr 0 0),(3,.str []),(4,.int .i64 0)], [.vals [.bool l,.str s,.isl 3 m g]] => some ⟨l, s, m, g⟩
  | _, _ => none
def ds_ok (a : DM) : Bool := @decide (a.s.length ≤ most40) (Classical.propDecidable _)
def ds_E (a : DM) : Tr (X × Fr × Heap) := .leaf (.exit 0, [(3,.str (hexO a.s))], [])
def ds_s : SmT := whT 4 [1,3,4] ds_read ds_ok ds_E
theorem slice1 (l : List B) (a : Nat) (h : a < l.length) : (l.take (a + 1)).drop a = [l.getD a 0] := by
  rw [List.take_add_one, List.drop_append_of_le_length (by rw [List.length_take]; omega), List.drop_of_length_le (by rw [List.length_take]; omega), List.getElem?_eq_getElem h, List.getD_eq_getElem?_getD, List.getElem?_eq_getElem h]
  rfl
theorem hx2_eq (b : B) : hx2 b = [hexT.getD (b.toNat / 16) 0, hexT.getD (b.toNat % 16) 0] := by
  unfold hx2
  have h1 : (b >>> 4).toNat = b.toNat / 16 := by rw [BitVec.toNat_ushiftRight, Nat.shiftRight_eq_div_pow]
  have h2 : (b &&& 15#8).toNat = b.toNat % 16 := by rw [BitVec.toNat_and]; exact Nat.and_two_pow_sub_one_eq_mod b.toNat 4
  rw [h1, h2]
theorem hexT_len : hexT.length = 16 := by decide
theorem ds_at : SmAtT Pr Go.Proofs.Tryd.f18 0 ds_s 0 := by
  refine cntT_at (L := noLoopsT) (fuel := 100) (on := [1,3,4]) (off := [3]) OR5_sound mixed ds_S (fun a => a.s.length) (by kernel_rfl) (by kernel_rfl) (by kernel_rfl) LoopsOk.noneT ?_ ?_
  · intro f g a h
    unfold ds_read at h
    split at h <;> cases h
    rfl
  · rintro ⟨l, s, m, g⟩ q hok hq k hk
    have hok := @of_decide_eq_true _ (Classical.propDecidable _) hok
    simp only at hok hk
    rw [m40] at hok
    rw [ds_E, Tr.is_leaf] at hq
    simp only at hq
    have hT := dst_x 0 k l s (hexS (s.take k)) m g
    have eT : bytesOf (ByteArray.mk #[OfNat.ofNat 48, OfNat.ofNat 49, OfNat.ofNat 50, OfNat.ofNat 51, OfNat.ofNat 52, OfNat.ofNat 53, OfNat.ofNat 54, OfNat.ofNat 55, OfNat.ofNat 56, OfNat.ofNat 57, OfNat.ofNat 97, OfNat.ofNat 98, OfNat.ofNat 99, OfNat.ofNat 100, OfNat.ofNat 101, OfNat.ofNat 102]) = hexT := rfl
    have hb := (s.getD k (OfNat.ofNat 0)).isLt
    have hx := hx2_eq (s.getD k (OfNat.ofNat 0))
    have hsn := hexS_snoc s k
    have e0 : (OfNat.ofNat 0 : B) = 0 := rfl
    rw [e0] at hb hx
    generalize hbb : s.getD k 0 = b at hb hx hsn
    have w1 : wrapI .i64 ((b.toNat : Int).tdiv 16) = ((b.toNat / 16 : Nat) : Int) := by rw [show (b.toNat : Int).tdiv 16 = ((b.toNat / 16 : Nat) : Int) from rfl, wrapI_nat (by omega)]
    have w2 : (b.toNat : Int).tmod 16 = ((b.toNat % 16 : Nat) : Int) := rfl
    have w3 : wrapI .i64 (((b.toNat / 16 : Nat) : Int) + 1) = ((b.toNat / 16 + 1 : Nat) : Int) := by rw [show ((b.toNat / 16 : Nat) : Int) + 1 = ((b.toNat / 16 + 1 : Nat) : Int) by omega, wrapI_nat (by omega)]
    have w4 : wrapI .i64 (((b.toNat % 16 : Nat) : Int) + 1) = ((b.toNat % 16 + 1 : Nat) : Int) := by rw [show ((b.toNat % 16 : Nat) : Int) + 1 = ((b.toNat % 16 + 1 : Nat) : Int) by omega, wrapI_nat (by omega)]
    have s1 := slice1 hexT (b.toNat / 16) (by rw [hexT_len]; omega)
    have s2 := slice1 hexT (b.toNat % 16) (by rw [hexT_len]; omega)
    rw [eT, e0, hbb, w1, w2, w3, w4] at hT
    simp only [Option.getD_some, Int.toNat_natCast, s1, s2] at hT
    have hl := hexS_len (s.take k)
    rw [List.length_take, Nat.min_eq_left hk] at hl
    refine Tr.wp_prune hT ?_
    refine wp_chk_true.2 (wp_br.2 ⟨fun h => ?_, fun h => ?_⟩)
    · have h := of_decide_eq_true h
      have hk' : k < s.length := by omega
      refine wp_chk.2 ⟨?_, wp_leaf.2 (.inl ⟨rfl, hk', ?_⟩)⟩
      · simp only [Bool.and_true, Bool.and_eq_true, decide_eq_true_eq, List.length_append, List.length_singleton]; omega
      · rw [show ((k : Int) + 1) = ((k + 1 : Nat) : Int) by omega, wrapI_nat (by omega)]
        show _ = (([(1,V.ptr 0 0),(3,V.str (hexS (s.take (k + 1)))),(4,V.int .i64 ((k + 1 : Nat) : Int))], [Blk.vals [.bool l,.str s,.isl 3 m g]]) : Fr × Heap)
        rw [hsn hk', hx, List.append_assoc]; rfl
    · have h := of_decide_eq_false h
      have e : k = s.length := by omega
      subst e
      refine wp_leaf.2 (.inr ⟨fun h => (by cases h), ?_⟩)
      rw [← hq, List.take_length, hexO_eq]
end
end Go.Proofs.YtnafebinaheclaaDoor.K
end
section
open Go Go.Lh
namespace Go.Proofs.YtnafebinaheclaaDoor.K
noncomputable section
set_option maxRecDepth 100000
theorem take1_zero (s : List B) (h : 0 < s.length) : (s.take 1 == [0#8]) = (s.getD 0 (OfNat.ofNat 0) == BitVec.ofInt 8 0) := by
  cases s with
  | nil => simp at h
  | cons x r =>
    have e1 : (x :: r).take 1 = [x] := rfl
    have e2 : (x :: r).getD 0 (OfNat.ofNat 0) = x := rfl
    have e3 : BitVec.ofInt 8 0 = 0#8 := by decide
    rw [e1, e2, e3]
    by_cases hx : x = 0#8
    · subst hx; rfl
    · rw [beq_eq_false_iff_ne.2 hx, beq_eq_false_iff_ne.2 (fun e => hx (by injection e))]
theorem dsm_fn (l : Bool) (s : List B) (m : Nat) (g : Nat → Nat → V) : LFn Pr 13 [.agg [.bool l, .str s, .isl 3 m g]] [] (.ret (.tup [.u64 (smallN l s), .bool (smallO l s)])) [] := by
  refine fnT OR2_sound mixed (by kernel_rfl) dm_Ls (dm_x l s m g) ?_
  rw [smallO_eq]
  unfold smallN
  have no : smallB l s = false → (V.tup [V.u64 (BitVec.ofInt 64 0), V.bool false]) = (V.tup [.u64 (@ite _ (smallB l s = true) (Classical.propDecidable _) (valB s) 0), .bool (smallB l s)]) := by
    intro h
    rw [if_neg (by rw [h]; decide), h]; rfl
  have yes : smallB l s = true → (V.tup [V.u64 (valB s), V.bool true]) = (V.tup [.u64 (@ite _ (smallB l s = true) (Classical.propDecidable _) (valB s) 0), .bool (smallB l s)]) := by
    intro h
    rw [if_pos h, h]
  have ok : s.length ≤ 8 → (dm_ok (DM.mk l s m g) && true && true) = true := by
    intro h
    rw [Bool.and_true, Bool.and_true]
    exact @decide_eq_true _ (Classical.propDecidable _) (by have : (2 : Nat) ^ 62 = 4611686018427387904 := by decide
                                                            simp only; omega)
  refine wp_chk_true.2 (wp_br.2 ⟨fun h => wp_chk_true.2 (wp_leaf.2 ?_), fun h => wp_chk_true.2 (wp_br.2 ⟨fun h8 => wp_chk_true.2 (wp_leaf.2 ?_), fun h8 => wp_chk_true.2 (wp_br.2 ⟨fun h1 => wp_chk.2 ⟨?_, wp_br.2 ⟨fun h0 => wp_chk_true.2 (wp_leaf.2 ?_), fun h0 => wp_chk.2 ⟨ok ?_, wp_leaf.2 ?_⟩⟩⟩, fun h1 => wp_chk.2 ⟨ok ?_, wp_leaf.2 ?_⟩⟩)⟩)⟩)
  · rw [no (by unfold smallB; rw [h]; rfl)]
  · have h8 := of_decide_eq_true h8
    rw [no (by unfold smallB; rw [decide_eq_false (by omega)]; simp)]
  · have h1 := of_decide_eq_true h1
    simp only [Bool.and_true, decide_eq_true_eq]; omega
  · have h1 := of_decide_eq_true h1
    rw [no (by unfold smallB; rw [take1_zero s (by omega), h0]; simp)]
  · have h8 := of_decide_eq_false h8; omega
  · have h8 := of_decide_eq_false h8
    have h1 := of_decide_eq_true h1
    rw [yes (by unfold smallB; rw [h, take1_zero s (by omega), h0, decide_eq_true (by omega)]; rfl)]
  · have h8 := of_decide_eq_false h8; omega
  · have h8 := of_decide_eq_false h8
    have h1 := of_decide_eq_false h1
    have e : s = [] := by cases s with | nil => rfl | cons a r => simp only [List.length_cons] at h1; omega
    rw [yes (by unfold smallB; rw [h, decide_eq_true (by omega), e]; rfl)]
/-! ### Show: a list -/
def joinR (q : RW) : Nat → List B
  | 0 => []
  | k + 1 => if k = 0 then shwV (q.at k) else joinR q k ++ [32#8] ++ shwV (q.at k)
def jrO (F : Nat → Nat → V) (n : Nat) : List B := @ite _ True (Classical.propDecidable True) (joinR (rdW F) n) []
theorem joinB_snoc : ∀ (xs : List (List B)) (x : List B), joinB (xs ++ [x]) = if xs = [] then x else joinB xs ++ [32#8] ++ x
  | [], x => by rw [if_pos rfl]; exact joinB_one x
  | [a], x => by
    rw [if_neg (by simp)]
    show joinB [a, x] = _
    rw [joinB_two, joinB_one, joinB_one]; simp
  | a :: b :: r, x => by
    have ih := joinB_snoc (b :: r) x
    rw [if_neg (by simp)] at ih ⊢
    show joinB (a :: b :: (r ++ [x])) = _
    rw [joinB_two, joinB_two]
    have : joinB (b :: (r ++ [x])) = joinB ((b :: r) ++ [x]) := rfl
    rw [this, ih]; simp
theorem joinR_eq (q : RW) (l : List It) (hq : ∀ i (hi : i < l.length), isIt (q.at i) l[i]) : ∀ k, k ≤ l.length → joinR q k = joinB (shws (l.take k))
  | 0, _ => by rw [List.take_zero, shws, joinB_nil, joinR]
  | k + 1, hk => by
    have hs : ∀ (a b : List It), shws (a ++ b) = shws a ++ shws b := by
      intro a
      induction a with
      | nil => intro b; rw [List.nil_append, shws]; rfl
      | cons x r ih => intro b; rw [List.cons_append, shws, shws, ih]; rfl
    have e : shws (l.take (k + 1)) = shws (l.take k) ++ [shw l[k]] := by
      rw [List.take_add_one, List.getElem?_eq_getElem (by omega), hs]
      show _ ++ shws [l[k]] = _
      rw [shws, shws]
    rw [joinR, joinR_eq q l hq k (by omega), e, joinB_snoc, shwV_eq (v := q.at k) (x := l[k]) (hq k (by omega))]
    cases k with
    | zero => rw [List.take_zero, shws, if_pos rfl, if_pos rfl]
    | succ k =>
      rw [if_neg (by omega), if_neg]
      intro e
      have := congrArg List.length e
      rw [shws_len, List.length_take, List.length_nil] at this
      omega
structure DL where
  l : Bool
  s : List B
  n : Nat
  F : Nat → Nat → V
  t : List B
def dl_S (a : DL) (k : Nat) : Fr × Heap := ([(1,.ptr 0 0),(7,.str (a.t ++ joinR (rdW a.F) k)),(8,.int .i64 (k : Int))], [.vals [.bool a.l,.str a.s,.isl 3 a.n a.F]])
def dl_read : Fr → Heap → Option DL := fun f h => match f, h with
  | [(1,.ptr 0 0),(7,.str t),(8,.int .i64 0)], [.vals [.bool l,.str s,.isl 3 n F]] => some ⟨l, s, n, F, t⟩
  | _, _ => none
def dlP (d : Nat) (a : DL) : Prop := rfP d a.n a.F ∧ a.t.length ≤ 100 ∧ (joinR (rdW a.F) a.n).length ≤ 2 ^ 50
def dl_ok (d : Nat) (a : DL) : Bool := @decide (dlP d a) (Classical.propDecidable _)
def dl_E (a : DL) : Tr (X × Fr × Heap) := .leaf (.exit 2, [(7,.str (a.t ++ jrO a.F a.n))], [])
def dl_s (d : Nat) : SmT := whT 12 [1,7,8] dl_read (dl_ok d) dl_E
theorem joinR_mono (q : RW) : ∀ {k n : Nat}, k ≤ n → (joinR q k).length ≤ (joinR q n).length := by
  intro k n h
  induction h with
  | refl => exact Nat.le_refl _
  | step h ih =>
    rename_i m
    rw [joinR]
    split
    · rename_i e
      subst e
      have : (joinR q 0).length = 0 := rfl
      omega
    · rw [List.length_append, List.length_append]; omega
theorem dl_at {d : Nat} (hd : DwOk d) : SmAtT Pr Go.Proofs.Tryd.f18 0 (dl_s d) 1 := by
  refine cntT_at (L := noLoopsT) (fuel := 100) (on := [1,7,8]) (off := [7]) (ODw_sound hd) mixed dl_S (fun a => a.n) (by kernel_rfl) (by kernel_rfl) (by kernel_rfl) LoopsOk.noneT ?_ ?_
  · intro f g a h
    unfold dl_read at h
    split at h <;> cases h
    unfold dl_S
    rw [joinR, List.append_nil]; rfl
  · rintro ⟨l, s, n, F, t⟩ e hok he k hk
    have hok : dlP d ⟨l, s, n, F, t⟩ := @of_decide_eq_true _ (Classical.propDecidable _) hok
    obtain ⟨⟨hF, hn, hrow⟩, ht, hj⟩ := hok
    simp only at hF hn hrow ht hj hk
    obtain ⟨q, hq⟩ : ∃ q, F = rwF q := ⟨_, hF⟩
    subst hq
    simp only [rdW_rwF] at hrow hj
    rw [m40] at hn
    have h50 : (2 : Nat) ^ 50 = 1125899906842624 := by decide
    rw [dl_E, Tr.is_leaf] at he
    simp only at he
    refine Tr.wp_prune (dsl_x d n k l s (t ++ joinR q k) q) ?_
    refine wp_chk_true.2 (wp_br.2 ⟨fun h => ?_, fun h => ?_⟩)
    · have h := of_decide_eq_true h
      have hk' : k < n := by omega
      have c : dpOkB d (V.agg [V.bool (q.b k), V.str (q.s k), V.isl 3 (q.m k) (q.g k)]) = true := @decide_eq_true _ (Classical.propDecidable _) (hrow k hk')
      have hm := joinR_mono q (show k + 1 ≤ n from hk')
      have hv : V.agg [V.bool (q.b k), V.str (q.s k), V.isl 3 (q.m k) (q.g k)] = q.at k := rfl
      have o32 : bytesOf (ByteArray.mk #[OfNat.ofNat 32]) = [32#8] := rfl
      rw [c, hv, o32]
      have hw : wrapI .i64 ((k : Int) + 1) = ((k + 1 : Nat) : Int) := by rw [show (k : Int) + 1 = ((k + 1 : Nat) : Int) by omega, wrapI_nat (by omega)]
      refine wp_chk_true.2 (wp_br.2 ⟨fun h2 => wp_chk.2 ⟨?_, wp_leaf.2 (.inl ⟨rfl, hk', ?_⟩)⟩, fun h2 => wp_chk.2 ⟨?_, wp_leaf.2 (.inl ⟨rfl, hk', ?_⟩)⟩⟩)
      · have h2 := of_decide_eq_true h2
        rw [joinR, if_neg (by omega), List.length_append, List.length_append, List.length_singleton] at hm
        simp only [Bool.and_true, Bool.true_and, Bool.and_eq_true, decide_eq_true_eq, List.length_append, List.length_singleton]; omega
      · have h2 := of_decide_eq_true h2
        rw [hw]
        show _ = (([(1,V.ptr 0 0),(7,V.str (t ++ joinR q (k + 1))),(8,V.int .i64 ((k + 1 : Nat) : Int))], [Blk.vals [.bool l,.str s,.isl 3 n (rwF q)]]) : Fr × Heap)
        rw [joinR, if_neg (by omega), List.append_assoc, List.append_assoc, List.append_assoc]
      · have h2 := of_decide_eq_false h2
        have e0 : k = 0 := by omega
        subst e0
        have j0 : joinR q 0 = [] := rfl
        rw [joinR, if_pos rfl] at hm
        rw [j0]
        simp only [Bool.and_true, Bool.true_and, Bool.and_eq_true, decide_eq_true_eq, List.length_append, List.length_nil]; omega
      · have h2 := of_decide_eq_false h2
        have e0 : k = 0 := by omega
        subst e0
        rw [hw]
        show _ = (([(1,V.ptr 0 0),(7,V.str (t ++ joinR q (0 + 1))),(8,V.int .i64 ((0 + 1 : Nat) : Int))], [Blk.vals [.bool l,.str s,.isl 3 n (rwF q)]]) : Fr × Heap)
        have j0 : joinR q 0 = [] := rfl
        rw [j0, joinR, if_pos rfl, List.append_nil]
    · have h := of_decide_eq_false h
      have e0 : k = n := by omega
      subst e0
      refine wp_leaf.2 (.inr ⟨fun h => (by cases h), ?_⟩)
      rw [← he]
      unfold jrO
      rw [if_pos trivial, rdW_rwF]
theorem dsL {d : Nat} (hd : DwOk d) : LoopsOk Pr Go.Proofs.Tryd.f18 0 (smLT 0 [ds_s, dl_s d]).o := LoopsOk.two (by kernel_rfl) ds_at (dl_at hd)
theorem dwt_x (d : Nat) (s : List B) (m : Nat) (g : Nat → Nat → V) : Tr.prune (Tr.Sh.any.l)
  (execBF Pr OR5 (smLT (0 : Nat) [ds_s, dl_s d]) (100 : Nat) Go.Proofs.Tryd.f18
  [V.agg [V.bool false, V.str s, V.isl (3 : Nat) m g]] []) =
  Tr.chk
  (ds_ok (DM.mk false s m g) &&
      (decide ((1 : Nat) + (hexO s).length ≤ (9223372036854775807 : Nat)) &&
        (decide
            ((bytesOf (ByteArray.mk #[OfNat.ofNat (34 : Nat)]) ++ hexO s).length + (1 : Nat) ≤
              (9223372036854775807 : Nat)) &&
          true)) &&
    true)
  (Tr.leaf
    (Fin.ret
        (V.str
          (bytesOf (ByteArray.mk #[OfNat.ofNat (34 : Nat)]) ++ hexO s ++
            bytesOf (ByteArray.mk #[OfNat.ofNat (34 : Nat)]))),
      [])) := by kernel_rfl
theorem dwl_x (d : Nat) (n : Nat) (F : Nat → Nat → V) : Tr.prune (Tr.Sh.any.r)
  (execBF Pr (ODw d) (smLT (0 : Nat) [ds_s, dl_s d]) (100 : Nat) Go.Proofs.Tryd.f18
  [V.agg [V.bool true, V.str [], V.isl (3 : Nat) n F]] []) =
  Tr.chk
  (dl_ok d (DL.mk true [] n F (bytesOf (ByteArray.mk #[OfNat.ofNat (91 : Nat)]))) &&
      (decide
          ((bytesOf (ByteArray.mk #[OfNat.ofNat (91 : Nat)]) ++ jrO F n).length + (1 : Nat) ≤
            (9223372036854775807 : Nat)) &&
        true) &&
    true)
  (Tr.leaf
    (Fin.ret
        (V.str
          (bytesOf (ByteArray.mk #[OfNat.ofNat (91 : Nat)]) ++ jrO F n ++
            bytesOf (ByteArray.mk #[OfNat.ofNat (93 : Nat)]))),
      [])) := by kernel_rfl
end
end Go.Proofs.YtnafebinaheclaaDoor.K
end
section
open Go Go.Lh
namespace Go.Proofs.YtnafebinaheclaaDoor.K
noncomputable section
set_option maxRecDepth 100000
theorem dw_all : ∀ d, DwOk d
  | 0 => by
    refine ctT_ok (fun v => [v]) (fun _ => []) ?_ (fun v r h => ?_)
    · intro args h a e
      unfold en_read at e
      split at e <;> cases e <;> exact ⟨rfl, rfl⟩
    · rw [dw_f, Tr.is_chk] at h
      obtain ⟨x, _, hx, _⟩ := @of_decide_eq_true _ (Classical.propDecidable _) h.1
      exact absurd hx (Nat.not_lt_zero _)
  | d + 1 => by
    have hd := dw_all d
    refine ctT_ok (fun v => [v]) (fun _ => []) ?_ (fun v r h => ?_)
    · intro args h a e
      unfold en_read at e
      split at e <;> cases e <;> exact ⟨rfl, rfl⟩
    · rw [dw_f, Tr.is_chk, Tr.is_leaf] at h
      obtain ⟨h1, rfl⟩ := h
      obtain ⟨x, hx, hdep, hlen⟩ := @of_decide_eq_true _ (Classical.propDecidable _) h1
      rw [shwV_eq hx]
      refine LFn.wkArgs (args2 := [nrm v]) ?_ (fun I w ρ us h => nrm_one h)
      have hsl := shw_len x
      generalize nrm v = nv at hx ⊢
      cases hx with
      | txt s g =>
        have hs : s.length ≤ most40 := by
          rw [enc] at hlen
          split at hlen
          · exact hlen
          · rw [List.length_append] at hlen; omega
        have hl := hexS_len s
        have e : shw (.txt s) = [34#8] ++ hexS s ++ [34#8] := by rw [shw]; rfl
        refine fnT OR5_sound mixed (by kernel_rfl) (dsL hd) (dwt_x d s 0 g) ?_
        have hok : ds_ok (DM.mk false s 0 g) = true := @decide_eq_true _ (Classical.propDecidable _) hs
        have o34 : bytesOf (ByteArray.mk #[OfNat.ofNat 34]) = [34#8] := rfl
        rw [hok, hexO_eq, e, o34]
        rw [m40] at hs
        refine wp_chk.2 ⟨?_, wp_leaf.2 rfl⟩
        simp only [Bool.and_eq_true, Bool.and_true, Bool.true_and, decide_eq_true_eq, List.length_append, List.length_singleton]; omega
      | lst q l hq =>
        rw [It.dep] at hdep
        have e : shw (.lst l) = [91#8] ++ joinB (shws l) ++ [93#8] := by rw [shw]; rfl
        rw [e] at hsl
        rw [List.length_append, List.length_append, List.length_singleton, List.length_singleton] at hsl
        rw [enc, List.length_append] at hlen hsl
        have hll := encs_len l
        rw [m40] at hlen
        have hj : joinR q l.length = joinB (shws l) := by rw [joinR_eq q l hq l.length (Nat.le_refl _), List.take_length]
        have hjO : jrO (rwF q) l.length = joinB (shws l) := by unfold jrO; rw [if_pos trivial, rdW_rwF, hj]
        refine fnT (ODw_sound hd) mixed (by kernel_rfl) (dsL hd) (dwl_x d l.length (rwF q)) ?_
        have h50 : (2 : Nat) ^ 50 = 1125899906842624 := by decide
        have hok : dl_ok d (DL.mk true [] l.length (rwF q) (bytesOf (ByteArray.mk #[OfNat.ofNat 91]))) = true := by
          refine @decide_eq_true _ (Classical.propDecidable _) ⟨⟨rfl, by show l.length ≤ most40; rw [m40]; omega, fun i (hi : i < l.length) => ⟨l[i], hq i hi, by have := dep_le (List.getElem_mem hi); omega, by have := encs_ge (List.getElem_mem hi); rw [m40]; omega⟩⟩, by show 1 ≤ 100; omega, ?_⟩
          show (joinR q l.length).length ≤ _
          rw [hj]; omega
        have o91 : bytesOf (ByteArray.mk #[OfNat.ofNat 91]) = [91#8] := rfl
        have o93 : bytesOf (ByteArray.mk #[OfNat.ofNat 93]) = [93#8] := rfl
        rw [hok, hjO, e, o91, o93]
        refine wp_chk.2 ⟨?_, wp_leaf.2 rfl⟩
        simp only [Bool.and_eq_true, Bool.and_true, Bool.true_and, decide_eq_true_eq, List.length_append, List.length_singleton]; omega
def dq_read : List V → Heap → Option DM := fun a h => match a, h with
  | [.agg [.bool l, .str s, .isl 3 m g]], [] => some ⟨l, s, m, g⟩
  | _, _ => none
def dq_f (a : DM) : Tr (Fin × Heap) := .leaf (.ret (.tup [.u64 (smallN a.l a.s), .bool (smallO a.l a.s)]), [])
theorem dq_ok : ∀ args h r, ((ctT dq_read dq_f) args h).is r → LFn Pr 13 args h r.1 r.2 := by
  refine ctT_ok (fun a => [.agg [.bool a.l, .str a.s, .isl 3 a.m a.g]]) (fun _ => []) ?_ (fun a r h => ?_)
  · intro args h a e
    unfold dq_read at e
    split at e <;> cases e <;> exact ⟨rfl, rfl⟩
  · rw [dq_f, Tr.is_leaf] at h
    subst h
    exact dsm_fn a.l a.s a.m a.g
theorem any_dep {v : V} (h : okV v) : ∃ d, dpOk d v := by
  obtain ⟨⟨x, hx⟩, hl⟩ := h
  rw [encV_eq hx] at hl
  exact ⟨x.dep + 1, x, hx, Nat.lt_succ_self _, hl⟩
theorem do_ok : ∀ args h r, ((ctT en_read so_f) args h).is r → LFn Pr 18 args h r.1 r.2 := by
  refine ctT_ok (fun v => [v]) (fun _ => []) ?_ (fun v r h => ?_)
  · intro args h a e
    unfold en_read at e
    split at e <;> cases e <;> exact ⟨rfl, rfl⟩
  · rw [so_f, Tr.is_chk, Tr.is_leaf] at h
    obtain ⟨h1, rfl⟩ := h
    obtain ⟨d, hd⟩ := any_dep (@of_decide_eq_true _ (Classical.propDecidable _) h1)
    refine dw_all d [v] [] (.ret (.str (shwV v)), []) ?_
    show (dw_f d v).is _
    rw [dw_f, Tr.is_chk, Tr.is_leaf]
    exact ⟨@decide_eq_true _ (Classical.propDecidable _) hd, rfl⟩
def ro_f (v : V) : Tr (Fin × Heap) := .chk (okVB v) (.leaf (.ret (itV (itO v)), []))
theorem ro_ok : ∀ args h r, ((ctT en_read ro_f) args h).is r → LFn Pr 14 args h r.1 r.2 := by
  refine ctT_ok (fun v => [v]) (fun _ => []) ?_ (fun v r h => ?_)
  · intro args h a e
    unfold en_read at e
    split at e <;> cases e <;> exact ⟨rfl, rfl⟩
  · rw [ro_f, Tr.is_chk, Tr.is_leaf] at h
    obtain ⟨h1, rfl⟩ := h
    obtain ⟨d, hd⟩ := any_dep (@of_decide_eq_true _ (Classical.propDecidable _) h1)
    refine rf_all d [v] [] (.ret (itV (itO v)), []) ?_
    show (rf_f d v).is _
    rw [rf_f, Tr.is_chk, Tr.is_leaf]
    exact ⟨@decide_eq_true _ (Classical.propDecidable _) hd, rfl⟩
theorem eo_ok : ∀ args h r, ((ctT en_read en_f) args h).is r → LFn Pr 16 args h r.1 r.2 := by
  refine ctT_ok (fun v => [v]) (fun _ => []) ?_ (fun v r h => ?_)
  · intro args h a e
    unfold en_read at e
    split at e <;> cases e <;> exact ⟨rfl, rfl⟩
  · rw [en_f, Tr.is_chk, Tr.is_leaf] at h
    obtain ⟨h1, rfl⟩ := h
    obtain ⟨d, hd⟩ := any_dep (@of_decide_eq_true _ (Classical.propDecidable _) h1)
    refine re_all d [v] [] (.ret (.str (encV v)), []) ?_
    show (rE_f d v).is _
    rw [rE_f, Tr.is_chk, Tr.is_leaf]
    exact ⟨@decide_eq_true _ (Classical.propDecidable _) hd, rfl⟩
def KW : KnownT := (16, ctT en_read en_f) :: (14, ctT en_read ro_f) :: (18, ctT en_read so_f) :: (13, ctT dq_read dq_f) :: KB
theorem KW_ok : KOkT Pr KW := KOkT.cons (Enters.of (fn := Go.Proofs.Tryd.f16) (by kernel_rfl) (by kernel_rfl)) eo_ok (KOkT.cons (Enters.of (fn := Go.Proofs.Tryd.f14) (by kernel_rfl) (by kernel_rfl)) ro_ok (KOkT.cons (Enters.of (fn := Go.Proofs.Tryd.f18) (by kernel_rfl) (by kernel_rfl)) do_ok (KOkT.cons (Enters.of (fn := Go.Proofs.Tryd.f13) (by kernel_rfl) (by kernel_rfl)) dq_ok KB_ok)))
def OW : OrcT := autoT Pr ext KW [23,19] 3
theorem OW_sound : OrcSound Pr OW.o := autoT_sound mixed ext_ok KW_ok (by kernel_rfl) 3
def cW1 : Code := dropSeq 3 (bodyOf Go.Proofs.Tryd.f3)
def cW2 : Code := dropSeq 1 cW1
theorem lw1_x (n : Nat) (p : PW) (c : BitVec 64) : Tr.prune (Tr.Sh.any.r)
  (execBYE Pr OW noLoopsT (100 : Nat) Go.Proofs.Tryd.f3 (0 : Nat)
  (Tell.mk [(1 : Nat), (5 : Nat), (6 : Nat)] [(0 : Nat)] []) (Tell.mk [] [] [])
  (takeSeq (3 : Nat) (bodyOf Go.Proofs.Tryd.f3)) [((0 : Nat), V.isl (2 : Nat) n (pwF p)), ((1 : Nat), V.u64 c)] []) =
  Tr.chk
  (decide ((0 : Int) ≤ (some (if (60 : Int) < (↑n : Int) then (60 : Int) else (↑n : Int))).getD (↑n : Int)) &&
      decide ((some (if (60 : Int) < (↑n : Int) then (60 : Int) else (↑n : Int))).getD (↑n : Int) ≤ (↑n : Int)) &&
    (mkPB (61 : Nat)
        (MA.mk ((some (if (60 : Int) < (↑n : Int) then (60 : Int) else (↑n : Int))).getD (↑n : Int) - (0 : Int)).toNat
          (fun i j ↦ pwF p ((none.getD (0 : Int)).toNat + i) j) (0 : Int)) &&
      true))
  (Tr.leaf
    (Sum.inr
      (X.normal, [((1 : Nat), V.u64 c), ((5 : Nat), V.bool true), ((6 : Nat), V.ptr (0 : Nat) (0 : Nat))],
        [Blk.vals
            [V.bool
                (mkI (61 : Nat)
                      ((some (if (60 : Int) < (↑n : Int) then (60 : Int) else (↑n : Int))).getD (↑n : Int) -
                          (0 : Int)).toNat
                      fun i j ↦ pwF p ((none.getD (0 : Int)).toNat + i) j).fI.b,
              V.str
                (mkI (61 : Nat)
                      ((some (if (60 : Int) < (↑n : Int) then (60 : Int) else (↑n : Int))).getD (↑n : Int) -
                          (0 : Int)).toNat
                      fun i j ↦ pwF p ((none.getD (0 : Int)).toNat + i) j).fI.s,
              V.isl (3 : Nat)
                (mkI (61 : Nat)
                      ((some (if (60 : Int) < (↑n : Int) then (60 : Int) else (↑n : Int))).getD (↑n : Int) -
                          (0 : Int)).toNat
                      fun i j ↦ pwF p ((none.getD (0 : Int)).toNat + i) j).fI.m
                (mkI (61 : Nat)
                      ((some (if (60 : Int) < (↑n : Int) then (60 : Int) else (↑n : Int))).getD (↑n : Int) -
                          (0 : Int)).toNat
                      fun i j ↦ pwF p ((none.getD (0 : Int)).toNat + i) j).fI.g]]))) := by kernel_rfl
theorem lw2_x (b : Bool) (h : Bool) (s : List B) (m : Nat) (g : Nat → Nat → V) (c : BitVec 64) : Tr.prune (Tr.Sh.any)
  (execBYE Pr OW noLoopsT (100 : Nat) Go.Proofs.Tryd.f3 (0 : Nat)
  (Tell.mk [(1 : Nat), (5 : Nat), (6 : Nat), (8 : Nat), (9 : Nat), (10 : Nat), (11 : Nat)] [(0 : Nat)] [])
  (Tell.mk [] [] []) (takeSeq (1 : Nat) cW1)
  [((1 : Nat), V.u64 c), ((5 : Nat), V.bool h), ((6 : Nat), V.ptr (0 : Nat) (0 : Nat))]
  [Blk.vals [V.bool b, V.str s, V.isl (3 : Nat) m g]]) =
  Tr.chk (okVB (V.agg [V.bool b, V.str s, V.isl (3 : Nat) m g]) && true)
  (Tr.leaf
    (Sum.inr
      (X.normal,
        [((1 : Nat), V.u64 c), ((5 : Nat), V.bool h), ((6 : Nat), V.ptr (0 : Nat) (0 : Nat)),
          ((8 : Nat), V.u64 (smallN b s)), ((9 : Nat), V.bool (smallO b s)),
          ((10 : Nat),
            V.u64
              (smallN (itO (V.agg [V.bool b, V.str s, V.isl (3 : Nat) m g])).fI.b
                (itO (V.agg [V.bool b, V.str s, V.isl (3 : Nat) m g])).fI.s)),
          ((11 : Nat),
            V.bool
              (smallO (itO (V.agg [V.bool b, V.str s, V.isl (3 : Nat) m g])).fI.b
                (itO (V.agg [V.bool b, V.str s, V.isl (3 : Nat) m g])).fI.s))],
        [Blk.vals [V.bool b, V.str s, V.isl (3 : Nat) m g]]))) := by kernel_rfl
theorem lw3_x (b : Bool) (h : Bool) (o1 : Bool) (o2 : Bool) (s : List B) (m : Nat) (g : Nat → Nat → V) (c : BitVec 64) (n1 : BitVec 64) (n2 : BitVec 64) : Tr.prune (((((Tr.Sh.any.l.l.l.l.l.both
                                              Tr.Sh.any.r.r.r.r.r).l.l.both
                                      Tr.Sh.any.r.r.r.r.r.r.r.r).l.l.both
                              Tr.Sh.any.r.r.r.r.r.r.r.r.r.r.r).l.l.l.l.l.both
                Tr.Sh.any.r.r.r.r.r.r.r.r.r.r.r.r.r.r.r.r.r).l.l.l.l.l.both
  Tr.Sh.any.r.r.r.r.r.r.r.r.r.r.r.r.r.r.r.r.r.r.r.r.r.r.r)
  (execBR Pr OW noLoopsT (100 : Nat) Go.Proofs.Tryd.f3 (0 : Nat) cW2
  [((1 : Nat), V.u64 c), ((5 : Nat), V.bool h), ((6 : Nat), V.ptr (0 : Nat) (0 : Nat)), ((8 : Nat), V.u64 n1),
    ((9 : Nat), V.bool o1), ((10 : Nat), V.u64 n2), ((11 : Nat), V.bool o2)]
  [Blk.vals [V.bool b, V.str s, V.isl (3 : Nat) m g]]) =
  Tr.chk true
  (Tr.br h
    (Tr.chk
      (okVB (V.agg [V.bool b, V.str s, V.isl (3 : Nat) m g]) &&
        (okVB (V.agg [V.bool b, V.str s, V.isl (3 : Nat) m g]) &&
          (okVB
              (V.agg
                [V.bool (itO (V.agg [V.bool b, V.str s, V.isl (3 : Nat) m g])).fI.b,
                  V.str (itO (V.agg [V.bool b, V.str s, V.isl (3 : Nat) m g])).fI.s,
                  V.isl (3 : Nat) (itO (V.agg [V.bool b, V.str s, V.isl (3 : Nat) m g])).fI.m
                    (itO (V.agg [V.bool b, V.str s, V.isl (3 : Nat) m g])).fI.g]) &&
            true)))
      (Tr.br
        (encV (V.agg [V.bool b, V.str s, V.isl (3 : Nat) m g]) ==
          encV
            (V.agg
              [V.bool (itO (V.agg [V.bool b, V.str s, V.isl (3 : Nat) m g])).fI.b,
                V.str (itO (V.agg [V.bool b, V.str s, V.isl (3 : Nat) m g])).fI.s,
                V.isl (3 : Nat) (itO (V.agg [V.bool b, V.str s, V.isl (3 : Nat) m g])).fI.m
                  (itO (V.agg [V.bool b, V.str s, V.isl (3 : Nat) m g])).fI.g]))
        (Tr.chk
          (okVB (V.agg [V.bool b, V.str s, V.isl (3 : Nat) m g]) &&
            (okVB (V.agg [V.bool b, V.str s, V.isl (3 : Nat) m g]) &&
              (okVB
                  (V.agg
                    [V.bool (itO (V.agg [V.bool b, V.str s, V.isl (3 : Nat) m g])).fI.b,
                      V.str (itO (V.agg [V.bool b, V.str s, V.isl (3 : Nat) m g])).fI.s,
                      V.isl (3 : Nat) (itO (V.agg [V.bool b, V.str s, V.isl (3 : Nat) m g])).fI.m
                        (itO (V.agg [V.bool b, V.str s, V.isl (3 : Nat) m g])).fI.g]) &&
                true)))
          (Tr.br
            (shwV (V.agg [V.bool b, V.str s, V.isl (3 : Nat) m g]) ==
              shwV
                (V.agg
                  [V.bool (itO (V.agg [V.bool b, V.str s, V.isl (3 : Nat) m g])).fI.b,
                    V.str (itO (V.agg [V.bool b, V.str s, V.isl (3 : Nat) m g])).fI.s,
                    V.isl (3 : Nat) (itO (V.agg [V.bool b, V.str s, V.isl (3 : Nat) m g])).fI.m
                      (itO (V.agg [V.bool b, V.str s, V.isl (3 : Nat) m g])).fI.g]))
            (Tr.chk true
              (Tr.br (n1 == n2)
                (Tr.chk true
                  (Tr.br (o1 == o2) (Tr.chk true (Tr.leaf (Fin.ret (V.bool (numB c == numB c)), [])))
                    (Tr.chk true (Tr.leaf (Fin.ret (V.bool false), [])))))
                (Tr.chk true (Tr.leaf (Fin.ret (V.bool false), [])))))
            (Tr.chk true (Tr.leaf (Fin.ret (V.bool false), [])))))
        (Tr.chk true (Tr.leaf (Fin.ret (V.bool false), [])))))
    (Tr.chk true (Tr.leaf (Fin.ret (V.bool false), [])))) := by kernel_rfl
end
end Go.Proofs.YtnafebinaheclaaDoor.K
end
section
open Go Go.Lh
namespace Go.Proofs.YtnafebinaheclaaDoor.K
noncomputable section
set_option maxRecDepth 100000
theorem itO_itV (x : It) : itO (itV x) = x := itO_eq (show isIt (nrm (itV x)) x from itV_is x)
theorem rlpWrites_fn (n : Nat) (p : PW) (c : BitVec 64) : LFn Pr 3 [.isl 2 n (pwF p), .u64 c] [] (.ret (.bool true)) [] := by
  refine EndsIn.done (fn := Go.Proofs.Tryd.f3) (by kernel_rfl) (by kernel_rfl) (by kernel_rfl) ?_
  refine EndsIn.cutY (L := noLoopsT) 3 OW_sound mixed (by kernel_rfl) noLoops_all (by kernel_rfl) (lw1_x n p c) ?_
  rw [min60, Option.getD_some, Int.sub_zero, Int.toNat_natCast, Option.getD_none, Int.toNat_zero, law_P, law_I]
  refine wp_chk.2 ⟨by simp only [Bool.and_true, Bool.and_eq_true, decide_eq_true_eq]; omega, wp_leaf.2 ⟨clo_nil, .inl ⟨_, _, rfl, ?_⟩⟩⟩
  obtain ⟨hl, hd⟩ := mk_60 (lawPts n p) (lawPts_len n p)
  have hx : (mkF 61 (lawPts n p)).1 = lawIt n p := rfl
  rw [hx] at hl hd
  generalize lawIt n p = x at hl hd
  have ev : V.agg [V.bool x.fI.b, V.str x.fI.s, V.isl 3 x.fI.m x.fI.g] = itV x := rfl
  have ok : okVB (itV x) = true := itV_ok (by rw [m40]; omega)
  refine EndsIn.cutY (L := noLoopsT) 1 OW_sound mixed (by kernel_rfl) noLoops_all (by kernel_rfl) (lw2_x x.fI.b true x.fI.s x.fI.m x.fI.g c) ?_
  rw [ev, ok, itO_itV]
  refine wp_chk_true.2 (wp_leaf.2 ⟨clo_nil, .inl ⟨_, _, rfl, ?_⟩⟩)
  have hT := lw3_x x.fI.b true (smallO x.fI.b x.fI.s) (smallO x.fI.b x.fI.s) x.fI.s x.fI.m x.fI.g c (smallN x.fI.b x.fI.s) (smallN x.fI.b x.fI.s)
  rw [ev, itO_itV, ev, ok, beq_self_eq_true, beq_self_eq_true, beq_self_eq_true, beq_self_eq_true, beq_self_eq_true] at hT
  refine EndsIn.last OW_sound mixed noLoops_all (by kernel_rfl) hT ?_
  exact brT2 (brT2 (brT2 (brT2 (brT2 (wp_chk_true.2 (wp_leaf.2 rfl))))))
end
end Go.Proofs.YtnafebinaheclaaDoor.K
end
section
open Go Go.Lh
namespace Go.Proofs.YtnafebinaheclaaDoor.K
noncomputable section
set_option maxRecDepth 100000
def cZ1 : Code := dropSeq 10 (bodyOf Go.Proofs.Tryd.f47)
def cZ2 : Code := tailC cZ1
theorem sza_x (s : List B) : Tr.prune (Tr.Sh.any.both
  ((Tr.Sh.any.both (Tr.Sh.any.both (Tr.Sh.any.l.l.l.both (Tr.Sh.any.both Tr.Sh.any).r.r))).both
    (Tr.Sh.any.both (Tr.Sh.any.both (Tr.Sh.any.l.l.l.both (Tr.Sh.any.both Tr.Sh.any).r.r)))))
  (execBYE Pr OR5 noLoopsT (100 : Nat) Go.Proofs.Tryd.f47 (0 : Nat) (Tell.mk [(0 : Nat), (7 : Nat), (8 : Nat)] [] [])
  (Tell.mk [] [] []) (takeSeq (10 : Nat) (bodyOf Go.Proofs.Tryd.f47)) [((0 : Nat), V.str s)] []) =
  Tr.chk true
  (Tr.br ((↑s.length : Int) == (0 : Int))
    (Tr.chk true
      (Tr.leaf
        (Sum.inl (Fin.ret (V.tup [V.int IntKind.i64 (0 : Int), V.int IntKind.i64 (0 : Int), V.bool false]), []))))
    (Tr.chk (decide ((0 : Int) < (↑s.length : Int)) && true && true)
      (Tr.br (decide ((↑(s.getD (0 : Nat) (OfNat.ofNat (0 : Nat))).toNat : Int) ≥ (192 : Int)))
        (Tr.chk true
          (Tr.br (decide ((↑(s.getD (0 : Nat) (OfNat.ofNat (0 : Nat))).toNat : Int) < (128 : Int)))
            (Tr.chk true
              (Tr.leaf
                (Sum.inl
                  (Fin.ret (V.tup [V.int IntKind.i64 (0 : Int), V.int IntKind.i64 (1 : Int), V.bool true]), []))))
            (Tr.chk true
              (Tr.br
                (decide
                  (wrapI IntKind.i64 ((↑(s.getD (0 : Nat) (OfNat.ofNat (0 : Nat))).toNat : Int) - (192 : Int)) ≤
                    (55 : Int)))
                (Tr.chk true
                  (Tr.leaf
                    (Sum.inl
                      (Fin.ret
                          (V.tup
                            [V.int IntKind.i64 (1 : Int),
                              V.int IntKind.i64
                                (wrapI IntKind.i64
                                  ((↑(s.getD (0 : Nat) (OfNat.ofNat (0 : Nat))).toNat : Int) - (192 : Int))),
                              V.bool
                                (decide
                                  (wrapI IntKind.i64 ((↑s.length : Int) - (1 : Int)) ≥
                                    wrapI IntKind.i64
                                      ((↑(s.getD (0 : Nat) (OfNat.ofNat (0 : Nat))).toNat : Int) - (192 : Int))))]),
                        []))))
                (Tr.chk true
                  (Tr.br
                    (decide
                      ((↑s.length : Int) <
                        wrapI IntKind.i64
                          ((1 : Int) +
                            wrapI IntKind.i64
                              (wrapI IntKind.i64
                                  ((↑(s.getD (0 : Nat) (OfNat.ofNat (0 : Nat))).toNat : Int) - (192 : Int)) -
                                (55 : Int)))))
                    (Tr.chk true
                      (Tr.leaf
                        (Sum.inl
                          (Fin.ret (V.tup [V.int IntKind.i64 (0 : Int), V.int IntKind.i64 (0 : Int), V.bool false]),
                            []))))
                    (Tr.chk (decide ((1 : Int) < (↑s.length : Int)) && true)
                      (Tr.br (s.getD (1 : Nat) (OfNat.ofNat (0 : Nat)) == BitVec.ofInt (8 : Nat) (0 : Int))
                        (Tr.chk true
                          (Tr.leaf
                            (Sum.inl
                              (Fin.ret (V.tup [V.int IntKind.i64 (0 : Int), V.int IntKind.i64 (0 : Int), V.bool false]),
                                []))))
                        (Tr.chk true
                          (Tr.leaf
                            (Sum.inr
                              (X.normal,
                                [((0 : Nat), V.str s),
                                  ((7 : Nat),
                                    V.int IntKind.i64
                                      (wrapI IntKind.i64
                                        (wrapI IntKind.i64
                                            ((↑(s.getD (0 : Nat) (OfNat.ofNat (0 : Nat))).toNat : Int) - (192 : Int)) -
                                          (55 : Int)))),
                                  ((8 : Nat), V.int IntKind.i64 (0 : Int))],
                                []))))))))))))
        (Tr.chk true
          (Tr.br (decide ((↑(s.getD (0 : Nat) (OfNat.ofNat (0 : Nat))).toNat : Int) < (128 : Int)))
            (Tr.chk true
              (Tr.leaf
                (Sum.inl
                  (Fin.ret (V.tup [V.int IntKind.i64 (0 : Int), V.int IntKind.i64 (1 : Int), V.bool true]), []))))
            (Tr.chk true
              (Tr.br
                (decide
                  (wrapI IntKind.i64 ((↑(s.getD (0 : Nat) (OfNat.ofNat (0 : Nat))).toNat : Int) - (128 : Int)) ≤
                    (55 : Int)))
                (Tr.chk true
                  (Tr.leaf
                    (Sum.inl
                      (Fin.ret
                          (V.tup
                            [V.int IntKind.i64 (1 : Int),
                              V.int IntKind.i64
                                (wrapI IntKind.i64
                                  ((↑(s.getD (0 : Nat) (OfNat.ofNat (0 : Nat))).toNat : Int) - (128 : Int))),
                              V.bool
                                (decide
                                  (wrapI IntKind.i64 ((↑s.length : Int) - (1 : Int)) ≥
                                    wrapI IntKind.i64
                                      ((↑(s.getD (0 : Nat) (OfNat.ofNat (0 : Nat))).toNat : Int) - (128 : Int))))]),
                        []))))
                (Tr.chk true
                  (Tr.br
                    (decide
                      ((↑s.length : Int) <
                        wrapI IntKind.i64
                          ((1 : Int) +
                            wrapI IntKind.i64
                              (wrapI IntKind.i64
                                  ((↑(s.getD (0 : Nat) (OfNat.ofNat (0 : Nat))).toNat : Int) - (128 : Int)) -
                                (55 : Int)))))
                    (Tr.chk true
                      (Tr.leaf
                        (Sum.inl
                          (Fin.ret (V.tup [V.int IntKind.i64 (0 : Int), V.int IntKind.i64 (0 : Int), V.bool false]),
                            []))))
                    (Tr.chk (decide ((1 : Int) < (↑s.length : Int)) && true)
                      (Tr.br (s.getD (1 : Nat) (OfNat.ofNat (0 : Nat)) == BitVec.ofInt (8 : Nat) (0 : Int))
                        (Tr.chk true
                          (Tr.leaf
                            (Sum.inl
                              (Fin.ret (V.tup [V.int IntKind.i64 (0 : Int), V.int IntKind.i64 (0 : Int), V.bool false]),
                                []))))
                        (Tr.chk true
                          (Tr.leaf
                            (Sum.inr
                              (X.normal,
                                [((0 : Nat), V.str s),
                                  ((7 : Nat),
                                    V.int IntKind.i64
                                      (wrapI IntKind.i64
                                        (wrapI IntKind.i64
                                            ((↑(s.getD (0 : Nat) (OfNat.ofNat (0 : Nat))).toNat : Int) - (128 : Int)) -
                                          (55 : Int)))),
                                  ((8 : Nat), V.int IntKind.i64 (0 : Int))],
                                []))))))))))))))) := by kernel_rfl
theorem szr_x (s : List B) (k : Int) : Tr.prune (Tr.Sh.any)
  (execBY Pr OR5 noLoopsT (100 : Nat) (headC (headC cZ1))
  [((0 : Nat), V.str s), ((7 : Nat), V.int IntKind.i64 k), ((8 : Nat), V.int IntKind.i64 (0 : Int))] []) =
  Tr.chk true
  (Tr.leaf
    (X.normal,
      [((0 : Nat), V.str s), ((7 : Nat), V.int IntKind.i64 k), ((8 : Nat), V.int IntKind.i64 (0 : Int)),
        ((9 : Nat), V.int IntKind.i64 (0 : Int))],
      [])) := by kernel_rfl
theorem szb_x (s : List B) (k : Nat) (m : Nat) (i : Nat) : Tr.prune ((Tr.Sh.any.both Tr.Sh.any).both Tr.Sh.any)
  (execBYE Pr OR5 noLoopsT (100 : Nat) Go.Proofs.Tryd.f47 (0 : Nat)
  (Tell.mk [(0 : Nat), (7 : Nat), (8 : Nat), (9 : Nat)] [] []) (Tell.mk [(0 : Nat), (7 : Nat), (8 : Nat)] [] [])
  (loopBody Go.Proofs.Tryd.f47 (0 : Nat))
  [((0 : Nat), V.str s), ((7 : Nat), V.int IntKind.i64 (↑k : Int)), ((8 : Nat), V.int IntKind.i64 (↑m : Int)),
    ((9 : Nat), V.int IntKind.i64 (↑i : Int))]
  []) =
  Tr.chk true
  (Tr.br (decide ((↑i : Int) < (↑k : Int)))
    (Tr.chk true
      (Tr.br (decide ((↑m : Int) > (1048576 : Int)))
        (Tr.chk true
          (Tr.leaf
            (Sum.inl (Fin.ret (V.tup [V.int IntKind.i64 (0 : Int), V.int IntKind.i64 (0 : Int), V.bool false]), []))))
        (Tr.chk
          (decide ((0 : Int) ≤ wrapI IntKind.i64 ((1 : Int) + (↑i : Int))) &&
                decide (wrapI IntKind.i64 ((1 : Int) + (↑i : Int)) < (↑s.length : Int)) &&
              true &&
            true)
          (Tr.leaf
            (Sum.inr
              (X.normal,
                [((0 : Nat), V.str s), ((7 : Nat), V.int IntKind.i64 (↑k : Int)),
                  ((8 : Nat),
                    V.int IntKind.i64
                      (wrapI IntKind.i64
                        (wrapI IntKind.i64 ((↑m : Int) * (256 : Int)) +
                          (↑(s.getD (wrapI IntKind.i64 ((1 : Int) + (↑i : Int))).toNat (OfNat.ofNat (0 : Nat))).toNat :
                            Int)))),
                  ((9 : Nat), V.int IntKind.i64 (wrapI IntKind.i64 ((↑i : Int) + (1 : Int))))],
                []))))))
    (Tr.leaf
      (Sum.inr
        (X.exit (0 : Nat),
          [((0 : Nat), V.str s), ((7 : Nat), V.int IntKind.i64 (↑k : Int)), ((8 : Nat), V.int IntKind.i64 (↑m : Int))],
          [])))) := by kernel_rfl
theorem szc_x (s : List B) (k : Nat) (m : Nat) : Tr.prune (Tr.Sh.any.l.l.l.l.l.l.both Tr.Sh.any.r.r.r.r.r.r)
  (execBR Pr OR5 noLoopsT (100 : Nat) Go.Proofs.Tryd.f47 (0 : Nat) cZ2
  [((0 : Nat), V.str s), ((7 : Nat), V.int IntKind.i64 (↑k : Int)), ((8 : Nat), V.int IntKind.i64 (↑m : Int))] []) =
  Tr.chk true
  (Tr.br (decide ((↑m : Int) > (55 : Int)))
    (Tr.chk true
      (Tr.leaf
        (Fin.ret
            (V.tup
              [V.int IntKind.i64 (wrapI IntKind.i64 ((1 : Int) + (↑k : Int))), V.int IntKind.i64 (↑m : Int),
                V.bool
                  (decide
                    (wrapI IntKind.i64 (wrapI IntKind.i64 ((↑s.length : Int) - (1 : Int)) - (↑k : Int)) ≥
                      (↑m : Int)))]),
          [])))
    (Tr.chk true
      (Tr.leaf
        (Fin.ret
            (V.tup
              [V.int IntKind.i64 (wrapI IntKind.i64 ((1 : Int) + (↑k : Int))), V.int IntKind.i64 (↑m : Int),
                V.bool false]),
          [])))) := by kernel_rfl
end
end Go.Proofs.YtnafebinaheclaaDoor.K
end
