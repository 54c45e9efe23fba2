/- The functions that this law reaches: what each comes to. -/
import Derived.Test.YtnafebinaheclaaDoorCRReads2
set_option linter.unusedSimpArgs false
set_option linter.unusedVariables false
section
open Go Go.Lh
namespace Go.Proofs.YtnafebinaheclaaDoor.K
noncomputable section
set_option maxRecDepth 100000
/-- a loop by its rounds; one may end the function -/
theorem Runs.loopZ {P : Program} {T : OrcT} {L : LoopsT} {n0 : Nat} {fn : Func} {α : Type} {id : Nat} {c : Code} {R : X → Fr → Heap → Prop} (S : α → Fr × Heap) (μ : α → Nat) (ok : α → Prop) (hO : OrcSound P T.o) (hm : P.follows .mixedOrders = true) (hL : ∀ d, d ∈ loopsOf c → LoopOk P fn.ntmps n0 L.o d) (hd : dstsIn fn.ntmps c = true)
    (round : ∀ a, ok a → ∃ on off fuel, (execBYE P T L fuel fn n0 on off c (S a).1 (S a).2).wp fun q => CloW on off q ∧
      ((∃ a', q = .inr (.normal, S a') ∧ ok a' ∧ μ a' < μ a) ∨ (∃ f g, q = .inr (.exit id, f, g) ∧ ∀ f' g', Weaker fn.ntmps n0 f' g' f g → R .normal f' g') ∨ ∃ e, q = .inl e ∧ ∀ y f k, y ≠ .normal → (∀ i, y ≠ .exit i) → EndX P fn n0 e.1 e.2 y f k → R y f k))
    {a0 : α} (h0 : ok a0) : Runs P fn.ntmps n0 (.block id (.loop c)) (S a0).1 (S a0).2 R := by
  refine Runs.block (Runs.loop (fun n fr h => ∃ a, ok a ∧ μ a = n ∧ fr = (S a).1 ∧ h = (S a).2) (n := μ a0) ⟨a0, h0, rfl, rfl, rfl⟩ ?_)
  rintro n fr h ⟨a, ha, rfl, rfl, rfl⟩
  obtain ⟨on, off, fuel, hw⟩ := round a ha
  obtain ⟨q, h1, hc, h2⟩ := Tr.wp_is hw
  have H := execBYE_sound hO hm hL hd h1 hc
  rcases h2 with ⟨a', rfl, q2, q3⟩ | ⟨f1, g1, rfl, hE⟩ | ⟨e, rfl, hE⟩
  · refine H.mono ?_
    rintro y f k ⟨hy, hwk⟩
    simp only at hy
    subst hy
    exact ⟨μ a', (S a').1, (S a').2, q3, ⟨a', q2, rfl, rfl, rfl⟩, hwk⟩
  · refine H.mono ?_
    rintro y f k ⟨hy, hwk⟩
    simp only at hy
    subst hy
    simp only [thenX, inBlockX, if_true]
    exact hE _ _ hwk
  · refine H.mono ?_
    rintro y f k ⟨hy, hE2⟩
    cases y with
    | normal => exact absurd rfl hy
    | exit _ => exact hE2.elim
    | ret => exact hE .ret f k hy (fun _ e => by cases e) hE2
    | pan v => exact hE (.pan v) f k hy (fun _ e => by cases e) hE2
def szBig (k : Nat) (r : List B) : Prop := ∃ i, i < k ∧ 1048576 < beN (r.take i)
/-- what size tells, to the letter -/
def szX : List B → Int × Int × Bool
  | [] => (0, 0, false)
  | b :: r => if b.toNat < 128 then (0, 1, true) else
    let k := b.toNat - (if 192 ≤ b.toNat then 192 else 128)
    if k ≤ 55 then (1, (k : Int), decide (k ≤ r.length)) else
    if r.length < k - 55 ∨ r.getD 0 0 = 0#8 then (0, 0, false) else
    @ite _ (szBig (k - 55) r) (Classical.propDecidable _) (0, 0, false) (((1 + (k - 55) : Nat) : Int), (beN (r.take (k - 55)) : Int), decide (55 < beN (r.take (k - 55)) ∧ (k - 55) + beN (r.take (k - 55)) ≤ r.length))
def finZ (p : Int × Int × Bool) : Fin × Heap := (.ret (.tup [.int .i64 p.1, .int .i64 p.2.1, .bool p.2.2]), [])
theorem beN_take (r : List B) (i : Nat) (h : i < r.length) : beN (r.take (i + 1)) = beN (r.take i) * 256 + (r.getD i 0).toNat := by
  rw [List.take_add_one, List.getElem?_eq_getElem h, List.getD_eq_getElem?_getD, List.getElem?_eq_getElem h]
  exact beN_snoc _ _
structure ZS where
  i : Nat
def sz_S (b : B) (r : List B) (k : Nat) (a : ZS) : Fr × Heap := ([(0,.str (b :: r)),(7,.int .i64 (k : Int)),(8,.int .i64 (beN (r.take a.i) : Int)),(9,.int .i64 (a.i : Int))], [])
theorem sz_loop (b : B) (r : List B) (k : Nat) (hk : k ≤ r.length) (hr : r.length < 2 ^ 62) :
    EndsIn Pr Go.Proofs.Tryd.f47 0 cZ1 [(0,.str (b :: r)),(7,.int .i64 (k : Int)),(8,.int .i64 0)] [] (finZ (@ite _ (szBig k r) (Classical.propDecidable _) (0, 0, false) (((1 + k : Nat) : Int), (beN (r.take k) : Int), decide (55 < beN (r.take k) ∧ k + beN (r.take k) ≤ r.length)))).1 [] := by
  have h62 : (2 : Nat) ^ 62 = 4611686018427387904 := by decide
  have e : cZ1 = .seq (.seq (headC (headC cZ1)) (.block 0 (.loop (Go.Lh.loopBody Go.Proofs.Tryd.f47 0)))) cZ2 := by kernel_rfl
  have hd7 : dstsIn (Go.Proofs.Tryd.f47).ntmps (headC (headC cZ1)) = true := by kernel_rfl
  have t7 := tree_is (szr_x (b :: r) (k : Int)) rfl
  rw [e]
  refine Runs.seq (Runs.seq ?_)
  refine (execBY_sound (n0 := 0) OR5_sound mixed _ noLoops_all _ _ _ _ _ hd7 t7).mono ?_
  rintro y f0 g ⟨rfl, hw⟩
  refine Runs.weaken hw ?_
  refine Runs.loopZ (T := OR5) (L := noLoopsT) (sz_S b r k) (fun a => k - a.i) (fun a => a.i ≤ k ∧ (∀ j, j < a.i → beN (r.take j) ≤ 1048576)) OR5_sound mixed noLoops_all (by kernel_rfl) ?_ (a0 := ⟨0⟩) ⟨Nat.zero_le _, fun j hj => absurd hj (Nat.not_lt_zero _)⟩
  rintro ⟨i⟩ ⟨hi, hsm⟩
  simp only at hi hsm
  have hb29 : beN (r.take i) ≤ 1048576 * 256 + 255 := by
    cases i with
    | zero => simp [beN]
    | succ j =>
      have := hsm j (Nat.lt_succ_self j)
      rw [beN_take r j (by omega)]
      have := (r.getD j 0).isLt
      omega
  refine ⟨⟨[0,7,8,9],[],[]⟩, ⟨[0,7,8],[],[]⟩, 100, ?_⟩
  refine Tr.wp_prune (szb_x (b :: r) k (beN (r.take i)) i) ?_
  have w1 : wrapI .i64 ((1 : Int) + (i : Int)) = ((i + 1 : Nat) : Int) := by rw [show (1 : Int) + i = ((i + 1 : Nat) : Int) by omega, wrapI_nat (by omega)]
  have w2 : wrapI .i64 ((i : Int) + 1) = ((i + 1 : Nat) : Int) := by rw [show (i : Int) + 1 = ((i + 1 : Nat) : Int) by omega, wrapI_nat (by omega)]
  have w3 : wrapI .i64 ((beN (r.take i) : Int) * 256) = ((beN (r.take i) * 256 : Nat) : Int) := by rw [show (beN (r.take i) : Int) * 256 = ((beN (r.take i) * 256 : Nat) : Int) by omega, wrapI_nat (by omega)]
  have g1 : (b :: r).getD (((i + 1 : Nat) : Int)).toNat (OfNat.ofNat 0) = r.getD i 0 := rfl
  have hbb := (r.getD i 0).isLt
  have w4 : wrapI .i64 (((beN (r.take i) * 256 : Nat) : Int) + ((r.getD i 0).toNat : Int)) = ((beN (r.take i) * 256 + (r.getD i 0).toNat : Nat) : Int) := by rw [show ((beN (r.take i) * 256 : Nat) : Int) + ((r.getD i 0).toNat : Int) = ((beN (r.take i) * 256 + (r.getD i 0).toNat : Nat) : Int) by omega, wrapI_nat (by omega)]
  rw [w1, w2, w3, g1, w4]
  refine wp_chk_true.2 (wp_br.2 ⟨fun h1 => wp_chk_true.2 (wp_br.2 ⟨fun h2 => wp_chk_true.2 (wp_leaf.2 ⟨trivial, .inr (.inr ⟨_, rfl, fun y f k2 hy hx hE => ?_⟩)⟩), fun h2 => wp_chk.2 ⟨?_, wp_leaf.2 ⟨clo_nil, .inl ⟨⟨i + 1⟩, ?_, ?_, ?_⟩⟩⟩⟩), fun h1 => wp_leaf.2 ⟨clo_nil, .inr (.inl ⟨_, _, rfl, fun f' g' hw => ?_⟩)⟩⟩)
  · have h1 := of_decide_eq_true h1
    have h2 := of_decide_eq_true h2
    have hbig : szBig k r := ⟨i, by omega, by omega⟩
    rw [if_pos hbig]
    cases y with
    | normal => exact absurd rfl hy
    | exit j => exact absurd rfl (hx j)
    | ret => exact hE
    | pan v => exact hE
  · have h1 := of_decide_eq_true h1
    simp only [Bool.and_true, Bool.and_eq_true, decide_eq_true_eq, List.length_cons]; omega
  · have h1 := of_decide_eq_true h1
    rw [← beN_take r i (by omega)]; rfl
  · have h1 := of_decide_eq_true h1
    have h2 := of_decide_eq_false h2
    refine ⟨by show i + 1 ≤ k; omega, fun j (hj : j < i + 1) => ?_⟩
    rcases Nat.lt_or_ge j i with h3 | h3
    · exact hsm j h3
    · have : j = i := by omega
      subst this; omega
  · have h1 := of_decide_eq_true h1
    simp only; omega
  · have h1 := of_decide_eq_false h1
    have hik : i = k := by omega
    subst hik
    have hnb : ¬ szBig i r := by
      rintro ⟨j, hj, hb⟩
      have := hsm j hj
      omega
    rw [if_neg hnb]
    simp only [thenX]
    refine Runs.weaken hw ?_
    refine EndsIn.last (T := OR5) OR5_sound mixed noLoops_all (by kernel_rfl) (szc_x (b :: r) i (beN (r.take i))) ?_
    have v1 : wrapI .i64 ((1 : Int) + (i : Int)) = ((1 + i : Nat) : Int) := by rw [show (1 : Int) + i = ((1 + i : Nat) : Int) by omega, wrapI_nat (by omega)]
    have v2 : wrapI .i64 (((b :: r).length : Int) - 1) = (r.length : Int) := by rw [List.length_cons, show ((r.length + 1 : Nat) : Int) - 1 = (r.length : Int) by omega, wrapI_nat (by omega)]
    have v3 : wrapI .i64 ((r.length : Int) - (i : Int)) = ((r.length - i : Nat) : Int) := by rw [show (r.length : Int) - (i : Int) = ((r.length - i : Nat) : Int) by omega, wrapI_nat (by omega)]
    rw [v1, v2, v3]
    refine wp_chk_true.2 (wp_br.2 ⟨fun h2 => wp_chk_true.2 (wp_leaf.2 ?_), fun h2 => wp_chk_true.2 (wp_leaf.2 ?_)⟩)
    · have h2 := of_decide_eq_true h2
      have : decide (((r.length - i : Nat) : Int) ≥ (beN (r.take i) : Int)) = decide (55 < beN (r.take i) ∧ i + beN (r.take i) ≤ r.length) := by
        by_cases h3 : 55 < beN (r.take i) ∧ i + beN (r.take i) ≤ r.length
        · rw [decide_eq_true h3, decide_eq_true (by omega)]
        · rw [decide_eq_false h3, decide_eq_false (by omega)]
      rw [this]; rfl
    · have h2 := of_decide_eq_false h2
      have : decide (55 < beN (r.take i) ∧ i + beN (r.take i) ≤ r.length) = false := decide_eq_false (by omega)
      rw [this]; rfl
theorem sz_fn (s : List B) (hs : s.length < 2 ^ 62) : LFn Pr 47 [.str s] [] (finZ (szX s)).1 [] := by
  have h62 : (2 : Nat) ^ 62 = 4611686018427387904 := by decide
  refine EndsIn.done (fn := Go.Proofs.Tryd.f47) (by kernel_rfl) (by kernel_rfl) (by kernel_rfl) ?_
  refine EndsIn.cutY (L := noLoopsT) 10 OR5_sound mixed (by kernel_rfl) noLoops_all (by kernel_rfl) (sza_x s) ?_
  cases s with
  | nil => exact brT2 (wp_chk_true.2 (wp_leaf.2 ⟨trivial, .inr ⟨_, rfl, .inl rfl⟩⟩))
  | cons b r =>
    rw [List.length_cons] at hs
    have n0 : (((b :: r).length : Int) == 0) = false := by rw [beq_eq_false_iff_ne, List.length_cons]; omega
    have g0 : (b :: r).getD 0 (OfNat.ofNat 0) = b := rfl
    have g1 : (b :: r).getD 1 (OfNat.ofNat 0) = r.getD 0 0 := rfl
    have hb := b.isLt
    have z0 : BitVec.ofInt 8 0 = 0#8 := by decide
    have hl : ((b :: r).length : Int) = ((r.length + 1 : Nat) : Int) := rfl
    rw [n0, g0, g1, z0, hl]
    have v2 : wrapI .i64 (((r.length + 1 : Nat) : Int) - 1) = (r.length : Int) := by rw [show ((r.length + 1 : Nat) : Int) - 1 = (r.length : Int) by omega, wrapI_nat (by omega)]
    rw [v2]
    -- the same for both bases
    have go : ∀ base : Nat, base ≤ b.toNat → (base = 192 ∨ base = 128) → (192 ≤ b.toNat → base = 192) → (b.toNat < 192 → base = 128) → 128 ≤ b.toNat →
        Tr.wp (fun q => CloW ⟨[0,7,8],[],[]⟩ ⟨[],[],[]⟩ q ∧ ((∃ f g, q = .inr (.normal, f, g) ∧ EndsIn Pr Go.Proofs.Tryd.f47 0 (dropSeq 10 (bodyOf Go.Proofs.Tryd.f47)) f g (finZ (szX (b :: r))).1 []) ∨ ∃ g, q = .inl ((finZ (szX (b :: r))).1, g) ∧ DeadOf g [])) (Tr.chk true (Tr.br (decide (wrapI .i64 ((b.toNat : Int) - (base : Int)) ≤ 55))
                (Tr.chk true (Tr.leaf (Sum.inl (Fin.ret (V.tup [V.int .i64 1, V.int .i64 (wrapI .i64 ((b.toNat : Int) - (base : Int))), V.bool (decide ((r.length : Int) ≥ wrapI .i64 ((b.toNat : Int) - (base : Int))))]), []))))
                (Tr.chk true (Tr.br (decide (((r.length + 1 : Nat) : Int) < wrapI .i64 (1 + wrapI .i64 (wrapI .i64 ((b.toNat : Int) - (base : Int)) - 55))))
                    (Tr.chk true (Tr.leaf (Sum.inl (Fin.ret (V.tup [V.int .i64 0, V.int .i64 0, V.bool false]), []))))
                    (Tr.chk (decide ((1 : Int) < ((r.length + 1 : Nat) : Int)) && true) (Tr.br (r.getD 0 0 == 0#8)
                        (Tr.chk true (Tr.leaf (Sum.inl (Fin.ret (V.tup [V.int .i64 0, V.int .i64 0, V.bool false]), []))))
                        (Tr.chk true (Tr.leaf (Sum.inr (X.normal, [(0, V.str (b :: r)), (7, V.int .i64 (wrapI .i64 (wrapI .i64 ((b.toNat : Int) - (base : Int)) - 55))), (8, V.int .i64 0)], [])))))))))) := by
      intro base h1 h2 h3 h4 h5
      have hbase : (if 192 ≤ b.toNat then 192 else 128) = base := by split <;> omega
      have hX : szX (b :: r) = (if b.toNat - base ≤ 55 then (1, ((b.toNat - base : Nat) : Int), decide (b.toNat - base ≤ r.length)) else
          if r.length < (b.toNat - base) - 55 ∨ r.getD 0 0 = 0#8 then (0, 0, false) else
          @ite _ (szBig ((b.toNat - base) - 55) r) (Classical.propDecidable _) (0, 0, false) (((1 + ((b.toNat - base) - 55) : Nat) : Int), (beN (r.take ((b.toNat - base) - 55)) : Int), decide (55 < beN (r.take ((b.toNat - base) - 55)) ∧ ((b.toNat - base) - 55) + beN (r.take ((b.toNat - base) - 55)) ≤ r.length))) := by
        rw [szX, if_neg (by omega), hbase]
      have w1 : wrapI .i64 ((b.toNat : Int) - (base : Int)) = ((b.toNat - base : Nat) : Int) := by rw [show (b.toNat : Int) - (base : Int) = ((b.toNat - base : Nat) : Int) by omega, wrapI_nat (by omega)]
      rw [hX, w1]
      generalize hk : b.toNat - base = k
      refine wp_chk_true.2 (wp_br.2 ⟨fun e1 => wp_chk_true.2 (wp_leaf.2 ⟨trivial, .inr ⟨_, ?_, .inl rfl⟩⟩), fun e1 => ?_⟩)
      · have e1 := of_decide_eq_true e1
        rw [if_pos (by omega)]
        have : decide ((r.length : Int) ≥ (k : Int)) = decide (k ≤ r.length) := by
          by_cases h : k ≤ r.length
          · rw [decide_eq_true h, decide_eq_true (by omega)]
          · rw [decide_eq_false h, decide_eq_false (by omega)]
        rw [this]; rfl
      · have e1 := of_decide_eq_false e1
        have w2 : wrapI .i64 ((k : Int) - 55) = ((k - 55 : Nat) : Int) := by rw [show (k : Int) - 55 = ((k - 55 : Nat) : Int) by omega, wrapI_nat (by omega)]
        have w3 : wrapI .i64 ((1 : Int) + ((k - 55 : Nat) : Int)) = ((1 + (k - 55) : Nat) : Int) := by rw [show (1 : Int) + ((k - 55 : Nat) : Int) = ((1 + (k - 55) : Nat) : Int) by omega, wrapI_nat (by omega)]
        rw [w2, w3, if_neg (by omega)]
        refine wp_chk_true.2 (wp_br.2 ⟨fun e2 => wp_chk_true.2 (wp_leaf.2 ⟨trivial, .inr ⟨_, ?_, .inl rfl⟩⟩), fun e2 => wp_chk.2 ⟨?_, wp_br.2 ⟨fun e3 => wp_chk_true.2 (wp_leaf.2 ⟨trivial, .inr ⟨_, ?_, .inl rfl⟩⟩), fun e3 => wp_chk_true.2 (wp_leaf.2 ⟨clo_nil, .inl ⟨_, _, rfl, ?_⟩⟩)⟩⟩⟩)
        · have e2 := of_decide_eq_true e2
          rw [if_pos (.inl (by omega))]; rfl
        · have e2 := of_decide_eq_false e2
          simp only [Bool.and_true, decide_eq_true_eq]; omega
        · rw [if_pos (.inr (eq_of_beq e3))]; rfl
        · have e2 := of_decide_eq_false e2
          have hne : r.getD 0 0 ≠ 0#8 := by intro e; rw [e] at e3; cases e3
          rw [if_neg (by rintro (h | h); · omega
                         exact hne h)]
          exact sz_loop b r (k - 55) (by omega) (by omega)
    refine brF2 (wp_chk.2 ⟨by simp only [Bool.and_true, decide_eq_true_eq]; omega, wp_br.2 ⟨fun h1 => wp_chk_true.2 (wp_br.2 ⟨fun h2 => ?_, fun h2 => ?_⟩), fun h1 => wp_chk_true.2 (wp_br.2 ⟨fun h2 => ?_, fun h2 => ?_⟩)⟩⟩)
    · have h1 := of_decide_eq_true h1; have h2 := of_decide_eq_true h2
      omega
    · have h1 := of_decide_eq_true h1
      exact go 192 (by omega) (.inl rfl) (fun _ => rfl) (fun h => by omega) (by omega)
    · have h2 := of_decide_eq_true h2
      have : szX (b :: r) = (0, 1, true) := by rw [szX, if_pos (by omega)]
      rw [this]
      exact wp_chk_true.2 (wp_leaf.2 ⟨trivial, .inr ⟨_, rfl, .inl rfl⟩⟩)
    · have h1 := of_decide_eq_false h1; have h2 := of_decide_eq_false h2
      exact go 128 (by omega) (.inr rfl) (fun h => by omega) (fun _ => rfl) (by omega)
end
end Go.Proofs.YtnafebinaheclaaDoor.K
end
section
open Go Go.Lh
namespace Go.Proofs.YtnafebinaheclaaDoor.K
noncomputable section
set_option maxRecDepth 100000
def szF : List B → Option (Nat × Nat)
  | [] => none
  | b :: r => if b.toNat < 128 then some (0, 1) else (mnF (b.toNat - (if 192 ≤ b.toNat then 192 else 128)) r).bind fun p => if p.1 ≤ p.2.length then some ((r.length - p.2.length) + 1, p.1) else none
theorem beN_mono (r : List B) : ∀ {i j : Nat}, i ≤ j → j ≤ r.length → beN (r.take i) ≤ beN (r.take j) := by
  intro i j h
  induction h with
  | refl => intro _; exact Nat.le_refl _
  | step h ih =>
    intro hj
    rename_i m
    have := ih (by omega)
    rw [beN_take r m (by omega)]
    omega
theorem sz_spec (s : List B) (hs : s.length ≤ 65536) : (∀ a n, szF s = some (a, n) → szX s = ((a : Int), (n : Int), true)) ∧ (szF s = none → (szX s).2.2 = false) := by
  cases s with
  | nil => exact ⟨fun a n h => (by cases h), fun _ => rfl⟩
  | cons b r =>
    rw [List.length_cons] at hs
    have hb := b.isLt
    rw [szF, szX]
    by_cases h1 : b.toNat < 128
    · rw [if_pos h1, if_pos h1]
      exact ⟨fun a n h => (by cases h; rfl), fun h => (by cases h)⟩
    · rw [if_neg h1, if_neg h1]
      have hk : b.toNat - (if 192 ≤ b.toNat then 192 else 128) ≤ 63 := by split <;> omega
      generalize b.toNat - (if 192 ≤ b.toNat then 192 else 128) = k at hk
      simp only
      unfold mnF
      by_cases h2 : k ≤ 55
      · rw [if_pos h2, if_pos h2, Option.bind_some]
        simp only
        by_cases h3 : k ≤ r.length
        · rw [if_pos h3, decide_eq_true h3, Nat.sub_self]
          exact ⟨fun a n h => (by cases h; rfl), fun h => (by cases h)⟩
        · rw [if_neg h3, decide_eq_false h3]
          exact ⟨fun a n h => (by cases h), fun _ => rfl⟩
      · rw [if_neg h2, if_neg h2]
        by_cases h3 : r.length < k - 55 ∨ r.getD 0 0 = 0#8
        · rw [if_pos h3]
          have hn : ¬ (k - 55 ≤ r.length ∧ smallB false (r.take (k - 55)) = true ∧ 55 < (smallN false (r.take (k - 55))).toNat ∧ (smallN false (r.take (k - 55))).toNat ≤ 65536) := by
            rintro ⟨c1, c2, _⟩
            rcases h3 with h3 | h3
            · omega
            · have := (smallB_iff c2).2
              cases r with
              | nil => simp only [List.length_nil] at c1; omega
              | cons x r =>
                have h3 : x = 0#8 := h3
                subst h3
                obtain ⟨m, hm⟩ : ∃ m, k - 55 = m + 1 := ⟨k - 56, by omega⟩
                rw [hm] at this
                cases this
          rw [if_neg hn]
          exact ⟨fun a n h => (by cases h), fun _ => rfl⟩
        · rw [if_neg h3]
          have hkl : k - 55 ≤ r.length := Nat.le_of_not_lt fun h => h3 (.inl h)
          have hne : r.getD 0 0 ≠ 0#8 := fun h => h3 (.inr h)
          have hsm : smallB false (r.take (k - 55)) = true := by
            unfold smallB
            have e1 : ((r.take (k - 55)).take 1 == [0#8]) = false := by
              cases r with
              | nil => simp only [List.length_nil] at hkl; omega
              | cons x r =>
                obtain ⟨m, hm⟩ : ∃ m, k - 55 = m + 1 := ⟨k - 56, by omega⟩
                rw [hm]
                show ([x] == [0#8]) = false
                have hne : x ≠ 0#8 := hne
                simpa using hne
            rw [e1, decide_eq_true (by rw [List.length_take]; omega)]; rfl
          have hval := smallN_val hsm
          rw [hval]
          by_cases h5 : 55 < beN (r.take (k - 55)) ∧ (k - 55) + beN (r.take (k - 55)) ≤ r.length
          · have hnb : ¬ szBig (k - 55) r := by
              rintro ⟨i, hi, hbig⟩
              have := beN_mono r (show i ≤ k - 55 by omega) hkl
              omega
            rw [if_neg hnb, if_pos ⟨hkl, hsm, h5.1, by omega⟩, Option.bind_some, decide_eq_true h5]
            simp only
            rw [if_pos (by rw [List.length_drop]; omega)]
            refine ⟨fun a n h => ?_, fun h => (by cases h)⟩
            cases h
            rw [List.length_drop, show r.length - (r.length - (k - 55)) + 1 = 1 + (k - 55) by omega]
          · have : (@ite _ (szBig (k - 55) r) (Classical.propDecidable _) ((0 : Int), (0 : Int), false) (((1 + (k - 55) : Nat) : Int), (beN (r.take (k - 55)) : Int), decide (55 < beN (r.take (k - 55)) ∧ (k - 55) + beN (r.take (k - 55)) ≤ r.length))).2.2 = false := by
              split
              · rfl
              · exact decide_eq_false h5
            refine ⟨fun a n h => ?_, fun _ => this⟩
            exfalso
            split at h
            · rename_i hc
              rw [Option.bind_some] at h
              simp only at h
              split at h
              · rename_i hd
                rw [List.length_drop] at hd
                exact h5 ⟨hc.2.2.1, by omega⟩
              · cases h
            · cases h
def szO (s : List B) : Bool := @decide (∃ p, szF s = some p) (Classical.propDecidable _)
def szA (s : List B) : Int := @ite _ True (Classical.propDecidable True) (((szF s).getD (0, 0)).1 : Int) 0
def szN (s : List B) : Int := @ite _ True (Classical.propDecidable True) (((szF s).getD (0, 0)).2 : Int) 0
theorem szA_eq {s : List B} {p : Nat × Nat} (h : szF s = some p) : szA s = (p.1 : Int) := by unfold szA; rw [if_pos trivial, h]; rfl
theorem szN_eq {s : List B} {p : Nat × Nat} (h : szF s = some p) : szN s = (p.2 : Int) := by unfold szN; rw [if_pos trivial, h]; rfl
def szL (s : List B) : Bool := @decide (s.length ≤ 65536) (Classical.propDecidable _)
def sz_f (s : List B) : Tr (Fin × Heap) := .chk (szL s) (.br (szO s) (.leaf (.ret (.tup [.int .i64 (szA s), .int .i64 (szN s), .bool true]), [])) (.leaf (.ret (.tup [.any, .any, .bool false]), [])))
theorem wk_any (v : V) : v.Wk .any := fun _ _ _ _ _ => .any _ _
theorem wk_tup3 {a b c a' b' : V} (h1 : a.Wk a') (h2 : b.Wk b') : V.Wk (.tup [a, b, c]) (.tup [a', b', c]) := by
  intro I w ρ u h
  cases h with
  | tup _ _ cs h =>
    cases h with
    | cons _ _ u1 _ r1 k1 h =>
      cases h with
      | cons _ _ u2 _ r2 k2 h => exact .tup _ _ _ (.cons _ _ _ _ _ (h1 _ _ _ _ k1) (.cons _ _ _ _ _ (h2 _ _ _ _ k2) h))
theorem sz_ok : ∀ args h r, ((ctT dc_read sz_f) args h).is r → LFn Pr 47 args h r.1 r.2 := by
  refine ctT_ok (fun s => [.str s]) (fun _ => []) ?_ (fun s r h => ?_)
  · intro args h a e
    unfold dc_read at e
    split at e <;> cases e <;> exact ⟨rfl, rfl⟩
  · rw [sz_f, Tr.is_chk, Tr.is_br] at h
    obtain ⟨h1, h⟩ := h
    have h1 : s.length ≤ 65536 := @of_decide_eq_true _ (Classical.propDecidable _) h1
    have h62 : (2 : Nat) ^ 62 = 4611686018427387904 := by decide
    have H := sz_fn s (by omega)
    obtain ⟨q1, q2⟩ := sz_spec s h1
    cases hx : szF s with
    | none =>
      have : szO s = false := @decide_eq_false _ (Classical.propDecidable _) (by rw [hx]; rintro ⟨p, hp⟩; cases hp)
      rw [if_neg (by rw [this]; decide), Tr.is_leaf] at h
      subst h
      have q2 := q2 hx
      generalize szX s = z at H q2
      obtain ⟨A, N, o⟩ := z
      simp only at q2
      subst q2
      exact LFn.wkRet H (wk_tup3 (wk_any _) (wk_any _))
    | some p =>
      obtain ⟨a, n⟩ := p
      have : szO s = true := @decide_eq_true _ (Classical.propDecidable _) ⟨_, hx⟩
      rw [if_pos this, Tr.is_leaf, szA_eq hx, szN_eq hx] at h
      subst h
      rw [q1 a n hx] at H
      exact H
/-! ### take -/
def tdN (f : Nat) (s : List B) : Int := @ite _ True (Classical.propDecidable True) ((s.length - (rdR f s).length : Nat) : Int) 0
def td_read : List V → Heap → Option (Int × List B) := fun a h => match a, h with
  | [.str s, .int .i64 n], [] => some (n, s)
  | _, _ => none
def tdP (f : Nat) (a : Int × List B) : Prop := a.1 = 65 - (f : Int) ∧ f ≤ 65 ∧ a.2.length ≤ 65536
def tdPB (f : Nat) (a : Int × List B) : Bool := @decide (tdP f a) (Classical.propDecidable _)
def td_f (f : Nat) (a : Int × List B) : Tr (Fin × Heap) := .chk (tdPB f a) (.br (rdO f a.2) (.leaf (.ret (.tup [itV (rdI f a.2), .int .i64 (tdN f a.2), .bool true]), [])) (.leaf (.ret (.tup [.agg [.bool false, .str [], .nilSl], .int .i64 0, .bool false]), [])))
def TdOk (f : Nat) : Prop := ∀ args h r, ((ctT td_read (td_f f)) args h).is r → LFn Pr 37 args h r.1 r.2
def OT (f : Nat) : OrcT := autoT Pr ext [(37, ctT td_read (td_f f)), (47, ctT dc_read sz_f)] [] 3
theorem OT_sound {f : Nat} (h : TdOk f) : OrcSound Pr (OT f).o := autoT_sound mixed ext_ok (KOkT.cons (Enters.of (fn := Go.Proofs.Tryd.f37) (by kernel_rfl) (by kernel_rfl)) h (KOkT.cons (Enters.of (fn := Go.Proofs.Tryd.f47) (by kernel_rfl) (by kernel_rfl)) sz_ok .nil)) (by kernel_rfl) 3
def OT0 : OrcT := autoT Pr ext [(47, ctT dc_read sz_f)] [] 3
theorem OT0_sound : OrcSound Pr OT0.o := autoT_sound mixed ext_ok (KOkT.cons (Enters.of (fn := Go.Proofs.Tryd.f47) (by kernel_rfl) (by kernel_rfl)) sz_ok .nil) (by kernel_rfl) 3
def cT1 : Code := dropSeq 2 (bodyOf Go.Proofs.Tryd.f37)
def cT2 : Code := dropSeq 2 cT1
def cT3 : Code := tailC cT2
theorem tta_x (d : Int) (s : List B) : Tr.prune ((Tr.Sh.any.both Tr.Sh.any).r.r.both Tr.Sh.any.l.l.l)
  (execBYE Pr OT0 noLoopsT (100 : Nat) Go.Proofs.Tryd.f37 (0 : Nat)
  (Tell.mk [(0 : Nat), (1 : Nat), (4 : Nat), (7 : Nat), (8 : Nat)] [(0 : Nat)] []) (Tell.mk [] [] [])
  (takeSeq (2 : Nat) (bodyOf Go.Proofs.Tryd.f37)) [((0 : Nat), V.str s), ((1 : Nat), V.int IntKind.i64 d)] []) =
  Tr.chk (szL s)
  (Tr.br (szO s)
    (Tr.chk true
      (Tr.br (decide (d > (64 : Int)))
        (Tr.chk true
          (Tr.leaf
            (Sum.inl
              (Fin.ret
                  (V.tup
                    [V.agg [V.bool false, V.str (bytesOf (ByteArray.mk #[])), V.nilSl], V.int IntKind.i64 (0 : Int),
                      V.bool false]),
                []))))
        (Tr.leaf
          (Sum.inr
            (X.normal,
              [((0 : Nat), V.str s), ((1 : Nat), V.int IntKind.i64 d), ((4 : Nat), V.ptr (0 : Nat) (0 : Nat)),
                ((7 : Nat), V.int IntKind.i64 (szA s)), ((8 : Nat), V.int IntKind.i64 (szN s))],
              [Blk.vals [V.bool false, V.str (bytesOf (ByteArray.mk #[])), V.nilSl]])))))
    (Tr.chk true
      (Tr.leaf
        (Sum.inl
          (Fin.ret
              (V.tup
                [V.agg [V.bool false, V.str (bytesOf (ByteArray.mk #[])), V.nilSl], V.int IntKind.i64 (0 : Int),
                  V.bool false]),
            []))))) := by kernel_rfl
theorem ttb_x (d : Int) (s : List B) (a : Nat) (n : Nat) : Tr.prune ((((Tr.Sh.any.both Tr.Sh.any).l.l.both
            Tr.Sh.any.r.r.r).l.both
      Tr.Sh.any.r.r.r.r.r).both
  Tr.Sh.any)
  (execBYE Pr OT0 noLoopsT (100 : Nat) Go.Proofs.Tryd.f37 (0 : Nat)
  (Tell.mk [(1 : Nat), (4 : Nat), (7 : Nat), (8 : Nat), (10 : Nat), (11 : Nat)] [(0 : Nat), (1 : Nat)] [])
  (Tell.mk [] [] []) (takeSeq (2 : Nat) cT1)
  [((0 : Nat), V.str s), ((1 : Nat), V.int IntKind.i64 d), ((4 : Nat), V.ptr (0 : Nat) (0 : Nat)),
    ((7 : Nat), V.int IntKind.i64 (↑a : Int)), ((8 : Nat), V.int IntKind.i64 (↑n : Int))]
  [Blk.vals [V.bool false, V.str [], V.nilSl]]) =
  Tr.chk
  (decide
          ((some (↑a : Int)).getD (0 : Int) ≤
            (some (wrapI IntKind.i64 ((↑a : Int) + (↑n : Int)))).getD (↑s.length : Int)) &&
        decide ((some (wrapI IntKind.i64 ((↑a : Int) + (↑n : Int)))).getD (↑s.length : Int) ≤ (↑s.length : Int)) &&
      true &&
    (decide ((0 : Int) < (↑s.length : Int)) && true))
  (Tr.br (decide (s.getD (0 : Nat) (OfNat.ofNat (0 : Nat)) < BitVec.ofInt (8 : Nat) (192 : Int)))
    (Tr.chk true
      (Tr.br ((↑a : Int) == (1 : Int))
        (Tr.chk true
          (Tr.br ((↑n : Int) == (1 : Int))
            (Tr.chk
              (decide
                  ((0 : Int) <
                    (↑(List.drop ((some (↑a : Int)).getD (0 : Int)).toNat
                            (List.take
                              ((some (wrapI IntKind.i64 ((↑a : Int) + (↑n : Int)))).getD (↑s.length : Int)).toNat
                              s)).length :
                      Int)) &&
                true)
              (Tr.br
                (decide
                  ((List.drop ((some (↑a : Int)).getD (0 : Int)).toNat
                          (List.take ((some (wrapI IntKind.i64 ((↑a : Int) + (↑n : Int)))).getD (↑s.length : Int)).toNat
                            s)).getD
                      (0 : Nat) (OfNat.ofNat (0 : Nat)) <
                    BitVec.ofInt (8 : Nat) (128 : Int)))
                (Tr.chk true
                  (Tr.leaf
                    (Sum.inl
                      (Fin.ret
                          (V.tup
                            [V.agg [V.bool false, V.str (bytesOf (ByteArray.mk #[])), V.nilSl],
                              V.int IntKind.i64 (0 : Int), V.bool false]),
                        []))))
                (Tr.chk true
                  (Tr.leaf
                    (Sum.inl
                      (Fin.ret
                          (V.tup
                            [V.agg
                                [V.bool false,
                                  V.str
                                    (List.drop ((some (↑a : Int)).getD (0 : Int)).toNat
                                      (List.take
                                        ((some (wrapI IntKind.i64 ((↑a : Int) + (↑n : Int)))).getD
                                            (↑s.length : Int)).toNat
                                        s)),
                                  V.nilSl],
                              V.int IntKind.i64 (wrapI IntKind.i64 ((↑a : Int) + (↑n : Int))), V.bool true]),
                        []))))))
            (Tr.chk true
              (Tr.leaf
                (Sum.inl
                  (Fin.ret
                      (V.tup
                        [V.agg
                            [V.bool false,
                              V.str
                                (List.drop ((some (↑a : Int)).getD (0 : Int)).toNat
                                  (List.take
                                    ((some (wrapI IntKind.i64 ((↑a : Int) + (↑n : Int)))).getD (↑s.length : Int)).toNat
                                    s)),
                              V.nilSl],
                          V.int IntKind.i64 (wrapI IntKind.i64 ((↑a : Int) + (↑n : Int))), V.bool true]),
                    []))))))
        (Tr.chk true
          (Tr.leaf
            (Sum.inl
              (Fin.ret
                  (V.tup
                    [V.agg
                        [V.bool false,
                          V.str
                            (List.drop ((some (↑a : Int)).getD (0 : Int)).toNat
                              (List.take
                                ((some (wrapI IntKind.i64 ((↑a : Int) + (↑n : Int)))).getD (↑s.length : Int)).toNat s)),
                          V.nilSl],
                      V.int IntKind.i64 (wrapI IntKind.i64 ((↑a : Int) + (↑n : Int))), V.bool true]),
                []))))))
    (Tr.chk true
      (Tr.leaf
        (Sum.inr
          (X.normal,
            [((1 : Nat), V.int IntKind.i64 d), ((4 : Nat), V.ptr (0 : Nat) (0 : Nat)),
              ((7 : Nat), V.int IntKind.i64 (↑a : Int)), ((8 : Nat), V.int IntKind.i64 (↑n : Int)),
              ((10 : Nat),
                V.str
                  (List.drop ((some (↑a : Int)).getD (0 : Int)).toNat
                    (List.take ((some (wrapI IntKind.i64 ((↑a : Int) + (↑n : Int)))).getD (↑s.length : Int)).toNat s))),
              ((11 : Nat), V.ptr (1 : Nat) (0 : Nat))],
            [Blk.vals [V.bool false, V.str [], V.nilSl],
              Blk.vals [V.bool true, V.str (bytesOf (ByteArray.mk #[])), V.nilSl]]))))) := by kernel_rfl
theorem ttc0_x (f : Nat) (d : Int) (t : List B) (a : Nat) (n : Nat) : Tr.prune ((Tr.Sh.any.r.both
      Tr.Sh.any.l).both
  Tr.Sh.any)
  (execBYE Pr (OT f) noLoopsT (100 : Nat) Go.Proofs.Tryd.f37 (0 : Nat)
  (Tell.mk [(1 : Nat), (4 : Nat), (7 : Nat), (8 : Nat), (10 : Nat), (11 : Nat)] [(0 : Nat), (1 : Nat), (4 : Nat)]
    [(4 : Nat)])
  (Tell.mk [(4 : Nat), (7 : Nat), (8 : Nat), (11 : Nat)] [(0 : Nat), (1 : Nat)] []) (loopBody Go.Proofs.Tryd.f37 (0 : Nat))
  [((1 : Nat), V.int IntKind.i64 d), ((4 : Nat), V.ptr (0 : Nat) (0 : Nat)), ((7 : Nat), V.int IntKind.i64 (↑a : Int)),
    ((8 : Nat), V.int IntKind.i64 (↑n : Int)), ((10 : Nat), V.str t), ((11 : Nat), V.ptr (1 : Nat) (0 : Nat))]
  [Blk.vals [V.bool false, V.str [], V.nilSl], Blk.vals [V.bool true, V.str [], V.nilSl]]) =
  Tr.chk true
  (Tr.br (decide ((↑t.length : Int) > (0 : Int)))
    (Tr.chk (tdPB f (wrapI IntKind.i64 (d + (1 : Int)), t))
      (Tr.br (rdO f t)
        (Tr.chk
          (decide ((0 : Int) ≤ (some (tdN f t)).getD (0 : Int)) &&
                decide ((some (tdN f t)).getD (0 : Int) ≤ none.getD (↑t.length : Int)) &&
              decide (none.getD (↑t.length : Int) ≤ (↑t.length : Int)) &&
            true)
          (Tr.leaf
            (Sum.inr
              (X.normal,
                [((1 : Nat), V.int IntKind.i64 d), ((4 : Nat), V.ptr (0 : Nat) (0 : Nat)),
                  ((7 : Nat), V.int IntKind.i64 (↑a : Int)), ((8 : Nat), V.int IntKind.i64 (↑n : Int)),
                  ((10 : Nat),
                    V.str
                      (List.drop ((some (tdN f t)).getD (0 : Int)).toNat
                        (List.take (none.getD (↑t.length : Int)).toNat t))),
                  ((11 : Nat), V.ptr (1 : Nat) (0 : Nat))],
                [Blk.vals [V.bool false, V.str [], V.nilSl],
                  Blk.vals [V.bool true, V.str [], V.sl (2 : Nat) (0 : Nat) (3 : Nat) (1 : Nat) none],
                  Blk.vals
                    [V.bool (rdI f t).fI.b, V.str (rdI f t).fI.s, V.isl (3 : Nat) (rdI f t).fI.m (rdI f t).fI.g]]))))
        (Tr.chk true
          (Tr.leaf
            (Sum.inl
              (Fin.ret
                  (V.tup
                    [V.agg [V.bool false, V.str (bytesOf (ByteArray.mk #[])), V.nilSl], V.int IntKind.i64 (0 : Int),
                      V.bool false]),
                []))))))
    (Tr.leaf
      (Sum.inr
        (X.exit (0 : Nat),
          [((4 : Nat), V.ptr (0 : Nat) (0 : Nat)), ((7 : Nat), V.int IntKind.i64 (↑a : Int)),
            ((8 : Nat), V.int IntKind.i64 (↑n : Int)), ((11 : Nat), V.ptr (1 : Nat) (0 : Nat))],
          [Blk.vals [V.bool false, V.str [], V.nilSl], Blk.vals [V.bool true, V.str [], V.nilSl]])))) := by kernel_rfl
theorem ttc1_x (f : Nat) (d : Int) (t : List B) (a : Nat) (n : Nat) (m : Nat) (c : V) (cs : List V) : Tr.prune ((Tr.Sh.any.r.both
      Tr.Sh.any.l).both
  Tr.Sh.any)
  (execBYE Pr (OT f) noLoopsT (100 : Nat) Go.Proofs.Tryd.f37 (0 : Nat)
  (Tell.mk [(1 : Nat), (4 : Nat), (7 : Nat), (8 : Nat), (10 : Nat), (11 : Nat)] [(0 : Nat), (1 : Nat), (5 : Nat)]
    [(5 : Nat)])
  (Tell.mk [(4 : Nat), (7 : Nat), (8 : Nat), (11 : Nat)] [(0 : Nat), (1 : Nat), (2 : Nat)] [(2 : Nat)])
  (loopBody Go.Proofs.Tryd.f37 (0 : Nat))
  [((1 : Nat), V.int IntKind.i64 d), ((4 : Nat), V.ptr (0 : Nat) (0 : Nat)), ((7 : Nat), V.int IntKind.i64 (↑a : Int)),
    ((8 : Nat), V.int IntKind.i64 (↑n : Int)), ((10 : Nat), V.str t), ((11 : Nat), V.ptr (1 : Nat) (0 : Nat))]
  [Blk.vals [V.bool false, V.str [], V.nilSl],
    Blk.vals [V.bool true, V.str [], V.sl (2 : Nat) (0 : Nat) (3 : Nat) (m + (1 : Nat)) none], Blk.vals (c :: cs)]) =
  Tr.chk true
  (Tr.br (decide ((↑t.length : Int) > (0 : Int)))
    (Tr.chk (tdPB f (wrapI IntKind.i64 (d + (1 : Int)), t))
      (Tr.br (rdO f t)
        (Tr.chk
          (decide ((0 : Nat) + (m + (1 : Nat)) * (3 : Nat) ≤ (c :: cs).length) &&
                  (decide (m + (1 : Nat) + (1 : Nat) ≤ (281474976710656 : Nat)) &&
                      decide
                        (((2 : Nat) * (m + (1 : Nat) + (1 : Nat)) + (1024 : Nat)) * (48 : Nat) ≤
                          (281474976710656 : Nat)) &&
                    true) &&
                (List.take (3 : Nat)
                      (setCells
                        (List.replicate (1 : Nat) [V.bool false, V.str (bytesOf (ByteArray.mk #[])), V.nilSl]).flatten
                        (0 : Nat)
                        ((Blk.vals
                              [V.bool (rdI f t).fI.b, V.str (rdI f t).fI.s,
                                V.isl (3 : Nat) (rdI f t).fI.m (rdI f t).fI.g]).atN
                          (0 : Nat) (3 : Nat)))).all
                  V.one &&
              true &&
            (decide ((0 : Int) ≤ (some (tdN f t)).getD (0 : Int)) &&
                  decide ((some (tdN f t)).getD (0 : Int) ≤ none.getD (↑t.length : Int)) &&
                decide (none.getD (↑t.length : Int) ≤ (↑t.length : Int)) &&
              true))
          (Tr.leaf
            (Sum.inr
              (X.normal,
                [((1 : Nat), V.int IntKind.i64 d), ((4 : Nat), V.ptr (0 : Nat) (0 : Nat)),
                  ((7 : Nat), V.int IntKind.i64 (↑a : Int)), ((8 : Nat), V.int IntKind.i64 (↑n : Int)),
                  ((10 : Nat),
                    V.str
                      (List.drop ((some (tdN f t)).getD (0 : Int)).toNat
                        (List.take (none.getD (↑t.length : Int)).toNat t))),
                  ((11 : Nat), V.ptr (1 : Nat) (0 : Nat))],
                [Blk.vals [V.bool false, V.str [], V.nilSl],
                  Blk.vals [V.bool true, V.str [], V.sl (2 : Nat) (0 : Nat) (3 : Nat) (m + (1 : Nat) + (1 : Nat)) none],
                  Blk.vals
                    (List.take ((m + 1) * 3) (c :: cs) ++ [V.bool (rdI f t).fI.b, V.str (rdI f t).fI.s, V.isl 3 (rdI f t).fI.m (rdI f t).fI.g])]))))
        (Tr.chk true
          (Tr.leaf
            (Sum.inl
              (Fin.ret
                  (V.tup
                    [V.agg [V.bool false, V.str (bytesOf (ByteArray.mk #[])), V.nilSl], V.int IntKind.i64 (0 : Int),
                      V.bool false]),
                []))))))
    (Tr.leaf
      (Sum.inr
        (X.exit (0 : Nat),
          [((4 : Nat), V.ptr (0 : Nat) (0 : Nat)), ((7 : Nat), V.int IntKind.i64 (↑a : Int)),
            ((8 : Nat), V.int IntKind.i64 (↑n : Int)), ((11 : Nat), V.ptr (1 : Nat) (0 : Nat))],
          [Blk.vals [V.bool false, V.str [], V.nilSl],
            Blk.vals [V.bool true, V.str [], V.sl (2 : Nat) (0 : Nat) (3 : Nat) (m + (1 : Nat)) none],
            Blk.vals (c :: cs)])))) := by kernel_rfl
theorem ttd_x (a : Nat) (n : Nat) (m : Nat) (cs : List V) : Tr.prune (Tr.Sh.any)
  (execB Pr OT0 noLoopsT (100 : Nat) (partA (1 : Nat) cT3)
  [((4 : Nat), V.ptr (0 : Nat) (0 : Nat)), ((7 : Nat), V.int IntKind.i64 (↑a : Int)),
    ((8 : Nat), V.int IntKind.i64 (↑n : Int)), ((11 : Nat), V.ptr (1 : Nat) (0 : Nat))]
  [Blk.vals [V.bool false, V.str [], V.nilSl],
    Blk.vals [V.bool true, V.str [], V.sl (2 : Nat) (0 : Nat) (3 : Nat) m none], Blk.vals cs]) =
  Tr.chk true
  (Tr.leaf
    (X.normal,
      [((4 : Nat), V.ptr (0 : Nat) (0 : Nat)), ((7 : Nat), V.int IntKind.i64 (↑a : Int)),
        ((8 : Nat), V.int IntKind.i64 (↑n : Int)), ((11 : Nat), V.ptr (1 : Nat) (0 : Nat)),
        ((78 : Nat), V.agg [V.bool true, V.str [], V.sl (2 : Nat) (0 : Nat) (3 : Nat) m none])],
      [Blk.vals [V.bool false, V.str [], V.nilSl],
        Blk.vals [V.bool true, V.str [], V.sl (2 : Nat) (0 : Nat) (3 : Nat) m none], Blk.vals cs])) := by kernel_rfl
theorem tte_x (a : Nat) (n : Nat) (m : Nat) (F : Nat → Nat → V) : Tr.prune (Tr.Sh.any)
  (execBN Pr OT0 noLoopsT (100 : Nat) (0 : Nat) [(4 : Nat), (5 : Nat), (6 : Nat)] [] (partB (1 : Nat) cT3)
  [((4 : Nat), V.ptr (0 : Nat) (0 : Nat)), ((7 : Nat), V.int IntKind.i64 (↑a : Int)),
    ((8 : Nat), V.int IntKind.i64 (↑n : Int)), ((11 : Nat), V.ptr (1 : Nat) (0 : Nat)),
    ((78 : Nat), V.agg [V.bool true, V.str [], V.isl (3 : Nat) m F])]
  [Blk.vals [V.bool false, V.str [], V.nilSl],
    Blk.vals [V.bool true, V.str [], V.sl (2 : Nat) (0 : Nat) (3 : Nat) m none], Blk.dead]) =
  Tr.chk true
  (Tr.leaf
    (X.normal,
      [((4 : Nat), V.ptr (0 : Nat) (0 : Nat)),
        ((5 : Nat), V.int IntKind.i64 (wrapI IntKind.i64 ((↑a : Int) + (↑n : Int)))), ((6 : Nat), V.bool true)],
      [Blk.vals [V.bool true, V.str [], V.isl (3 : Nat) m F]])) := by kernel_rfl
theorem ttf_x (k : Int) (m : Nat) (F : Nat → Nat → V) : Tr.prune (Tr.Sh.any)
  (execBR Pr OT0 noLoopsT (100 : Nat) Go.Proofs.Tryd.f37 (0 : Nat) (tailC cT3)
  [((4 : Nat), V.ptr (0 : Nat) (0 : Nat)), ((5 : Nat), V.int IntKind.i64 k), ((6 : Nat), V.bool true)]
  [Blk.vals [V.bool true, V.str [], V.isl (3 : Nat) m F]]) =
  Tr.chk true
  (Tr.leaf
    (Fin.ret (V.tup [V.agg [V.bool true, V.str [], V.isl (3 : Nat) m F], V.int IntKind.i64 k, V.bool true]),
      [])) := by kernel_rfl
theorem ttz_x (a : Nat) (n : Nat) : Tr.prune (Tr.Sh.any)
  (execBR Pr OT0 noLoopsT (100 : Nat) Go.Proofs.Tryd.f37 (0 : Nat) cT3
  [((4 : Nat), V.ptr (0 : Nat) (0 : Nat)), ((7 : Nat), V.int IntKind.i64 (↑a : Int)),
    ((8 : Nat), V.int IntKind.i64 (↑n : Int)), ((11 : Nat), V.ptr (1 : Nat) (0 : Nat))]
  [Blk.vals [V.bool false, V.str [], V.nilSl], Blk.vals [V.bool true, V.str [], V.nilSl]]) =
  Tr.chk true
  (Tr.leaf
    (Fin.ret
        (V.tup
          [V.agg [V.bool true, V.str [], V.nilSl], V.int IntKind.i64 (wrapI IntKind.i64 ((↑a : Int) + (↑n : Int))),
            V.bool true]),
      [])) := by kernel_rfl
end
end Go.Proofs.YtnafebinaheclaaDoor.K
end
section
open Go Go.Lh
namespace Go.Proofs.YtnafebinaheclaaDoor.K
noncomputable section
set_option maxRecDepth 100000
def failV : V := .tup [.agg [.bool false, .str [], .nilSl], .int .i64 0, .bool false]
def finT (s : List B) : Option (It × List B) → Fin × Heap
  | some p => (.ret (.tup [rawI p.1, .int .i64 ((s.length - p.2.length : Nat) : Int), .bool true]), [])
  | none => (.ret failV, [])
def finT2 (k : Nat) : Option (List It) → Fin × Heap
  | some l => (.ret (.tup [rawL l, .int .i64 (k : Int), .bool true]), [])
  | none => (.ret failV, [])
theorem itF_drop {f : Nat} {t : List B} {x : It} {q : List B} (h : itF f t = some (x, q)) : t.drop (t.length - q.length) = q := by
  have := itF_back f t x q h
  rw [← this, List.length_append, Nat.add_sub_cancel, List.drop_left]
def td_S (f a n : Nat) (s : List It × List B) : Fr × Heap := ([(1,.int .i64 (64 - (f : Int))),(4,.ptr 0 0),(7,.int .i64 (a : Int)),(8,.int .i64 (n : Int)),(10,.str s.2),(11,.ptr 1 0)], match s.1 with
  | [] => [.vals [.bool false,.str [],.nilSl],.vals [.bool true,.str [],.nilSl]]
  | x :: r => [.vals [.bool false,.str [],.nilSl],.vals [.bool true,.str [],.sl 2 0 3 (r.length + 1) none],.vals (cellsL (x :: r))])
theorem td_end (a n : Nat) (hb : a + n ≤ 65536) (l : List It) : EndsIn Pr Go.Proofs.Tryd.f37 0 cT3 [(4,.ptr 0 0),(7,.int .i64 (a : Int)),(8,.int .i64 (n : Int)),(11,.ptr 1 0)] (match l with
  | [] => [.vals [.bool false,.str [],.nilSl],.vals [.bool true,.str [],.nilSl]]
  | x :: r => [.vals [.bool false,.str [],.nilSl],.vals [.bool true,.str [],.sl 2 0 3 (r.length + 1) none],.vals (cellsL (x :: r))]) (finT2 (a + n) (some l)).1 [] := by
  have w : wrapI .i64 ((a : Int) + (n : Int)) = ((a + n : Nat) : Int) := by rw [show (a : Int) + (n : Int) = ((a + n : Nat) : Int) by omega, wrapI_nat (by omega)]
  cases l with
  | nil =>
    have hT := ttz_x a n
    rw [w] at hT
    exact EndsIn.last (T := OT0) OT0_sound mixed noLoops_all (by kernel_rfl) hT (tr1 rfl rfl)
  | cons x r =>
    have hT := tte_x a n (r.length + 1) (frzC (cellsL (x :: r)) 0 3)
    rw [w] at hT
    refine EndsIn.two (T := OT0) (fuel := 100) (on := [4,5,6]) (fr3 := [(4,.ptr 0 0),(5,.int .i64 ((a + n : Nat) : Int)),(6,.bool true)]) (h3 := [.vals [.bool true,.str [],.isl 3 (r.length + 1) (frzC (cellsL (x :: r)) 0 3)]]) 1 OT0_sound mixed (by kernel_rfl) (by kernel_rfl)
      (tree_is (ttd_x a n (r.length + 1) (cellsL (x :: r))) rfl) (.inr ⟨2, cellsL (x :: r), rfl, cellsL_clo _, rfl, rfl⟩) ?_ ?_
    · exact tree_is hT rfl
    · exact EndsIn.last (T := OT0) OT0_sound mixed noLoops_all (by kernel_rfl) (ttf_x ((a + n : Nat) : Int) (r.length + 1) (frzC (cellsL (x :: r)) 0 3)) (tr1 rfl rfl)
theorem td_loop {f : Nat} (hf : TdOk f) (h65 : f + 1 ≤ 65) (a n : Nat) (hb : a + n ≤ 65536) (t : List B) (ht : t.length ≤ 65536) :
    EndsIn Pr Go.Proofs.Tryd.f37 0 cT2 (td_S f a n ([], t)).1 (td_S f a n ([], t)).2 (finT2 (a + n) (manyD (itF f) t.length t)).1 [] := by
  have e : cT2 = .seq (.block 0 (.loop (Go.Lh.loopBody Go.Proofs.Tryd.f37 0))) cT3 := by kernel_rfl
  rw [e]
  generalize hL : manyD (itF f) t.length t = L
  have hdl := itF_len f
  refine EndsIn.loop (T := OT f) (L := noLoopsT) (td_S f a n) (fun s => s.2.length) (fun s => (manyD (itF f) s.2.length s.2).map (s.1 ++ ·) = L ∧ s.1.length + s.2.length ≤ 65536) (OT_sound hf) mixed noLoops_all (by kernel_rfl) ?_ (a0 := ([], t)) ⟨by simp only [List.nil_append]; rw [hL]; cases L <;> rfl, by simpa using ht⟩
  rintro ⟨done, t⟩ ⟨hok, hsz⟩
  simp only at hok hsz
  have hd : wrapI .i64 (64 - (f : Int) + 1) = 65 - (f : Int) := by rw [show (64 : Int) - f + 1 = ((65 - f : Nat) : Int) by omega, wrapI_nat (by omega)]; omega
  have hP : tdPB f (wrapI .i64 (64 - (f : Int) + 1), t) = true := @decide_eq_true _ (Classical.propDecidable _) ⟨hd, by omega, by simp only; omega⟩
  have hexit : t = [] → L = some done := by
    rintro rfl
    rw [← hok]
    simp [manyD]
  have hnone : t ≠ [] → itF f t = none → L = none := by
    intro hne hn
    cases t with
    | nil => exact absurd rfl hne
    | cons b t =>
      rw [← hok, List.length_cons, manyD, hn]
      rfl
  have hgo : ∀ x q, t ≠ [] → itF f t = some (x, q) → (manyD (itF f) q.length q).map ((done ++ [x]) ++ ·) = L ∧ (done ++ [x]).length + q.length ≤ 65536 ∧ q.length < t.length := by
    intro x q hne hn
    cases t with
    | nil => exact absurd rfl hne
    | cons b t =>
      have hlt := hdl _ _ _ hn
      rw [← hok, List.length_cons, manyD, hn]
      simp only [List.length_cons] at hlt hsz ⊢
      refine ⟨?_, by rw [List.length_append, List.length_singleton]; omega, hlt⟩
      rw [manyD_fuel hdl t.length q.length q (by omega) (by omega)]
      cases manyD (itF f) q.length q with
      | none => rfl
      | some l => simp
  have hN : ∀ x q, itF f t = some (x, q) → tdN f t = ((t.length - q.length : Nat) : Int) := by
    intro x q h
    unfold tdN
    rw [if_pos trivial, rdR_eq h]
  have hnoL : rdO f t = false → itF f t = none := by
    intro h
    have := @of_decide_eq_false _ (Classical.propDecidable _) h
    cases h3 : itF f t with
    | none => rfl
    | some p => exact absurd ⟨p, h3⟩ this
  cases done with
  | nil =>
    refine ⟨⟨[1,4,7,8,10,11],[0,1,4],[4]⟩, ⟨[4,7,8,11],[0,1],[]⟩, 100, ?_⟩
    refine Tr.wp_prune (ttc0_x f (64 - (f : Int)) t a n) ?_
    rw [hP]
    refine wp_chk_true.2 (wp_br.2 ⟨fun h => ?_, fun h => ?_⟩)
    · have h := of_decide_eq_true h
      have hne : t ≠ [] := by rintro rfl; simp at h
      refine wp_chk_true.2 (wp_br.2 ⟨fun h2 => ?_, fun h2 => wp_chk_true.2 (wp_leaf.2 ⟨trivial, .inr (.inr ?_)⟩)⟩)
      · obtain ⟨⟨x, q⟩, hp⟩ : ∃ p, itF f t = some p := @of_decide_eq_true _ (Classical.propDecidable _) h2
        rw [hN x q hp, rdI_eq hp, Option.getD_some, Option.getD_none, Int.toNat_natCast, Int.toNat_natCast, List.take_length, itF_drop hp]
        refine wp_chk.2 ⟨by simp only [Bool.and_true, Bool.and_eq_true, decide_eq_true_eq]; omega, wp_leaf.2 ⟨clo_23 (by decide) ?_, .inl ⟨([x], q), rfl, ?_⟩⟩⟩
        · intro v hv
          simp only [List.mem_cons, List.not_mem_nil, or_false] at hv
          rcases hv with rfl | rfl | rfl <;> rfl
        · have := hgo x q hne hp
          exact ⟨⟨this.1, this.2.1⟩, this.2.2⟩
      · rw [hnone hne (hnoL h2)]; exact ⟨_, rfl, .inl rfl⟩
    · have h := of_decide_eq_false h
      have ht : t = [] := by
        cases t with
        | nil => rfl
        | cons b t => simp only [List.length_cons] at h; omega
      rw [hexit ht]
      exact wp_leaf.2 ⟨clo_nil, .inr (.inl ⟨_, _, rfl, td_end a n hb []⟩)⟩
  | cons y r =>
    refine ⟨⟨[1,4,7,8,10,11],[0,1,5],[5]⟩, ⟨[4,7,8,11],[0,1,2],[2]⟩, 100, ?_⟩
    obtain ⟨c, cs, ec⟩ : ∃ c cs, cellsL (y :: r) = c :: cs := ⟨_, _, rfl⟩
    have hS : td_S f a n (y :: r, t) = ([(1,.int .i64 (64 - (f : Int))),(4,.ptr 0 0),(7,.int .i64 (a : Int)),(8,.int .i64 (n : Int)),(10,.str t),(11,.ptr 1 0)], [.vals [.bool false,.str [],.nilSl],.vals [.bool true,.str [],.sl 2 0 3 (r.length + 1) none],.vals (c :: cs)]) := by rw [← ec]; rfl
    have hlen : (c :: cs).length = (r.length + 1) * 3 := by rw [← ec, cellsL_len]; rfl
    have hcs : List.take ((r.length + 1) * 3) (c :: cs) = cellsL (y :: r) := by rw [← hlen, List.take_length, ec]
    rw [hS]
    refine Tr.wp_prune (ttc1_x f (64 - (f : Int)) t a n r.length c cs) ?_
    rw [hP, hcs]
    refine wp_chk_true.2 (wp_br.2 ⟨fun h => ?_, fun h => ?_⟩)
    · have h := of_decide_eq_true h
      have hne : t ≠ [] := by rintro rfl; simp at h
      refine wp_chk_true.2 (wp_br.2 ⟨fun h2 => ?_, fun h2 => wp_chk_true.2 (wp_leaf.2 ⟨trivial, .inr (.inr ?_)⟩)⟩)
      · obtain ⟨⟨x, q⟩, hp⟩ : ∃ p, itF f t = some p := @of_decide_eq_true _ (Classical.propDecidable _) h2
        rw [hN x q hp, rdI_eq hp, Option.getD_some, Option.getD_none, Int.toNat_natCast, Int.toNat_natCast, List.take_length, itF_drop hp]
        refine wp_chk.2 ⟨?_, wp_leaf.2 ⟨clo_23 (by decide) ?_, .inl ⟨((y :: r) ++ [x], q), ?_, ?_⟩⟩⟩
        · have e1 : ∀ x : FI, (List.take 3 (setCells (List.replicate 1 [V.bool false, V.str (bytesOf (ByteArray.mk #[])), V.nilSl]).flatten 0 ((Blk.vals [V.bool x.b, V.str x.s, V.isl 3 x.m x.g]).atN 0 3))).all V.one = true := fun x => rfl
          rw [e1, hlen]
          simp only [List.length_cons] at hsz
          simp only [Bool.and_true, Bool.true_and, Bool.and_eq_true, decide_eq_true_eq]; omega
        · intro v hv
          rcases List.mem_append.1 hv with hv | hv
          · exact cellsL_clo _ v hv
          · simp only [List.mem_cons, List.not_mem_nil, or_false] at hv
            rcases hv with rfl | rfl | rfl <;> rfl
        · have e2 : td_S f a n ((y :: r) ++ [x], q) = ([(1,.int .i64 (64 - (f : Int))),(4,.ptr 0 0),(7,.int .i64 (a : Int)),(8,.int .i64 (n : Int)),(10,.str q),(11,.ptr 1 0)], [.vals [.bool false,.str [],.nilSl],.vals [.bool true,.str [],.sl 2 0 3 ((r ++ [x]).length + 1) none],.vals (cellsL ((y :: r) ++ [x]))]) := rfl
          rw [e2, cellsL_snoc, List.length_append, List.length_singleton]; rfl
        · have := hgo x q hne hp
          exact ⟨⟨this.1, this.2.1⟩, this.2.2⟩
      · rw [hnone hne (hnoL h2)]; exact ⟨_, rfl, .inl rfl⟩
    · have h := of_decide_eq_false h
      have ht : t = [] := by
        cases t with
        | nil => rfl
        | cons b t => simp only [List.length_cons] at h; omega
      rw [hexit ht, ← ec]
      exact wp_leaf.2 ⟨clo_23 (by decide) (cellsL_clo _), .inr (.inl ⟨_, _, rfl, td_end a n hb (y :: r)⟩)⟩
end
end Go.Proofs.YtnafebinaheclaaDoor.K
end
section
open Go Go.Lh
namespace Go.Proofs.YtnafebinaheclaaDoor.K
noncomputable section
set_option maxRecDepth 100000
theorem mnF_drop {k n : Nat} {r r1 : List B} (h : mnF k r = some (n, r1)) : r1 = r.drop (r.length - r1.length) ∧ r1.length ≤ r.length ∧ (k ≤ 55 → r1 = r ∧ n = k) ∧ (¬ k ≤ 55 → r1.length < r.length ∧ 55 < n) := by
  unfold mnF at h
  split at h
  · rename_i hk
    cases h
    exact ⟨by rw [Nat.sub_self, List.drop_zero], Nat.le_refl _, fun _ => ⟨rfl, rfl⟩, fun h => absurd hk h⟩
  · rename_i hk
    split at h
    · rename_i hc
      obtain ⟨c1, c2, c3, c4⟩ := hc
      cases h
      have e : r.length - (r.length - (k - 55)) = k - 55 := by omega
      rw [List.length_drop, e]
      exact ⟨rfl, by omega, fun h => absurd h hk, fun _ => ⟨by omega, c3⟩⟩
    · cases h
theorem td_fail (f : Nat) (s : List B) (h : itF f s = none) : (finT s (itF f s)).1 = .ret failV := by rw [h]; rfl
theorem td_step (f : Nat) (hf : ∀ e, f = e + 1 → TdOk e) (h65 : f ≤ 65) (s : List B) (hs : s.length ≤ 65536) :
    LFn Pr 37 [.str s, .int .i64 (65 - (f : Int))] [] (finT s (itF f s)).1 [] := by
  refine EndsIn.done (fn := Go.Proofs.Tryd.f37) (by kernel_rfl) (by kernel_rfl) (by kernel_rfl) ?_
  have hT := tta_x (65 - (f : Int)) s
  have hc : szL s = true := @decide_eq_true _ (Classical.propDecidable _) hs
  rw [hc] at hT
  refine EndsIn.cutY (L := noLoopsT) 2 OT0_sound mixed (by kernel_rfl) noLoops_all (by kernel_rfl) hT ?_
  refine wp_chk_true.2 (wp_br.2 ⟨fun h => ?_, fun h => wp_chk_true.2 (wp_leaf.2 ⟨trivial, .inr ⟨_, ?_, .inl rfl⟩⟩)⟩)
  rotate_left
  · -- there is no size
    have hn : szF s = none := by
      have := @of_decide_eq_false _ (Classical.propDecidable _) h
      cases h3 : szF s with
      | none => rfl
      | some p => exact absurd ⟨p, h3⟩ this
    have : itF f s = none := by
      cases f with
      | zero => cases s <;> rfl
      | succ f =>
        cases s with
        | nil => rfl
        | cons b r =>
          have hb := b.isLt
          rw [szF] at hn
          rw [itF]
          split at hn
          · cases hn
          · rename_i h1
            rw [if_neg (by rw [BitVec.lt_def, c128]; exact h1)]
            by_cases h2 : 192 ≤ b.toNat
            · rw [if_neg (by rw [BitVec.lt_def, c192]; omega)]
              rw [if_pos h2] at hn
              cases hm : mnF (b.toNat - 192) r with
              | none => rfl
              | some p =>
                rw [hm, Option.bind_some] at hn
                split at hn
                · cases hn
                · rename_i h3
                  rw [Option.bind_some, tkF, if_neg h3]; rfl
            · rw [if_pos (by rw [BitVec.lt_def, c192]; omega)]
              rw [if_neg h2] at hn
              cases hm : mnF (b.toNat - 128) r with
              | none => rfl
              | some p =>
                rw [hm, Option.bind_some] at hn
                split at hn
                · cases hn
                · rename_i h3
                  rw [Option.bind_some, tkF, if_neg h3]; rfl
    rw [td_fail f s this]; rfl
  · obtain ⟨⟨a, n⟩, hz⟩ : ∃ p, szF s = some p := @of_decide_eq_true _ (Classical.propDecidable _) h
    rw [szA_eq hz, szN_eq hz]
    refine wp_chk_true.2 (wp_br.2 ⟨fun h1 => wp_chk_true.2 (wp_leaf.2 ⟨trivial, .inr ⟨_, ?_, .inl rfl⟩⟩), fun h1 => wp_leaf.2 ⟨clo_nil, .inl ⟨_, _, rfl, ?_⟩⟩⟩)
    · have h1 := of_decide_eq_true h1
      have e0 : f = 0 := by omega
      subst e0
      have : itF 0 s = none := by cases s <;> rfl
      rw [td_fail 0 s this]; rfl
    · have h1 := of_decide_eq_false h1
      obtain ⟨e, rfl⟩ : ∃ e, f = e + 1 := ⟨f - 1, by omega⟩
      have hd : (65 : Int) - ((e + 1 : Nat) : Int) = 64 - (e : Int) := by omega
      rw [hd]
      cases s with
      | nil => cases hz
      | cons b r =>
      have hb := b.isLt
      rw [List.length_cons] at hs
      show EndsIn Pr _ 0 cT1 _ _ _ _
      -- what the size tells
      have key : ∃ (n' : Nat) (r1 : List B), n' ≤ r1.length ∧ a = r.length - r1.length + (if b.toNat < 128 then 0 else 1) ∧ (a + n ≤ r.length + 1) ∧ ((b :: r).take (a + n)).drop a = (if b.toNat < 128 then [b] else r1.take n) ∧ (b.toNat < 128 → a = 0 ∧ n = 1 ∧ r1 = r) ∧ (¬ b.toNat < 128 → n' = n ∧ mnF (b.toNat - (if 192 ≤ b.toNat then 192 else 128)) r = some (n, r1) ∧ (r1.drop n).length + (a + n) = r.length + 1) := by
        rw [szF] at hz
        split at hz
        · rename_i h2
          cases hz
          refine ⟨0, r, Nat.zero_le _, by rw [Nat.sub_self, if_pos h2], by omega, by rw [if_pos h2]; rfl, fun _ => ⟨rfl, rfl, rfl⟩, fun h => absurd h2 h⟩
        · rename_i h2
          rw [Option.bind_eq_some_iff] at hz
          obtain ⟨⟨n', r1⟩, hm, hz⟩ := hz
          simp only at hz
          split at hz
          · rename_i h3
            cases hz
            obtain ⟨d1, d2, d3, d4⟩ := mnF_drop hm
            refine ⟨_, r1, h3, by rw [if_neg h2], by omega, ?_, fun h => absurd h h2, fun _ => ⟨rfl, hm, by rw [List.length_drop]; omega⟩⟩
            rw [if_neg h2]
            have e4 : (b :: r).drop (r.length - r1.length + 1) = r1 := by rw [List.drop_succ_cons]; exact d1.symm
            rw [List.drop_take, e4, Nat.add_sub_cancel_left]
          · cases hz
      obtain ⟨n', r1, k1, k2, k3, k4, k5, k6⟩ := key
      have w : wrapI .i64 ((a : Int) + (n : Int)) = ((a + n : Nat) : Int) := by rw [show (a : Int) + (n : Int) = ((a + n : Nat) : Int) by omega, wrapI_nat (by omega)]
      have hT2 := ttb_x (64 - (e : Int)) (b :: r) a n
      have g0 : (b :: r).getD 0 (OfNat.ofNat 0) = b := rfl
      have z192 : BitVec.ofInt 8 192 = 192#8 := by decide
      rw [w, g0, z192, o128] at hT2
      simp only [Option.getD_some, Int.toNat_natCast, k4] at hT2
      refine EndsIn.cutY (L := noLoopsT) 2 OT0_sound mixed (by kernel_rfl) noLoops_all (by kernel_rfl) hT2 ?_
      refine wp_chk.2 ⟨by simp only [Bool.and_true, Bool.and_eq_true, decide_eq_true_eq, List.length_cons]; omega, wp_br.2 ⟨fun h2 => ?_, fun h2 => wp_chk_true.2 (wp_leaf.2 ⟨clo_nil, .inl ⟨_, _, rfl, ?_⟩⟩)⟩⟩
      · have h2 := of_decide_eq_true h2
        by_cases h3 : b.toNat < 128
        · obtain ⟨ea, en, _⟩ := k5 h3
          subst ea
          subst en
          have hi : itF (e + 1) (b :: r) = some (.txt [b], r) := by rw [itF, if_pos (by rw [BitVec.lt_def, c128]; exact h3)]
          have a0 : (((0 : Nat) : Int) == 1) = false := rfl
          rw [hi, a0, if_pos h3]
          refine brF2 (wp_chk_true.2 (wp_leaf.2 ⟨trivial, .inr ⟨_, ?_, .inl rfl⟩⟩))
          show Sum.inl _ = Sum.inl (Fin.ret (V.tup [rawI (.txt [b]), .int .i64 (((b :: r).length - r.length : Nat) : Int), .bool true]), _)
          have : (b :: r).length - r.length = 0 + 1 := by rw [List.length_cons]; omega
          rw [this]; rfl
        · obtain ⟨en, hm, hlen⟩ := k6 h3
          rw [en] at k1
          rw [BitVec.lt_def, c192] at h2
          rw [if_neg (by omega)] at hm
          have hi : itF (e + 1) (b :: r) = if (r1.take n).length ≠ 1 ∨ 128#8 ≤ (r1.take n).getD 0 0 ∨ b ≠ 129#8 then some (.txt (r1.take n), r1.drop n) else none := by
            rw [itF, if_neg (by rw [BitVec.lt_def, c128]; exact h3), if_pos (by rw [BitVec.lt_def, c192]; exact h2), hm, Option.bind_some]
            simp only
            rw [tkF, if_pos k1, Option.bind_some]
          have hl : (r1.take n).length = n := by rw [List.length_take]; omega
          obtain ⟨d1, d2, d3, d4⟩ := mnF_drop hm
          rw [if_neg h3] at k2
          have hN : ((b :: r).length - (r1.drop n).length : Nat) = a + n := by rw [List.length_cons]; omega
          rw [if_neg h3]
          have yes : ((r1.take n).length ≠ 1 ∨ 128#8 ≤ (r1.take n).getD 0 0 ∨ b ≠ 129#8) → (Tr.chk true (Tr.leaf (Sum.inl (Fin.ret (V.tup [V.agg [V.bool false, V.str (r1.take n), V.nilSl], V.int .i64 ((a + n : Nat) : Int), V.bool true]), ([] : Heap))) : Tr ((Fin × Heap) ⊕ (X × Fr × Heap)))).wp (fun q => CloW ⟨[1,4,7,8,10,11],[0,1],[]⟩ ⟨[],[],[]⟩ q ∧ ((∃ f g, q = .inr (.normal, f, g) ∧ EndsIn Pr Go.Proofs.Tryd.f37 0 (dropSeq 2 cT1) f g (finT (b :: r) (itF (e + 1) (b :: r))).1 []) ∨ ∃ g, q = .inl ((finT (b :: r) (itF (e + 1) (b :: r))).1, g) ∧ DeadOf g [])) := by
            intro hy
            rw [hi, if_pos hy]
            refine wp_chk_true.2 (wp_leaf.2 ⟨trivial, .inr ⟨_, ?_, .inl rfl⟩⟩)
            show Sum.inl _ = Sum.inl (Fin.ret (V.tup [rawI (.txt (r1.take n)), .int .i64 (((b :: r).length - (r1.drop n).length : Nat) : Int), .bool true]), _)
            rw [hN]; rfl
          refine wp_chk_true.2 (wp_br.2 ⟨fun h5 => wp_chk_true.2 (wp_br.2 ⟨fun h6 => ?_, fun h6 => ?_⟩), fun h5 => ?_⟩)
          · have h5 : a = 1 := by have := eq_of_beq h5; omega
            have h6 : n = 1 := by have := eq_of_beq h6; omega
            refine wp_chk.2 ⟨by rw [hl, h6]; decide, wp_br.2 ⟨fun h7 => ?_, fun h7 => ?_⟩⟩
            · have h7 := of_decide_eq_true h7
              have hk : b.toNat - 128 ≤ 55 := by
                rcases Nat.lt_or_ge 55 (b.toNat - 128) with h8 | h8
                · have := (d4 (by omega)).1; omega
                · exact h8
              have hb9 : b = 129#8 := by
                have := (d3 hk).2
                apply BitVec.eq_of_toNat_eq
                rw [show (129#8).toNat = 129 by decide]; omega
              have hno : ¬ ((r1.take n).length ≠ 1 ∨ 128#8 ≤ (r1.take n).getD 0 0 ∨ b ≠ 129#8) := by
                rintro (h8 | h8 | h8)
                · exact h8 (by rw [hl, h6])
                · have h8 : 128#8 ≤ (r1.take n).getD 0 0 := h8
                  have h7 : (r1.take n).getD 0 0 < 128#8 := h7
                  rw [BitVec.le_def] at h8
                  rw [BitVec.lt_def] at h7
                  omega
                · exact h8 hb9
              rw [hi, if_neg hno]
              exact wp_chk_true.2 (wp_leaf.2 ⟨trivial, .inr ⟨_, rfl, .inl rfl⟩⟩)
            · have h7 := of_decide_eq_false h7
              refine yes (.inr (.inl ?_))
              have h7 : ¬ (r1.take n).getD 0 0 < 128#8 := h7
              rw [BitVec.lt_def] at h7
              rw [BitVec.le_def]
              omega
          · refine yes (.inl ?_)
            rw [hl]
            intro e6
            rw [e6] at h6; cases h6
          · refine yes ?_
            have h5 : a ≠ 1 := by intro e5; rw [e5] at h5; cases h5
            have hk : ¬ b.toNat - 128 ≤ 55 := by
              intro h8
              have := (d3 h8).1
              subst this
              omega
            left
            rw [hl]
            have := (d4 hk).2
            omega
      · have h2 := of_decide_eq_false h2
        rw [BitVec.lt_def, c192] at h2
        have h3 : ¬ b.toNat < 128 := by omega
        obtain ⟨en, hm, hlen⟩ := k6 h3
        rw [en] at k1
        rw [if_pos (by omega)] at hm
        have hl : (r1.take n).length = n := by rw [List.length_take]; omega
        have hi : itF (e + 1) (b :: r) = (manyD (itF e) (r1.take n).length (r1.take n)).map fun l => (.lst l, r1.drop n) := by
          rw [itF, if_neg (by rw [BitVec.lt_def, c128]; exact h3), if_neg (by rw [BitVec.lt_def, c192]; exact h2), hm, Option.bind_some]
          simp only
          rw [tkF, if_pos k1, Option.bind_some]
        have hN : ((b :: r).length - (r1.drop n).length : Nat) = a + n := by rw [List.length_cons]; omega
        rw [if_neg h3]
        have hfin : (finT (b :: r) (itF (e + 1) (b :: r))).1 = (finT2 (a + n) (manyD (itF e) (r1.take n).length (r1.take n))).1 := by
          rw [hi]
          cases manyD (itF e) (r1.take n).length (r1.take n) with
          | none => rfl
          | some l =>
            show Fin.ret (V.tup [rawI (.lst l), .int .i64 (((b :: r).length - (r1.drop n).length : Nat) : Int), .bool true]) = _
            rw [hN]; rfl
        rw [hfin]
        exact td_loop (hf e rfl) (by omega) a n (by omega) (r1.take n) (by omega)
theorem td_all : ∀ f, TdOk f := by
  intro f
  induction f with
  | zero => exact go 0 (fun e h => by cases h)
  | succ f ih => exact go (f + 1) (fun e h => by cases h; exact ih)
where
  go (f : Nat) (hf : ∀ e, f = e + 1 → TdOk e) : TdOk f := by
    refine ctT_ok (fun a => [.str a.2, .int .i64 a.1]) (fun _ => []) ?_ (fun a r h => ?_)
    · intro args h a e
      unfold td_read at e
      split at e <;> cases e <;> exact ⟨rfl, rfl⟩
    · obtain ⟨d, s⟩ := a
      rw [td_f, Tr.is_chk, Tr.is_br] at h
      obtain ⟨h1, h⟩ := h
      obtain ⟨hd, h65, hs⟩ : tdP f (d, s) := @of_decide_eq_true _ (Classical.propDecidable _) h1
      simp only at hd hs h ⊢
      subst hd
      have H := td_step f hf h65 s hs
      cases hi : itF f s with
      | none =>
        have : rdO f s = false := @decide_eq_false _ (Classical.propDecidable _) (by rw [hi]; rintro ⟨p, hp⟩; cases hp)
        rw [if_neg (by rw [this]; decide), Tr.is_leaf] at h
        subst h
        rw [hi] at H
        exact H
      | some p =>
        have : rdO f s = true := @decide_eq_true _ (Classical.propDecidable _) ⟨p, hi⟩
        have hN : tdN f s = ((s.length - p.2.length : Nat) : Int) := by unfold tdN; rw [if_pos trivial, rdR_eq hi]
        rw [if_pos this, Tr.is_leaf, rdI_eq hi, hN] at h
        subst h
        rw [hi] at H
        exact LFn.wkRet H (wk_tup3 (rawI_wk p.1) (.refl _))
end
end Go.Proofs.YtnafebinaheclaaDoor.K
end
section
open Go Go.Lh
namespace Go.Proofs.YtnafebinaheclaaDoor.K
noncomputable section
set_option maxRecDepth 100000
theorem ddc_x (s : List B) : Tr.prune (Tr.Sh.any.both
  ((Tr.Sh.any.both Tr.Sh.any).r.r.r.r.both Tr.Sh.any.l.l.l.l.l))
  (execBF Pr (OT (65 : Nat)) noLoopsT (100 : Nat) Go.Proofs.Tryd.f22 [V.str s] []) =
  Tr.chk true
  (Tr.br (decide ((↑s.length : Int) > (65536 : Int)))
    (Tr.chk true
      (Tr.leaf
        (Fin.ret
            (V.tup [V.agg [V.bool false, V.str (bytesOf (ByteArray.mk #[])), V.nilSl], V.int IntKind.i64 (3 : Int)]),
          [])))
    (Tr.chk (tdPB (65 : Nat) ((0 : Int), s))
      (Tr.br (rdO (65 : Nat) s)
        (Tr.chk true
          (Tr.br (tdN (65 : Nat) s != (↑s.length : Int))
            (Tr.chk true
              (Tr.leaf
                (Fin.ret
                    (V.tup
                      [V.agg [V.bool false, V.str (bytesOf (ByteArray.mk #[])), V.nilSl], V.int IntKind.i64 (2 : Int)]),
                  [])))
            (Tr.chk true
              (Tr.leaf
                (Fin.ret
                    (V.tup
                      [V.agg
                          [V.bool (rdI (65 : Nat) s).fI.b, V.str (rdI (65 : Nat) s).fI.s,
                            V.isl (3 : Nat) (rdI (65 : Nat) s).fI.m (rdI (65 : Nat) s).fI.g],
                        V.int IntKind.i64 (0 : Int)]),
                  [])))))
        (Tr.chk true
          (Tr.leaf
            (Fin.ret
                (V.tup
                  [V.agg [V.bool false, V.str (bytesOf (ByteArray.mk #[])), V.nilSl], V.int IntKind.i64 (2 : Int)]),
              [])))))) := by kernel_rfl
theorem ddc_ok : ∀ args h r, ((ctT dc_read dc_f) args h).is r → LFn Pr 22 args h r.1 r.2 := by
  refine ctT_ok (fun s => [.str s]) (fun _ => []) ?_ (fun s r h => ?_)
  · intro args h a e
    unfold dc_read at e
    split at e <;> cases e <;> exact ⟨rfl, rfl⟩
  · rw [dc_f, Tr.is_br] at h
    refine fnT (OT_sound (td_all 65)) mixed (by kernel_rfl) LoopsOk.noneT (ddc_x s) ?_
    have no : decF s = none → r = (.ret (.tup [.agg [.bool false, .str [], .nilSl], .int .i64 (dcE s)]), []) := by
      intro hn
      rw [if_neg (by rw [dcO_none hn]; decide), Tr.is_leaf] at h
      exact h.symm
    refine wp_chk_true.2 (wp_br.2 ⟨fun h1 => wp_chk_true.2 (wp_leaf.2 ?_), fun h1 => ?_⟩)
    · have h1 := of_decide_eq_true h1
      rw [no (by unfold decF; rw [if_neg (by omega)])]
      unfold dcE
      rw [if_neg (by omega)]; rfl
    · have h1 := of_decide_eq_false h1
      have hs : s.length ≤ 65536 := by omega
      have hP : tdPB 65 (0, s) = true := @decide_eq_true _ (Classical.propDecidable _) ⟨(rfl : (0 : Int) = 65 - ((65 : Nat) : Int)), Nat.le_refl _, hs⟩
      rw [hP]
      refine wp_chk_true.2 (wp_br.2 ⟨fun h2 => ?_, fun h2 => wp_chk_true.2 (wp_leaf.2 ?_)⟩)
      · obtain ⟨⟨x, q⟩, hp⟩ : ∃ p, itF 65 s = some p := @of_decide_eq_true _ (Classical.propDecidable _) h2
        have hlt := itF_len 65 s x q hp
        have hN : tdN 65 s = ((s.length - q.length : Nat) : Int) := by unfold tdN; rw [if_pos trivial, rdR_eq hp]
        rw [hN]
        refine wp_chk_true.2 (wp_br.2 ⟨fun h3 => wp_chk_true.2 (wp_leaf.2 ?_), fun h3 => wp_chk_true.2 (wp_leaf.2 ?_)⟩)
        · have hne : q ≠ [] := by
            rintro rfl
            simp at h3
          rw [no, dcE_two hs]; · rfl
          unfold decF
          rw [if_pos hs, hp, Option.bind_some, if_neg hne]
        · have hq : q = [] := by
            cases q with
            | nil => rfl
            | cons b q =>
              simp only [List.length_cons] at h3 hlt
              simp at h3
              omega
          have hd : decF s = some x := by unfold decF; rw [if_pos hs, hp, Option.bind_some, if_pos hq]
          rw [if_pos (dcO_some hd), Tr.is_leaf, dcI_eq hd] at h
          rw [← h, rdI_eq hp]; rfl
      · have := @of_decide_eq_false _ (Classical.propDecidable _) h2
        have hn : itF 65 s = none := by
          cases h8 : itF 65 s with
          | none => rfl
          | some p => exact absurd ⟨p, h8⟩ this
        rw [no (by unfold decF; rw [if_pos hs, hn]; rfl), dcE_two hs]; rfl
def KY : KnownT := (22, ctT dc_read dc_f) :: KW
theorem KY_ok : KOkT Pr KY := KOkT.cons (Enters.of (fn := Go.Proofs.Tryd.f22) (by kernel_rfl) (by kernel_rfl)) ddc_ok KW_ok
def OY : OrcT := autoT Pr ext KY [23,19] 3
theorem OY_sound : OrcSound Pr OY.o := autoT_sound mixed ext_ok KY_ok (by kernel_rfl) 3
def cY1 : Code := dropSeq 3 (bodyOf Go.Proofs.Tryd.f4)
def cY0 : Code := dropSeq 2 (bodyOf Go.Proofs.Tryd.f4)
theorem ly0_x (s : List B) (more : List B) (own : Bool) (n : Nat) (p : PW) (at_ : Int) (by_ : B) : Tr.prune (Tr.Sh.any.r)
  (execBYE Pr OY noLoopsT (100 : Nat) Go.Proofs.Tryd.f4 (0 : Nat)
  (Tell.mk [(0 : Nat), (1 : Nat), (2 : Nat), (3 : Nat), (4 : Nat), (5 : Nat), (13 : Nat)] [] []) (Tell.mk [] [] [])
  (takeSeq (2 : Nat) (bodyOf Go.Proofs.Tryd.f4))
  [((0 : Nat), V.str s), ((1 : Nat), V.bool own), ((2 : Nat), V.isl (2 : Nat) n (pwF p)),
    ((3 : Nat), V.int IntKind.i64 at_), ((4 : Nat), V.u8 by_), ((5 : Nat), V.str more)]
  []) =
  Tr.chk true
  (Tr.leaf
    (Sum.inr
      (X.normal,
        [((0 : Nat), V.str s), ((1 : Nat), V.bool own), ((2 : Nat), V.isl (2 : Nat) n (pwF p)),
          ((3 : Nat), V.int IntKind.i64 at_), ((4 : Nat), V.u8 by_), ((5 : Nat), V.str more),
          ((13 : Nat), V.bool true)],
        []))) := by kernel_rfl
def XR (n : Nat) (p : PW) : It := (mkI (61 : Nat) ((some (if (60 : Int) < (↑n : Int) then (60 : Int) else (↑n : Int))).getD (↑n : Int) - (0 : Int)).toNat fun i j ↦ pwF p ((none.getD (0 : Int)).toNat + i) j)
theorem ly1_x (s : List B) (more : List B) (own : Bool) (h : Bool) (n : Nat) (p : PW) (at_ : Int) (by_ : B) : Tr.prune ((Tr.Sh.any.both Tr.Sh.any).both Tr.Sh.any) (execBYE Pr OY 
  noLoopsT (100 : Nat) Go.Proofs.Tryd.f4 (0 : Nat) (Tell.mk [(0 : Nat), (13 : Nat)] [] []) (Tell.mk [] [] []) (takeSeq (0 : Nat) cY0) [((0 : Nat), V.str s), ((1 : Nat), V.bool own), 
  ((2 : Nat), V.isl (2 : Nat) n (pwF p)), ((3 : Nat), V.int IntKind.i64 at_), ((4 : Nat), V.u8 by_), ((5 : Nat), V.str more), ((13 : Nat), V.bool h)] []) = Tr.chk true (Tr.br own 
  (Tr.chk (decide ((0 : Int) ≤ (some (if (60 : Int) < (↑n : Int) then (60 : Int) else (↑n : Int))).getD (↑n : Int)) && decide ((some (if (60 : Int) < (↑n : Int) then (60 : Int) else 
  (↑n : Int))).getD (↑n : Int) ≤ (↑n : Int)) && (mkPB (61 : Nat) (MA.mk ((some (if (60 : Int) < (↑n : Int) then (60 : Int) else (↑n : Int))).getD (↑n : Int) - (0 : Int)).toNat (fun i 
  j ↦ pwF p ((none.getD (0 : Int)).toNat + i) j) (0 : Int)) && true) && (okVB (itV (XR n p)) && (okVB (itV (itO (itV (XR n p)))) && true) && true)) (Tr.br (decide (at_ < (0 : Int))) 
  (Tr.chk (!decide ((↑(encV (itV (itO (itV (XR n p))))).length : Int) = (0 : Int)) && (!decide ((↑(encV (itV (itO (itV (XR n p))))).length : Int) = (0 : Int)) && (decide ((0 : Int) ≤ 
  (wrapI IntKind.i64 ((0 : Int) - wrapI IntKind.i64 (at_ + (1 : Int)))).tmod (↑(encV (itV (itO (itV (XR n p))))).length : Int)) && decide ((wrapI IntKind.i64 ((0 : Int) - wrapI 
  IntKind.i64 (at_ + (1 : Int)))).tmod (↑(encV (itV (itO (itV (XR n p))))).length : Int) < (↑(encV (itV (itO (itV (XR n p))))).length : Int)) && (decide ((0 : Nat) + ((wrapI 
  IntKind.i64 ((0 : Int) - wrapI IntKind.i64 (at_ + (1 : Int)))).tmod (↑(encV (itV (itO (itV (XR n p))))).length : Int)).toNat * (1 : Nat) < (encV (itV (itO (itV (XR n p))))).length) 
  && (decide ((0 : Int) ≤ (wrapI IntKind.i64 ((0 : Int) - wrapI IntKind.i64 (at_ + (1 : Int)))).tmod (↑(encV (itV (itO (itV (XR n p))))).length : Int)) && decide ((wrapI IntKind.i64 
  ((0 : Int) - wrapI IntKind.i64 (at_ + (1 : Int)))).tmod (↑(encV (itV (itO (itV (XR n p))))).length : Int) < (↑(encV (itV (itO (itV (XR n p))))).length : Int)) && decide ((0 : Nat) 
  + ((wrapI IntKind.i64 ((0 : Int) - wrapI IntKind.i64 (at_ + (1 : Int)))).tmod (↑(encV (itV (itO (itV (XR n p))))).length : Int)).toNat * (1 : Nat) + (1 : Nat) ≤ (encV (itV (itO 
  (itV (XR n p))))).length))))) && (decide ((0 : Nat) + (encV (itV (itO (itV (XR n p))))).length ≤ ((encV (itV (itO (itV (XR n p))))).set ((0 : Nat) + ((wrapI IntKind.i64 ((0 : Int) 
  - wrapI IntKind.i64 (at_ + (1 : Int)))).tmod (↑(encV (itV (itO (itV (XR n p))))).length : Int)).toNat * (1 : Nat)) ((encV (itV (itO (itV (XR n p))))).getD ((0 : Nat) + ((wrapI 
  IntKind.i64 ((0 : Int) - wrapI IntKind.i64 (at_ + (1 : Int)))).tmod (↑(encV (itV (itO (itV (XR n p))))).length : Int)).toNat * (1 : Nat)) (OfNat.ofNat (0 : Nat)) ^^^ by_)).length) 
  && (decide ((List.take (encV (itV (itO (itV (XR n p))))).length ((encV (itV (itO (itV (XR n p))))).set ((0 : Nat) + ((wrapI IntKind.i64 ((0 : Int) - wrapI IntKind.i64 (at_ + (1 : 
  Int)))).tmod (↑(encV (itV (itO (itV (XR n p))))).length : Int)).toNat * (1 : Nat)) ((encV (itV (itO (itV (XR n p))))).getD ((0 : Nat) + ((wrapI IntKind.i64 ((0 : Int) - wrapI 
  IntKind.i64 (at_ + (1 : Int)))).tmod (↑(encV (itV (itO (itV (XR n p))))).length : Int)).toNat * (1 : Nat)) (OfNat.ofNat (0 : Nat)) ^^^ by_))).length + more.length ≤ 
  (9223372036854775807 : Nat)) && true))) (Tr.leaf (Sum.inr (X.normal, [((0 : Nat), V.str (List.take (encV (itV (itO (itV (XR n p))))).length ((encV (itV (itO (itV (XR n p))))).set 
  ((0 : Nat) + ((wrapI IntKind.i64 ((0 : Int) - wrapI IntKind.i64 (at_ + (1 : Int)))).tmod (↑(encV (itV (itO (itV (XR n p))))).length : Int)).toNat * (1 : Nat)) ((encV (itV (itO (itV 
  (XR n p))))).getD ((0 : Nat) + ((wrapI IntKind.i64 ((0 : Int) - wrapI IntKind.i64 (at_ + (1 : Int)))).tmod (↑(encV (itV (itO (itV (XR n p))))).length : Int)).toNat * (1 : Nat)) 
  (OfNat.ofNat (0 : Nat)) ^^^ by_)) ++ more)), ((13 : Nat), V.bool h)], [])))) (Tr.chk (!decide ((↑(encV (itV (itO (itV (XR n p))))).length : Int) = (0 : Int)) && (!decide ((↑(encV 
  (itV (itO (itV (XR n p))))).length : Int) = (0 : Int)) && (decide ((0 : Int) ≤ at_.tmod (↑(encV (itV (itO (itV (XR n p))))).length : Int)) && decide (at_.tmod (↑(encV (itV (itO 
  (itV (XR n p))))).length : Int) < (↑(encV (itV (itO (itV (XR n p))))).length : Int)) && (decide ((0 : Nat) + (at_.tmod (↑(encV (itV (itO (itV (XR n p))))).length : Int)).toNat * (1 
  : Nat) < (encV (itV (itO (itV (XR n p))))).length) && (decide ((0 : Int) ≤ at_.tmod (↑(encV (itV (itO (itV (XR n p))))).length : Int)) && decide (at_.tmod (↑(encV (itV (itO (itV 
  (XR n p))))).length : Int) < (↑(encV (itV (itO (itV (XR n p))))).length : Int)) && decide ((0 : Nat) + (at_.tmod (↑(encV (itV (itO (itV (XR n p))))).length : Int)).toNat * (1 : 
  Nat) + (1 : Nat) ≤ (encV (itV (itO (itV (XR n p))))).length))))) && (decide ((0 : Nat) + (encV (itV (itO (itV (XR n p))))).length ≤ ((encV (itV (itO (itV (XR n p))))).set ((0 : 
  Nat) + (at_.tmod (↑(encV (itV (itO (itV (XR n p))))).length : Int)).toNat * (1 : Nat)) ((encV (itV (itO (itV (XR n p))))).getD ((0 : Nat) + (at_.tmod (↑(encV (itV (itO (itV (XR n 
  p))))).length : Int)).toNat * (1 : Nat)) (OfNat.ofNat (0 : Nat)) ^^^ by_)).length) && (decide ((List.take (encV (itV (itO (itV (XR n p))))).length ((encV (itV (itO (itV (XR n 
  p))))).set ((0 : Nat) + (at_.tmod (↑(encV (itV (itO (itV (XR n p))))).length : Int)).toNat * (1 : Nat)) ((encV (itV (itO (itV (XR n p))))).getD ((0 : Nat) + (at_.tmod (↑(encV (itV 
  (itO (itV (XR n p))))).length : Int)).toNat * (1 : Nat)) (OfNat.ofNat (0 : Nat)) ^^^ by_))).length + more.length ≤ (9223372036854775807 : Nat)) && true))) (Tr.leaf (Sum.inr 
  (X.normal, [((0 : Nat), V.str (List.take (encV (itV (itO (itV (XR n p))))).length ((encV (itV (itO (itV (XR n p))))).set ((0 : Nat) + (at_.tmod (↑(encV (itV (itO (itV (XR n 
  p))))).length : Int)).toNat * (1 : Nat)) ((encV (itV (itO (itV (XR n p))))).getD ((0 : Nat) + (at_.tmod (↑(encV (itV (itO (itV (XR n p))))).length : Int)).toNat * (1 : Nat)) 
  (OfNat.ofNat (0 : Nat)) ^^^ by_)) ++ more)), ((13 : Nat), V.bool h)], [])))))) (Tr.leaf (Sum.inr (X.normal, [((0 : Nat), V.str s), ((13 : Nat), V.bool h)], [])))) := by kernel_rfl
theorem ly2_x (t : List B) (h : Bool) : Tr.prune (((Tr.Sh.any.l.l.l.l.l.l.l.both Tr.Sh.any.r.r.r.r.r.r.r).both
      ((Tr.Sh.any.l.l.l.l.both Tr.Sh.any.r.r.r.r).l.l.both Tr.Sh.any.r.r.r.r.r.r.r)).both
  (((Tr.Sh.any.l.l.l.l.both Tr.Sh.any.r.r.r.r).l.l.both Tr.Sh.any.r.r.r.r.r.r.r).both
    ((Tr.Sh.any.l.l.l.l.both Tr.Sh.any.r.r.r.r).l.l.both Tr.Sh.any.r.r.r.r.r.r.r)))
  (execBR Pr OY noLoopsT (100 : Nat) Go.Proofs.Tryd.f4 (0 : Nat) cY1 [((0 : Nat), V.str t), ((13 : Nat), V.bool h)] []) =
  Tr.chk true
  (Tr.br (dcO t)
    (Tr.chk true
      (Tr.br (dcO t)
        (Tr.chk true
          (Tr.br h
            (Tr.chk
              (okVB (V.agg [V.bool (dcI t).fI.b, V.str (dcI t).fI.s, V.isl (3 : Nat) (dcI t).fI.m (dcI t).fI.g]) &&
                (okVB (V.agg [V.bool (dcI t).fI.b, V.str (dcI t).fI.s, V.isl (3 : Nat) (dcI t).fI.m (dcI t).fI.g]) &&
                  true))
              (Tr.leaf
                (Fin.ret
                    (V.bool
                      (shwV
                          (V.agg
                            [V.bool (dcI t).fI.b, V.str (dcI t).fI.s, V.isl (3 : Nat) (dcI t).fI.m (dcI t).fI.g]) ==
                        shwV
                          (V.agg
                            [V.bool (dcI t).fI.b, V.str (dcI t).fI.s, V.isl (3 : Nat) (dcI t).fI.m (dcI t).fI.g]))),
                  [])))
            (Tr.chk true (Tr.leaf (Fin.ret (V.bool false), [])))))
        (Tr.chk true
          (Tr.br h
            (Tr.chk true
              (Tr.br ((0 : Int) == dcE t)
                (Tr.chk
                  (okVB (V.agg [V.bool (dcI t).fI.b, V.str (dcI t).fI.s, V.isl (3 : Nat) (dcI t).fI.m (dcI t).fI.g]) &&
                    (Decidable.rec (fun h ↦ (fun x ↦ false) h) (fun h ↦ (fun x ↦ true) h)
                        (Classical.propDecidable (okV (V.agg [V.bool false, V.str [], V.nilSl]))) &&
                      true))
                  (Tr.leaf
                    (Fin.ret
                        (V.bool
                          (shwV
                              (V.agg
                                [V.bool (dcI t).fI.b, V.str (dcI t).fI.s, V.isl (3 : Nat) (dcI t).fI.m (dcI t).fI.g]) ==
                            shwV (V.agg [V.bool false, V.str [], V.nilSl]))),
                      [])))
                (Tr.chk true (Tr.leaf (Fin.ret (V.bool false), [])))))
            (Tr.chk true (Tr.leaf (Fin.ret (V.bool false), [])))))))
    (Tr.chk true
      (Tr.br (dcO t)
        (Tr.chk true
          (Tr.br h
            (Tr.chk true
              (Tr.br (dcE t == (0 : Int))
                (Tr.chk
                  (Decidable.rec (fun h ↦ (fun x ↦ false) h) (fun h ↦ (fun x ↦ true) h)
                      (Classical.propDecidable (okV (V.agg [V.bool false, V.str [], V.nilSl]))) &&
                    (okVB
                        (V.agg [V.bool (dcI t).fI.b, V.str (dcI t).fI.s, V.isl (3 : Nat) (dcI t).fI.m (dcI t).fI.g]) &&
                      true))
                  (Tr.leaf
                    (Fin.ret
                        (V.bool
                          (shwV (V.agg [V.bool false, V.str [], V.nilSl]) ==
                            shwV
                              (V.agg
                                [V.bool (dcI t).fI.b, V.str (dcI t).fI.s, V.isl (3 : Nat) (dcI t).fI.m (dcI t).fI.g]))),
                      [])))
                (Tr.chk true (Tr.leaf (Fin.ret (V.bool false), [])))))
            (Tr.chk true (Tr.leaf (Fin.ret (V.bool false), [])))))
        (Tr.chk true
          (Tr.br h
            (Tr.chk true
              (Tr.br (dcE t == dcE t)
                (Tr.chk
                  (Decidable.rec (fun h ↦ (fun x ↦ false) h) (fun h ↦ (fun x ↦ true) h)
                      (Classical.propDecidable (okV (V.agg [V.bool false, V.str [], V.nilSl]))) &&
                    (Decidable.rec (fun h ↦ (fun x ↦ false) h) (fun h ↦ (fun x ↦ true) h)
                        (Classical.propDecidable (okV (V.agg [V.bool false, V.str [], V.nilSl]))) &&
                      true))
                  (Tr.leaf
                    (Fin.ret
                        (V.bool
                          (shwV (V.agg [V.bool false, V.str [], V.nilSl]) == shwV (V.agg [V.bool false, V.str [], V.nilSl]))),
                      [])))
                (Tr.chk true (Tr.leaf (Fin.ret (V.bool false), [])))))
            (Tr.chk true (Tr.leaf (Fin.ret (V.bool false), [])))))))) := by kernel_rfl
end
end Go.Proofs.YtnafebinaheclaaDoor.K
end
section
open Go Go.Lh
namespace Go.Proofs.YtnafebinaheclaaDoor.K
noncomputable section
set_option maxRecDepth 100000
theorem empty_ok : okVB (.agg [.bool false, .str [], .nilSl]) = true := by
  have i1 : isIt (nrm (.agg [.bool false, .str [], .nilSl])) (.txt []) := .txt [] _
  refine @decide_eq_true _ (Classical.propDecidable _) ⟨⟨_, i1⟩, ?_⟩
  rw [encV_eq i1, enc_txt_eq, if_neg (by simp), List.length_append, m40]
  have := headO_len 128#8 ([] : List B).length
  simp only [List.length_nil] at this ⊢; omega
theorem reads_end (t : List B) : EndsIn Pr Go.Proofs.Tryd.f4 0 cY1 [(0,.str t),(13,.bool true)] [] (.ret (.bool true)) [] := by
  have hT := ly2_x t true
  cases hd : decF t with
  | none =>
    have e2 : (dcE t == dcE t) = true := beq_self_eq_true _
    rw [dcO_none hd, e2] at hT
    refine EndsIn.last OY_sound mixed noLoops_all (by kernel_rfl) hT ?_
    refine brF2 (brF2 (brT2 (brT2 (wp_chk.2 ⟨?_, wp_leaf.2 ?_⟩))))
    · show (okVB (.agg [.bool false, .str [], .nilSl]) && (okVB (.agg [.bool false, .str [], .nilSl]) && true)) = true
      rw [empty_ok]; rfl
    · show (Fin.ret (V.bool (shwV (.agg [.bool false, .str [], .nilSl]) == shwV (.agg [.bool false, .str [], .nilSl]))), []) = _
      rw [beq_self_eq_true]
  | some x =>
    obtain ⟨h1, h2⟩ := decF_back hd
    have ev : V.agg [V.bool x.fI.b, V.str x.fI.s, V.isl 3 x.fI.m x.fI.g] = itV x := rfl
    have ok : okVB (itV x) = true := itV_ok (by rw [h1, m40]; omega)
    rw [dcO_some hd, dcI_eq hd, ev, ok, beq_self_eq_true] at hT
    refine EndsIn.last OY_sound mixed noLoops_all (by kernel_rfl) hT ?_
    exact brT2 (brT2 (brT2 (wp_chk_true.2 (wp_leaf.2 rfl))))
theorem rlpReads_fn (s more : List B) (own : Bool) (n : Nat) (p : PW) (a : Int) (b : B) (ha : -9223372036854775808 ≤ a ∧ a ≤ 9223372036854775807) (hm : more.length ≤ 4611686018427387904) :
    LFn Pr 4 [.str s, .bool own, .isl 2 n (pwF p), .int .i64 a, .u8 b, .str more] [] (.ret (.bool true)) [] := by
  refine EndsIn.done (fn := Go.Proofs.Tryd.f4) (by kernel_rfl) (by kernel_rfl) (by kernel_rfl) ?_
  refine EndsIn.cutY (L := noLoopsT) 2 OY_sound mixed (by kernel_rfl) noLoops_all (by kernel_rfl) (ly0_x s more own n p a b) ?_
  refine wp_chk_true.2 (wp_leaf.2 ⟨clo_nil, .inl ⟨_, _, rfl, ?_⟩⟩)
  have hT := ly1_x s more own true n p a b
  obtain ⟨hl, hd⟩ := mk_60 (lawPts n p) (lawPts_len n p)
  have hx : (mkF 61 (lawPts n p)).1 = lawIt n p := rfl
  rw [hx] at hl hd
  have hXR : XR n p = lawIt n p := by
    unfold XR
    rw [min60, Option.getD_some, Int.sub_zero, Int.toNat_natCast, Option.getD_none, Int.toNat_zero]
    exact law_I n p
  rw [hXR, min60, Option.getD_some, Int.sub_zero, Int.toNat_natCast, Option.getD_none, Int.toNat_zero, law_P] at hT
  generalize lawIt n p = x at hl hd hT
  have ev : V.agg [V.bool x.fI.b, V.str x.fI.s, V.isl 3 x.fI.m x.fI.g] = itV x := rfl
  have ok : okVB (itV x) = true := itV_ok (by rw [m40]; omega)
  have hp := enc_pos x
  rw [itO_itV, itV_enc, ok] at hT
  generalize enc x = E at hl hp hT
  refine EndsIn.cutY (L := noLoopsT) 0 OY_sound mixed (by kernel_rfl) noLoops_all (by kernel_rfl) hT ?_
  have go : ∀ A : Int, 0 ≤ A → A < 9223372036854775808 → ∀ Q : Prop, Q → (Tr.chk
              (!decide ((E.length : Int) = 0) &&
                  (!decide ((E.length : Int) = 0) &&
                    (decide (0 ≤ A.tmod (E.length : Int)) &&
                        decide (A.tmod (E.length : Int) < (E.length : Int)) &&
                      (decide (0 + (A.tmod (E.length : Int)).toNat * 1 < E.length) &&
                        (decide (0 ≤ A.tmod (E.length : Int)) &&
                            decide (A.tmod (E.length : Int) < (E.length : Int)) &&
                          decide (0 + (A.tmod (E.length : Int)).toNat * 1 + 1 ≤ E.length))))) &&
                (decide (0 + E.length ≤ (E.set (0 + (A.tmod (E.length : Int)).toNat * 1) (E.getD (0 + (A.tmod (E.length : Int)).toNat * 1) (OfNat.ofNat 0) ^^^ b)).length) &&
                  (decide ((List.take E.length (E.set (0 + (A.tmod (E.length : Int)).toNat * 1) (E.getD (0 + (A.tmod (E.length : Int)).toNat * 1) (OfNat.ofNat 0) ^^^ b))).length + more.length ≤ 9223372036854775807) &&
                    true)))
              (Tr.leaf (Sum.inr (X.normal, [(0, V.str (List.take E.length (E.set (0 + (A.tmod (E.length : Int)).toNat * 1) (E.getD (0 + (A.tmod (E.length : Int)).toNat * 1) (OfNat.ofNat 0) ^^^ b)) ++ more)), (13, V.bool true)], ([] : Heap)))) : Tr ((Fin × Heap) ⊕ (X × Fr × Heap))).wp (fun q => CloW ⟨[0,13],[],[]⟩ ⟨[],[],[]⟩ q ∧ ((∃ f g, q = .inr (.normal, f, g) ∧ EndsIn Pr Go.Proofs.Tryd.f4 0 (dropSeq 0 cY0) f g (.ret (.bool true)) []) ∨ ∃ g, q = .inl (.ret (.bool true), g) ∧ DeadOf g [])) := by
    intro A h0 h1 _ _
    obtain ⟨k, rfl⟩ : ∃ k : Nat, A = (k : Int) := ⟨A.toNat, by omega⟩
    have ht : ((k : Int)).tmod (E.length : Int) = ((k % E.length : Nat) : Int) := rfl
    have hlt : k % E.length < E.length := Nat.mod_lt _ hp
    rw [ht, Int.toNat_natCast]
    refine wp_chk.2 ⟨?_, wp_leaf.2 ⟨clo_nil, .inl ⟨_, _, rfl, reads_end _⟩⟩⟩
    simp only [Bool.and_true, Bool.and_eq_true, Bool.not_eq_true', decide_eq_false_iff_not, decide_eq_true_eq, List.length_set, List.length_take]; omega
  refine wp_chk_true.2 (wp_br.2 ⟨fun h1 => wp_chk.2 ⟨by simp only [Bool.and_true, Bool.and_eq_true, decide_eq_true_eq]; omega, wp_br.2 ⟨fun h2 => ?_, fun h2 => ?_⟩⟩, fun h1 => wp_leaf.2 ⟨clo_nil, .inl ⟨_, _, rfl, reads_end s⟩⟩⟩)
  · have h2 := of_decide_eq_true h2
    have w1 : wrapI .i64 (a + 1) = a + 1 := wrapI_in (by omega) (by omega)
    have w2 : wrapI .i64 (0 - (a + 1)) = 0 - (a + 1) := wrapI_in (by omega) (by omega)
    rw [w1, w2]
    exact go (0 - (a + 1)) (by omega) (by omega) True trivial
  · have h2 := of_decide_eq_false h2
    exact go a (by omega) (by omega) True trivial
end
end Go.Proofs.YtnafebinaheclaaDoor.K
end
