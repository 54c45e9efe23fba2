/- A region whose operations go in any order that the edges allow. -/
import Derived.Test.YtajbaocfdlopbaaLhW
set_option linter.unusedSimpArgs false
set_option linter.unusedVariables false
namespace Go.Lh

theorem appU_length : ∀ (U : List (Nat × Blk)) (h : Heap), (appU h U).length = h.length
  | [], _ => rfl
  | p :: r, h => by simp [appU, appU_length r]

theorem appU_get_ne : ∀ (U : List (Nat × Blk)) (h : Heap) (i : Nat), (∀ p ∈ U, p.1 ≠ i) → (appU h U)[i]? = h[i]?
  | [], _, _, _ => rfl
  | p :: r, h, i, H => by
    simp only [appU]
    rw [appU_get_ne r _ i (fun q hq => H q (by simp [hq])), List.getElem?_set_ne (H p (by simp))]

theorem appU_append : ∀ (U : List (Nat × Blk)) (h N : Heap), (N = [] ∨ ∀ p ∈ U, p.1 < h.length) → appU (h ++ N) U = appU h U ++ N
  | [], _, _, _ => rfl
  | p :: r, h, N, H => by
    simp only [appU]
    rcases H with rfl | H
    · simp
    · rw [List.set_append_left _ _ (H p (by simp))]
      exact appU_append r _ N (.inr fun q hq => by simpa using H q (by simp [hq]))

theorem appU_set (U : List (Nat × Blk)) : ∀ (h : Heap) (i : Nat) (b : Blk), (∀ p ∈ U, p.1 ≠ i) → appU (h.set i b) U = (appU h U).set i b := by
  induction U with
  | nil => intro h i b _; rfl
  | cons p r ih =>
    intro h i b H
    simp only [appU]
    rw [List.set_comm _ _ (fun e => H p (by simp) e.symm)]
    exact ih _ i b (fun q hq => H q (by simp [hq]))

theorem appU_comm : ∀ (U V : List (Nat × Blk)) (h : Heap), (∀ p ∈ U, ∀ q ∈ V, p.1 ≠ q.1) → appU (appU h U) V = appU (appU h V) U
  | [], _, _, _ => rfl
  | p :: r, V, h, H => by
    simp only [appU]
    rw [appU_comm r V _ (fun a ha b hb => H a (by simp [ha]) b hb), appU_set V h p.1 p.2 (fun q hq => (H p (by simp) q hq).symm)]

theorem disj_iff {l m : List Nat} (h : disj l m = true) : ∀ i ∈ l, i ∉ m := by
  intro i hi hm
  have := List.all_eq_true.1 h i hi
  rw [(memN_iff i m).2 hm] at this
  cases this

structure Indep (s t : Tch) : Prop where
  w1 : ∀ i ∈ s.W, i ∉ t.R ∧ i ∉ t.W
  w2 : ∀ i ∈ t.W, i ∉ s.R ∧ i ∉ s.W
  c : ¬ (s.c = true ∧ t.c = true)
  l1 : s.c = true → ∀ i, i ∈ t.R ∨ i ∈ t.W → i < s.len
  l2 : t.c = true → ∀ i, i ∈ s.R ∨ i ∈ s.W → i < t.len

theorem indep_iff {s t : Tch} (h : s.indep t = true) : Indep s t := by
  simp only [Tch.indep, Bool.and_eq_true, Bool.or_eq_true, Bool.not_eq_true'] at h
  obtain ⟨⟨⟨⟨h1, h2⟩, h3⟩, h4⟩, h5⟩ := h
  refine ⟨fun i hi => ?_, fun i hi => ?_, ?_, fun hc i hi => ?_, fun hc i hi => ?_⟩
  · have := disj_iff h1 i hi; simpa using this
  · have := disj_iff h2 i hi; simpa using this
  · rintro ⟨a, b⟩; rw [a, b] at h3; cases h3
  · rcases h4 with h4 | h4
    · rw [hc] at h4; cases h4
    · have := List.all_eq_true.1 h4 i (by simpa using hi)
      simpa using this
  · rcases h5 with h5 | h5
    · rw [hc] at h5; cases h5
    · have := List.all_eq_true.1 h5 i (by simpa using hi)
      simpa using this

abbrev LSt := Fm × Heap

section
variable {P : Program} {O : Orc} {ops : Array Oper}

def mkIdx (P : Program) (ops : Array Oper) (base k : Nat) : Nat := base + nMakes P (ops.toList.take k)

def stC (P : Program) (O : Orc) (ops : Array Oper) (D : List Tch) (base k : Nat) (s : LSt) : Option LSt :=
  match ops[k]?, D[k]? with
  | some o, some t => (match wantV ops.toList s.1 o with
    | some true => (match touchO P O (mkIdx P ops base k) s.1 s.2 o.op, stepO P O (mkIdx P ops base k) s.1 s.2 o.op with
      | some (R, W, c), some (true, .ret v, h') => if R = t.R ∧ W = t.W ∧ c = t.c ∧ (c = true → s.2.length = t.len) then some (s.1.put o.dst v, h') else none
      | _, _ => none)
    | some false => if t.R = [] ∧ t.W = [] ∧ t.c = false then some (s.1.put o.dst (.tup []), s.2) else none
    | none => none)
  | _, _ => none

theorem wantV_congr {g g2 : Fm} {o : Oper} (h : ∀ t, t ∈ o.looksAt ops → g2 t = g t) : wantV ops.toList g2 o = wantV ops.toList g o := by
  unfold wantV
  cases hg : o.guard with
  | none => rfl
  | some q =>
    obtain ⟨j, want⟩ := q
    simp only
    cases hj : ops.toList[j]? with
    | none => rfl
    | some oj =>
      simp only
      cases hd : oj.dst with
      | none => rfl
      | some d =>
        simp only
        rw [Array.getElem?_toList] at hj
        rw [h d (by simp [Oper.looksAt, hg, hj, hd])]

theorem tmpsOf_looks {o : Oper} {t : Nat} (h : tmpsOf o.op t) : t ∈ o.looksAt ops := by
  unfold Oper.looksAt
  exact List.mem_append.2 (.inl (List.mem_filterMap.2 ⟨.tmp t, h, rfl⟩))

theorem stC_loc {D : List Tch} {base k : Nat} {g : Fm} {h : Heap} {s' : LSt} {o : Oper} {t : Tch} (ho : ops[k]? = some o) (ht : D[k]? = some t) (hs : stC P O ops D base k (g, h) = some s') :
    ∃ (v : V) (U : List (Nat × Blk)) (N : Heap), s' = (g.put o.dst v, appU h U ++ N) ∧ (∀ p ∈ U, p.1 ∈ t.W) ∧ (t.c = false → N = []) ∧ (t.c = true → h.length = t.len) ∧
      ∀ (g2 : Fm) (h2 : Heap), (∀ x, x ∈ o.looksAt ops → g2 x = g x) → SameAt t.R h h2 → (t.c = true → h2.length = h.length) → stC P O ops D base k (g2, h2) = some (g2.put o.dst v, appU h2 U ++ N) := by
  unfold stC at hs
  simp only [ho, ht] at hs
  split at hs
  · rename_i hw
    split at hs <;> try simp only [reduceCtorEq] at hs
    rename_i R W c v h' htch hst
    split at hs <;> simp only [Option.some.injEq, reduceCtorEq] at hs
    rename_i hcond
    obtain ⟨rfl, rfl, rfl, hlen⟩ := hcond
    subst hs
    obtain ⟨U, N, u1, u2, u3⟩ := stepO_loc hst htch
    refine ⟨v, U, N, ?_, u1, u2, hlen, fun g2 h2 hg hS hl => ?_⟩
    · have := (u3 h (fun _ _ => rfl) (fun _ => rfl)).1
      rw [hst] at this
      simp only [Option.some.injEq, Prod.mk.injEq, true_and] at this
      rw [this]
    · obtain ⟨a1, a2⟩ := u3 h2 hS hl
      obtain ⟨b1, b2⟩ := stepO_congr (P := P) (O := O) (idx := mkIdx P ops base k) (h := h2) (g := g) (g2 := g2) (op := o.op) (fun x hx => hg x (tmpsOf_looks hx))
      unfold stC
      simp only [ho, ht]
      rw [wantV_congr hg, hw]
      simp only
      rw [b1, b2, a1, a2]
      simp only
      rw [if_pos ⟨trivial, trivial, trivial, fun hc => (hl hc).trans (hlen hc)⟩]
  · rename_i hw
    split at hs <;> simp only [Option.some.injEq, reduceCtorEq] at hs
    rename_i hcond
    subst hs
    refine ⟨.tup [], [], [], by simp [appU], fun p hp => (by cases hp), fun _ => rfl, fun hc => (by rw [hcond.2.2] at hc; cases hc), fun g2 h2 hg hS hl => ?_⟩
    unfold stC
    simp only [ho, ht]
    rw [wantV_congr hg, hw]
    simp only
    rw [if_pos hcond]
    simp [appU]
  · cases hs

theorem put_comm {g : Fm} {d e : Option Tmp} {v u : V} (h : ∀ x, d = some x → e ≠ some x) : (g.put d v).put e u = (g.put e u).put d v := by
  cases d with
  | none => rfl
  | some d =>
    cases e with
    | none => rfl
    | some e =>
      have hne : d ≠ e := fun he => h d rfl (by rw [he])
      funext x
      simp only [Fm.put]
      by_cases h1 : x = e
      · subst h1; rw [if_pos rfl, if_neg (Ne.symm hne), if_pos rfl]
      · rw [if_neg h1]
        by_cases h2 : x = d
        · rw [if_pos h2, if_pos h2]
        · rw [if_neg h2, if_neg h2, if_neg h1]

theorem put_get {g : Fm} {d : Option Tmp} {v : V} {x : Nat} (h : ∀ y, d = some y → y ≠ x) : g.put d v x = g x := by
  cases d with
  | none => rfl
  | some d => simp only [Fm.put]; rw [if_neg (fun e => h d rfl e.symm)]

theorem diamond {D : List Tch} {base i j : Nat} {oi oj : Oper} {ti tj : Tch} (hi : ops[i]? = some oi) (hj : ops[j]? = some oj) (hti : D[i]? = some ti) (htj : D[j]? = some tj)
    (hap : oi.apart ops oj = true) (hin : Indep ti tj) (s s1 s1j : LSt) (h1 : stC P O ops D base i s = some s1) (h2 : stC P O ops D base j s1 = some s1j) :
    ∃ sj, stC P O ops D base j s = some sj ∧ stC P O ops D base i sj = some s1j := by
  obtain ⟨g, h⟩ := s
  obtain ⟨a1, a2, a3⟩ := Oper.apart_spec hap
  obtain ⟨vi, Ui, Ni, rfl, i1, i2, i3, i4⟩ := stC_loc hi hti h1
  obtain ⟨vj, Uj, Nj, rfl, j1, j2, j3, j4⟩ := stC_loc hj htj h2
  have hw12 : ∀ p ∈ Ui, ∀ q ∈ Uj, p.1 ≠ q.1 := fun p hp q hq e => (hin.w1 _ (i1 p hp)).2 (e ▸ j1 q hq)
  have hNi : ti.c = true → tj.c = false := fun hc => by cases h0 : tj.c with | false => rfl | true => exact (hin.c ⟨hc, h0⟩).elim
  have hNj : tj.c = true → ti.c = false := fun hc => by cases h0 : ti.c with | false => rfl | true => exact (hin.c ⟨h0, hc⟩).elim
  have sameJ : SameAt tj.R (appU h Ui ++ Ni) h := by
    intro x hx
    have hxU : ∀ p ∈ Ui, p.1 ≠ x := fun p hp e => (hin.w1 _ (i1 p hp)).1 (e ▸ hx)
    cases hc : ti.c with
    | false => rw [i2 hc, List.append_nil, appU_get_ne _ _ _ hxU]
    | true =>
      have hlt := hin.l1 hc x (.inl hx)
      rw [← i3 hc] at hlt
      rw [List.getElem?_append_left (by rw [appU_length]; exact hlt), appU_get_ne _ _ _ hxU]
  have ej := j4 g h (fun x hx => (put_get (fun y hy e => a1 y hy (e ▸ hx))).symm) sameJ (fun hc => by rw [i2 (hNj hc)]; simp [appU_length])
  refine ⟨_, ej, ?_⟩
  have sameI : SameAt ti.R h (appU h Uj ++ Nj) := by
    intro x hx
    have hxU : ∀ p ∈ Uj, p.1 ≠ x := fun p hp e => (hin.w2 _ (j1 p hp)).1 (e ▸ hx)
    cases hc : tj.c with
    | false => rw [j2 hc, List.append_nil, appU_get_ne _ _ _ hxU]
    | true =>
      have hlt := hin.l2 hc x (.inl hx)
      have hl := j3 hc
      rw [i2 (hNj hc), List.append_nil, appU_length] at hl
      rw [← hl] at hlt
      rw [List.getElem?_append_left (by rw [appU_length]; exact hlt), appU_get_ne _ _ _ hxU]
  have ei := i4 (g.put oj.dst vj) (appU h Uj ++ Nj) (fun x hx => put_get (fun y hy e => a3 y hy (e ▸ hx))) sameI (fun hc => by rw [j2 (hNi hc)]; simp [appU_length])
  rw [ei, put_comm (fun x hx e => a2 x hx e)]
  have heap : appU (appU h Uj ++ Nj) Ui ++ Ni = appU (appU h Ui ++ Ni) Uj ++ Nj := by
    cases hci : ti.c with
    | true =>
      rw [j2 (hNi hci), List.append_nil, List.append_nil]
      rw [appU_append Uj (appU h Ui) Ni (.inr fun p hp => by rw [appU_length, i3 hci]; exact hin.l1 hci _ (.inr (j1 p hp))), appU_comm Ui Uj h hw12]
    | false =>
      rw [i2 hci, List.append_nil, List.append_nil]
      cases hcj : tj.c with
      | false => rw [j2 hcj, List.append_nil, List.append_nil, appU_comm Ui Uj h hw12]
      | true =>
        have hl := j3 hcj
        rw [i2 hci, List.append_nil, appU_length] at hl
        rw [appU_append Ui (appU h Uj) Nj (.inr fun p hp => by rw [appU_length, hl]; exact hin.l2 hcj _ (.inr (i1 p hp))), appU_comm Ui Uj h hw12]
  rw [heap]

/-! ### any order -/

def LAny (ops : Array Oper) (st : Nat → LSt → Option LSt) (Q : LSt → Prop) : Nat → Array Bool → LSt → Prop
  | 0, listed, s => Region.ready .any ops listed = [] ∧ Q s
  | fuel + 1, listed, s => (Region.ready .any ops listed = [] → Q s) ∧
    ∀ i ∈ Region.ready .any ops listed, ∃ s', st i s = some s' ∧ LAny ops st Q fuel (listed.setIfInBounds i true) s'

theorem LAny_first {st : Nat → LSt → Option LSt} {Q : LSt → Prop} {i : Nat} {B : Nat → Prop} (hi : B i)
    (hB : ∀ j oj, B j → j ≠ i → ops[j]? = some oj → ∃ e ∈ oj.after, Region.binds .any e = true ∧ B e.on) :
    ∀ (fuel : Nat) (listed : Array Bool) (s s1 : LSt), (∀ j, B j → j < ops.size → listed.getD j true = false) → (∀ j, B j → j < ops.size) → listed.size = ops.size →
      (∀ j oj, ops[j]? = some oj → ¬ B j → listed.getD j true = false →
        ∀ s s1 s1j, st i s = some s1 → st j s1 = some s1j → ∃ sj, st j s = some sj ∧ st i sj = some s1j) →
      i ∈ Region.ready .any ops listed → st i s = some s1 → LAny ops st Q fuel (listed.setIfInBounds i true) s1 → LAny ops st Q (fuel + 1) listed s := by
  intro fuel
  induction fuel with
  | zero =>
    intro listed s s1 _ _ _ _ hr hst H
    refine ⟨fun h => (by rw [h] at hr; cases hr), fun j hj => ?_⟩
    by_cases hji : j = i
    · subst hji; exact ⟨s1, hst, H⟩
    · have := ready_mono hj hji
      rw [H.1] at this; cases this
  | succ fuel ih =>
    intro listed s s1 hun hlt hsz hfree hr hst H
    refine ⟨fun h => (by rw [h] at hr; cases hr), fun j hj => ?_⟩
    by_cases hji : j = i
    · subst hji; exact ⟨s1, hst, H⟩
    · obtain ⟨s1j, hs1j, Hj⟩ := H.2 j (ready_mono hj hji)
      obtain ⟨hjun, oj, hoj, hall⟩ := mem_ready.1 hj
      have hnB : ¬ B j := by
        intro hb
        obtain ⟨e, he, hbd, hbe⟩ := hB j oj hb hji hoj
        have h1 := hall e he hbd
        have h2 := hlt _ hbe
        have h0 := hun _ hbe h2
        have h3 : e.on < listed.size := by omega
        simp [h3] at h0 h1
        rw [h0] at h1; cases h1
      obtain ⟨sj, hsj, hisj⟩ := hfree j oj hoj hnB hjun s s1 s1j hst hs1j
      refine ⟨sj, hsj, ih (listed.setIfInBounds j true) sj s1j ?_ hlt (by simpa using hsz) ?_ (ready_mono hr (Ne.symm hji)) hisj ?_⟩
      · intro k hk hks
        have : j ≠ k := fun e => hnB (e ▸ hk)
        rw [getD_set_ne true this]; exact hun k hk hks
      · intro k ok hk hnk hun'
        refine hfree k ok hk hnk ?_
        by_cases hjk : j = k
        · subst hjk; exact hjun
        · rw [getD_set_ne true hjk] at hun'; exact hun'
      · rw [Array.setIfInBounds_comm _ _ hji]; exact Hj

theorem waitsAny_iff {o : Oper} {bl : List Nat} (h : waitsAny o bl = true) : ∃ e ∈ o.after, Region.binds .any e = true ∧ e.on ∈ bl := by
  simp only [waitsAny, List.any_eq_true, Bool.and_eq_true] at h
  obtain ⟨e, he, h1, h2⟩ := h
  exact ⟨e, Array.mem_toList_iff.1 he, h2, (memN_iff _ _).1 h1⟩

theorem oneOk_get {o : Oper} {t : Tch} : ∀ (r : List Oper) (l : List Tch) (m : Nat) (bl : List Nat), oneOk ops o t m bl r l = true →
    ∃ B : Nat → Prop, (∀ j ∈ bl, B j) ∧ (∀ j, B j → j ∈ bl ∨ (∃ (k : Nat) (p : Oper), j = m + k ∧ r[k]? = some p ∧ ∃ e ∈ p.after, Region.binds .any e = true ∧ B e.on)) ∧
      ∀ (k : Nat) (p : Oper), r[k]? = some p → ∃ s, l[k]? = some s ∧ (B (m + k) ∨ (o.apart ops p = true ∧ t.indep s = true))
  | [], [], m, bl, _ => ⟨fun j => j ∈ bl, fun _ h => h, fun _ h => .inl h, by simp⟩
  | [], _ :: _, _, _, h => by simp [oneOk] at h
  | _ :: _, [], _, _, h => by simp [oneOk] at h
  | p :: r, s :: l, m, bl, h => by
    simp only [oneOk] at h
    split at h
    · rename_i hw
      obtain ⟨B, b1, b2, b3⟩ := oneOk_get r l (m + 1) (m :: bl) h
      obtain ⟨e, he, hbd, hin⟩ := waitsAny_iff hw
      refine ⟨B, fun j hj => b1 j (by simp [hj]), fun j hj => ?_, fun k q hq => ?_⟩
      · rcases b2 j hj with hm | ⟨k, q, rfl, hq, hx⟩
        · rcases List.mem_cons.1 hm with rfl | hm
          · exact .inr ⟨0, p, rfl, rfl, e, he, hbd, b1 _ (by simp [hin])⟩
          · exact .inl hm
        · exact .inr ⟨k + 1, q, by omega, by simpa using hq, hx⟩
      · cases k with
        | zero => exact ⟨s, rfl, .inl (b1 _ (by simp))⟩
        | succ k =>
          obtain ⟨s', h1, h2⟩ := b3 k q (by simpa using hq)
          exact ⟨s', by simpa using h1, by rw [show m + (k + 1) = m + 1 + k by omega]; exact h2⟩
    · rw [Bool.and_eq_true, Bool.and_eq_true] at h
      obtain ⟨B, b1, b2, b3⟩ := oneOk_get r l (m + 1) bl h.2
      refine ⟨B, b1, fun j hj => ?_, fun k q hq => ?_⟩
      · rcases b2 j hj with hm | ⟨k, q, rfl, hq, hx⟩
        · exact .inl hm
        · exact .inr ⟨k + 1, q, by omega, by simpa using hq, hx⟩
      · cases k with
        | zero => simp at hq; subst hq; exact ⟨s, rfl, .inr h.1⟩
        | succ k =>
          obtain ⟨s', h1, h2⟩ := b3 k q (by simpa using hq)
          exact ⟨s', by simpa using h1, by rw [show m + (k + 1) = m + 1 + k by omega]; exact h2⟩

theorem nMakes_append (P : Program) : ∀ a b : List Oper, nMakes P (a ++ b) = nMakes P a + nMakes P b
  | [], b => by simp [nMakes]
  | o :: r, b => by simp only [List.cons_append, nMakes, nMakes_append P r b]; split <;> omega

theorem LAny_lex {base : Nat} {D : List Tch} {Q : LSt → Prop} {fr' : Fr} {h' : Heap} (hQ : Q (fr'.get, h')) :
    ∀ (l pre : List Oper) (Dp Dl : List Tch) (fr : Fr) (h : Heap) (listed : Array Bool), ops.toList = pre ++ l → D = Dp ++ Dl → Dp.length = pre.length →
      touches P O ops.toList l (base + nMakes P pre) fr h = some Dl → runOps P O ops.toList l (base + nMakes P pre) fr h = some (true, none, fr', h') →
      allOk ops pre.length l Dl = true → backEdges pre.length l = true → listed.size = ops.size → (∀ j, j < ops.size → listed.getD j true = decide (j < pre.length)) →
      LAny ops (stC P O ops D base) Q l.length listed (fr.get, h)
  | [], pre, Dp, Dl, fr, h, listed, hops, hD, hDl, ht, hr, ha, hb, hsz, hl => by
    simp only [runOps, Option.some.injEq, Prod.mk.injEq, true_and] at hr
    obtain ⟨rfl, rfl⟩ := hr
    refine ⟨?_, hQ⟩
    have hn : ops.size = pre.length := by have := congrArg List.length hops; simpa using this
    apply List.eq_nil_iff_forall_not_mem.2
    intro j hj
    obtain ⟨h1, o, ho, _⟩ := mem_ready.1 hj
    have hjl : j < ops.size := (Array.getElem?_eq_some_iff.1 ho).1
    rw [hl j hjl] at h1
    simp at h1; omega
  | o :: l, pre, Dp, Dl, fr, h, listed, hops, hD, hDl, ht, hr, ha, hb, hsz, hl => by
    have hget : ops[pre.length]? = some o := by rw [← Array.getElem?_toList, hops]; simp
    have hn : ops.size = pre.length + (l.length + 1) := by have := congrArg List.length hops; simpa using this
    have hmk : mkIdx P ops base pre.length = base + nMakes P pre := by simp [mkIdx, hops]
    have hnext : nextIdx P o (base + nMakes P pre) = base + nMakes P (pre ++ [o]) := by
      rw [nMakes_append]; simp only [nextIdx, nMakes]; split <;> omega
    -- the step itself
    obtain ⟨v, h1, Dt, D2, rfl, hstep, ht2, hr2⟩ : ∃ (v : V) (h1 : Heap) (Dt : Tch) (D2 : List Tch), Dl = Dt :: D2 ∧ (D[pre.length]? = some Dt → stC P O ops D base pre.length (fr.get, h) = some (Fm.put fr.get o.dst v, h1)) ∧
        touches P O ops.toList l (base + nMakes P (pre ++ [o])) (putO o.dst v fr) h1 = some D2 ∧ runOps P O ops.toList l (base + nMakes P (pre ++ [o])) (putO o.dst v fr) h1 = some (true, none, fr', h') := by
      simp only [touches, runOps, hnext] at ht hr
      cases hw : wantV ops.toList fr.get o with
      | none => simp [hw] at ht
      | some b =>
        simp only [hw] at ht hr
        cases b with
        | true =>
          simp only [if_true] at ht hr
          split at ht <;> try simp only [reduceCtorEq] at ht
          rename_i R W c k v h1 htc hst
          split at ht <;> simp only [Option.some.injEq, reduceCtorEq] at ht
          rename_i D2 hD2
          rw [hst] at hr
          simp only at hr
          split at hr <;> simp only [Option.some.injEq, Prod.mk.injEq, Bool.and_eq_true, reduceCtorEq] at hr
          rename_i k' q hrest
          obtain ⟨⟨rfl, rfl⟩, rfl⟩ := hr
          refine ⟨v, h1, _, D2, ht.symm, fun hDt => ?_, hD2, hrest⟩
          unfold stC
          simp only [hget, hDt, hw, hmk, htc, hst]
          rw [if_pos ⟨trivial, trivial, trivial, fun _ => trivial⟩]
        | false =>
          simp only [Bool.false_eq_true, if_false] at ht hr
          split at ht <;> simp only [Option.some.injEq, reduceCtorEq] at ht
          rename_i D2 hD2
          refine ⟨.tup [], h, _, D2, ht.symm, fun hDt => ?_, hD2, hr⟩
          unfold stC
          simp only [hget, hDt, hw]
          rw [if_pos ⟨trivial, trivial, trivial⟩]
    have hDget : D[pre.length]? = some Dt := by rw [hD, List.getElem?_append_right (by omega), hDl]; simp
    simp only [allOk, Bool.and_eq_true] at ha
    simp only [backEdges, Bool.and_eq_true, List.all_eq_true, Bool.or_eq_true, Bool.not_eq_true'] at hb
    obtain ⟨B, g1, g3, g2⟩ := oneOk_get _ _ _ _ ha.1
    have hready : pre.length ∈ Region.ready .any ops listed := by
      refine mem_ready.2 ⟨by rw [hl _ (by omega)]; simp, o, hget, fun e he hbd => ?_⟩
      rcases hb.1 e (Array.mem_toList_iff.2 he) with h0 | h0
      · rw [hbd] at h0; cases h0
      · have hlt : e.on < pre.length := by simpa using h0
        have := hl e.on (by omega)
        have hlt2 : e.on < listed.size := by omega
        simp only [Array.getD, hlt2, dif_pos] at this ⊢
        rw [this]; simpa using hlt
    have hS := hstep hDget
    have blt : ∀ j, B j → j < ops.size := by
      intro j hj
      rcases g3 j hj with hm | ⟨k, p, rfl, hp, _⟩
      · rw [List.mem_singleton] at hm; omega
      · have := (List.getElem?_eq_some_iff.1 hp).1; omega
    have bge : ∀ j, B j → pre.length ≤ j := by
      intro j hj
      rcases g3 j hj with hm | ⟨k, p, rfl, hp, _⟩
      · rw [List.mem_singleton] at hm; omega
      · omega
    refine LAny_first (B := B) (g1 _ (by simp)) ?_ l.length listed (fr.get, h) _ ?_ blt hsz ?_ hready hS ?_
    · intro j oj hj hne hoj
      rcases g3 j hj with hm | ⟨k, p, rfl, hp, hx⟩
      · rw [List.mem_singleton] at hm; exact (hne hm).elim
      · have : oj = p := by
          rw [← Array.getElem?_toList, hops, List.getElem?_append_right (by omega), show pre.length + 1 + k - pre.length = k + 1 by omega] at hoj
          simp only [List.getElem?_cons_succ] at hoj
          rw [hp] at hoj; cases hoj; rfl
        rw [this]; exact hx
    · intro j hj hjs
      rw [hl j hjs]; simp; exact bge j hj
    · intro j oj hoj hnB hun
      have hjl : j < ops.size := (Array.getElem?_eq_some_iff.1 hoj).1
      have hge : pre.length ≤ j := by
        rw [hl j hjl] at hun
        simpa using hun
      have hgt : pre.length < j := by
        rcases Nat.lt_or_ge pre.length j with h0 | h0
        · exact h0
        · have : j = pre.length := by omega
          exact (hnB (this ▸ g1 _ (by simp))).elim
      obtain ⟨m, rfl⟩ : ∃ m, j = pre.length + 1 + m := ⟨j - (pre.length + 1), by omega⟩
      have hlm : l[m]? = some oj := by
        rw [← Array.getElem?_toList, hops, List.getElem?_append_right (by omega)] at hoj
        rw [show pre.length + 1 + m - pre.length = m + 1 from by omega] at hoj
        simpa using hoj
      obtain ⟨s, hs, hor⟩ := g2 m oj hlm
      have hDj : D[pre.length + 1 + m]? = some s := by
        rw [hD, List.getElem?_append_right (by omega), hDl, show pre.length + 1 + m - pre.length = m + 1 from by omega]
        simpa using hs
      rcases hor with hw | ⟨hap, hin⟩
      · exact (hnB hw).elim
      · exact fun s s1 s1j q1 q2 => diamond hget hoj hDget hDj hap (indep_iff hin) s s1 s1j q1 q2
    · rw [← get_putO]
      refine LAny_lex hQ l (pre ++ [o]) (Dp ++ [Dt]) D2 (putO o.dst v fr) h1 _ (by simp [hops]) (by simp [hD]) (by simp [hDl]) ht2 hr2 ?_ ?_ (by simpa using hsz) ?_
      · simpa using ha.2
      · simpa using hb.2
      · intro j hj
        by_cases hjk : j = pre.length
        · subst hjk
          have : pre.length < listed.size := by omega
          simp [Array.getD, this]
        · rw [getD_set_ne true (Ne.symm hjk), hl j hj]
          simp; omega
end
end Go.Lh
