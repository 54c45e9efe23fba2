/- A call by what the oracle says is sound. -/
import Derived.Test.YtajbaocfdlopbaaLhR
set_option linter.unusedSimpArgs false
set_option linter.unusedVariables false
namespace Go.Lh

theorem subHeap_get {h : Heap} {τ : Nat → Option Nat} : ∀ {rd : List Nat} {hs : Heap}, subHeap h τ rd = some hs → hs.length = rd.length ∧
    ∀ (k i : Nat), rd[k]? = some i → ∃ b b', h[i]? = some b ∧ isDead b = false ∧ renB τ b = some b' ∧ hs[k]? = some b'
  | [], hs, e => by simp [subHeap] at e; subst e; simp
  | i :: r, hs, e => by
    simp only [subHeap] at e
    split at e <;> try simp only [reduceCtorEq] at e
    rename_i b l hb hl
    split at e <;> try simp only [reduceCtorEq] at e
    rename_i hd
    split at e <;> simp at e
    rename_i b' hb'
    subst e
    obtain ⟨h1, h2⟩ := subHeap_get hl
    refine ⟨by simp [h1], fun k j hk => ?_⟩
    cases k with
    | zero => simp at hk; subst hk; exact ⟨b, b', hb, by simpa using hd, hb', rfl⟩
    | succ k => simpa using h2 k j (by simpa using hk)

theorem renBs_get {τ : Nat → Option Nat} : ∀ {h l : Heap}, renBs τ h = some l → l.length = h.length ∧ ∀ (k : Nat) b, h[k]? = some b → ∃ b', l[k]? = some b' ∧ renB τ b = some b'
  | [], l, e => by simp [renBs] at e; subst e; simp
  | b :: r, l, e => by
    simp only [renBs] at e
    split at e <;> simp at e
    rename_i b' l' hb hl
    subst e
    obtain ⟨h1, h2⟩ := renBs_get hl
    refine ⟨by simp [h1], fun k c hk => ?_⟩
    cases k with
    | zero => simp at hk; subst hk; exact ⟨b', rfl, hb⟩
    | succ k => simpa using h2 k c (by simpa using hk)

theorem setAll_length : ∀ (rd : List Nat) (bs : List Blk) (h : Heap), (setAll h rd bs).length = h.length
  | [], _, h => by simp [setAll]
  | _ :: _, [], h => by simp [setAll]
  | i :: r, b :: s, h => by simp [setAll, setAll_length r s]

theorem setAll_ne : ∀ (rd : List Nat) (bs : List Blk) (h : Heap) (i : Nat), i ∉ rd → (setAll h rd bs)[i]? = h[i]?
  | [], _, h, _, _ => by simp [setAll]
  | _ :: _, [], h, _, _ => by simp [setAll]
  | j :: r, b :: s, h, i, hi => by
    simp only [List.mem_cons, not_or] at hi
    simp only [setAll]
    rw [setAll_ne r s _ i hi.2, List.getElem?_set_ne (fun e => hi.1 e.symm)]

theorem setAll_at : ∀ (rd : List Nat) (bs : List Blk) (h : Heap) (k i : Nat) (b : Blk), rd.Nodup → rd[k]? = some i → bs[k]? = some b → i < h.length → (setAll h rd bs)[i]? = some b
  | [], _, _, k, i, b, _, hk, _, _ => by simp at hk
  | _ :: _, [], _, k, i, b, _, _, hb, _ => by simp at hb
  | j :: r, c :: s, h, 0, i, b, hn, hk, hb, hi => by
    simp at hk hb; subst hk; subst hb
    simp only [setAll]
    rw [setAll_ne r s _ _ (List.nodup_cons.1 hn).1, List.getElem?_set_self hi]
  | j :: r, c :: s, h, k + 1, i, b, hn, hk, hb, hi => by
    simp only [setAll]
    exact setAll_at r s _ k i b (List.nodup_cons.1 hn).2 (by simpa using hk) (by simpa using hb) (by simpa using hi)

theorem nodup_inj : ∀ {l : List Nat} {i j x : Nat}, l.Nodup → l[i]? = some x → l[j]? = some x → i = j
  | [], i, j, x, _, hi, _ => by simp at hi
  | a :: r, 0, 0, x, _, _, _ => rfl
  | a :: r, 0, j + 1, x, hn, hi, hj => by
    simp at hi hj; subst hi
    exact absurd (List.mem_of_getElem? hj) (List.nodup_cons.1 hn).1
  | a :: r, i + 1, 0, x, hn, hi, hj => by
    simp at hi hj; subst hj
    exact absurd (List.mem_of_getElem? hi) (List.nodup_cons.1 hn).1
  | a :: r, i + 1, j + 1, x, hn, hi, hj => by
    simp at hi hj
    rw [nodup_inj (List.nodup_cons.1 hn).2 hi hj]

section
variable {P : Program} {w : World} {I : Nat → Prop} {ρ : Ren} {h : Heap} {F : Nat → Prop}

theorem callO_sound {O : Oracle} (hO : OSound P O) (R : Rel ρ I w h F) {f : FuncId} {args : List V} {args' : List Value} {fin : Fin} {h' : Heap} (ha : VsRel I w ρ args args')
    (hs : callO O f args h = some (true, fin, h')) :
    Calls P f ⟨args'⟩ w fun e w' => ∃ ρ' I', Rel ρ' I' w' h' (fun i => F i ∧ ¬ (h.length ≤ i ∧ i < h'.length)) ∧ Went ρ I w h ρ' I' w' h' ∧ FinRel I' w' ρ' fin e := by
  unfold callO at hs
  generalize hrd : reach h 100 (refsVs args) [] = rd at hs
  have hnd : rd.Nodup := by rw [← hrd]; exact reach_nodup h _ _ _ (by simp)
  simp only at hs
  split at hs <;> try simp only [reduceCtorEq] at hs
  rename_i args2 hs2 hra hsub
  split at hs <;> try simp only [reduceCtorEq] at hs
  rename_i k fin2 hs3 hcall
  split at hs <;> try simp only [reduceCtorEq] at hs
  rename_i hle
  split at hs <;> simp at hs
  rename_i fin' l hfin hl
  obtain ⟨rfl, rfl, rfl⟩ := hs
  obtain ⟨sl, sg⟩ := subHeap_get hsub
  obtain ⟨bl, bg⟩ := renBs_get hl
  -- the callee's own numbering
  let ρ₂ : Ren := fun k => match rd[k]? with | some i => ρ i | none => none
  have hτ : ∀ i k q, posOf rd i = some k → ρ i = some q → ρ₂ k = some q := by
    intro i k q hk hq
    simp only [ρ₂, posOf_get hk, hq]
  have rdlt : ∀ (k : Nat) (i : Nat), rd[k]? = some i → i < h.length := by
    intro k i hk
    obtain ⟨b, _, hb, _⟩ := sg k i hk
    exact (List.getElem?_eq_some_iff.1 hb).1
  have rdloc : ∀ (k i : Nat), rd[k]? = some i → ∃ (b : Blk) (q : Loc), h[i]? = some b ∧ b ≠ .dead ∧ ρ i = some q ∧ BRel I w ρ q b ∧ ¬ I q.b := by
    intro k i hk
    obtain ⟨b, _, hb, hd, _⟩ := sg k i hk
    have hne : b ≠ .dead := by rintro rfl; simp [isDead] at hd
    obtain ⟨q, h1, h2, h3⟩ := R.blk i b hb hne
    exact ⟨b, q, hb, hne, h1, h2, h3⟩
  have R₂ : Rel ρ₂ I w hs2 (fun i => hs2.length ≤ i) := by
    have hout : ∀ i, hs2.length ≤ i → ρ₂ i = none := by
      intro i hi
      simp only [ρ₂]
      rw [List.getElem?_eq_none (by omega)]
    refine ⟨?_, hout, hout, ?_, R.lt⟩
    · intro k b hb hne
      have hk : k < rd.length := by rw [← sl]; exact (List.getElem?_eq_some_iff.1 hb).1
      have hki : rd[k]? = some rd[k] := List.getElem?_eq_getElem hk
      obtain ⟨c, c', hc, hcd, hcr, hck⟩ := sg k _ hki
      rw [hb] at hck; cases hck
      have hne : c ≠ .dead := by rintro rfl; simp [isDead] at hcd
      obtain ⟨q, h1, h2, h3⟩ := R.blk _ c hc hne
      exact ⟨q, by simp only [ρ₂, hki, h1], renB_sound hτ hcr h2, h3⟩
    · intro i j x y li lj hij hx hxd hy hyd hli hlj
      have hi : i < rd.length := by rw [← sl]; exact (List.getElem?_eq_some_iff.1 hx).1
      have hj : j < rd.length := by rw [← sl]; exact (List.getElem?_eq_some_iff.1 hy).1
      have hki := List.getElem?_eq_getElem hi
      have hkj := List.getElem?_eq_getElem hj
      obtain ⟨b1, q1, a1, a2, a3, _⟩ := rdloc i _ hki
      obtain ⟨b2, q2, c1, c2, c3, _⟩ := rdloc j _ hkj
      simp only [ρ₂, hki] at hli
      simp only [ρ₂, hkj] at hlj
      exact R.apart _ _ b1 b2 li lj (fun (e : rd[i] = rd[j]) => hij (nodup_inj hnd hki (by rw [e]; exact hkj))) a1 a2 c1 c2 hli hlj
  have ownSub : ∀ b, Own ρ₂ hs2 b → ∃ (k i : Nat) (x : Blk) (q : Loc), rd[k]? = some i ∧ h[i]? = some x ∧ x ≠ .dead ∧ ρ i = some q ∧ q.b = b := by
    rintro b ⟨k, x, q, hx, hxd, hq, rfl⟩
    have hk : k < rd.length := by rw [← sl]; exact (List.getElem?_eq_some_iff.1 hx).1
    have hki := List.getElem?_eq_getElem hk
    obtain ⟨c, q2, a1, a2, a3, _⟩ := rdloc k _ hki
    simp only [ρ₂, hki] at hq
    exact ⟨k, _, c, q, hki, a1, a2, hq, rfl⟩
  have ownUp : ∀ b, Own ρ₂ hs2 b → Own ρ h b := by
    intro b hb
    obtain ⟨k, i, x, q, _, a1, a2, a3, a4⟩ := ownSub b hb
    exact ⟨i, x, q, a1, a2, a3, a4⟩
  refine (hO f args2 hs2 fin2 hs3 hcall ρ₂ I w args' R₂ (renVs_sound hτ ha hra)).mono ?_
  rintro e w' ⟨ρ₃, I', R₃, W₃, hf⟩
  -- back
  let ρ' : Ren := fun i => if i < h.length then ρ i else ρ₃ (i - h.length + rd.length)
  have hsl3 : rd.length ≤ hs3.length := hle
  have ρ3rd : ∀ k i, rd[k]? = some i → ρ₃ k = ρ i := by
    intro k i hk
    obtain ⟨b, q, _, _, a3, _⟩ := rdloc k i hk
    rw [a3]
    exact W₃.ren k q (by simp only [ρ₂, hk, a3])
  have hback : ∀ k i q, backT rd h.length k = some i → ρ₃ k = some q → ρ' i = some q := by
    intro k i q hk hq
    simp only [backT] at hk
    split at hk
    · rename_i hlt
      have := rdlt k i hk
      simp only [ρ', this, if_true]
      rw [← ρ3rd k i hk, hq]
    · rename_i hge
      simp at hk; subst hk
      simp only [ρ']
      rw [if_neg (by omega)]
      rw [show h.length + (k - rd.length) - h.length + rd.length = k from by omega, hq]
  have hren : ∀ i q, ρ i = some q → ρ' i = some q := by
    intro i q hq
    have : i < h.length := by
      rcases Nat.lt_or_ge i h.length with h0 | h0
      · exact h0
      · rw [R.out i h0] at hq; cases hq
    simp only [ρ', this, if_true, hq]
  have imem : ∀ b, I b → w'.heap[b]? = w.heap[b]? := fun b hb => W₃.keep b (R.lt b hb) (fun ho => R.not_own hb (ownUp b ho))
  have L : Le ρ I w ρ' I' w' := ⟨hren, W₃.imm, imem⟩
  -- what lies at each number
  let H : Heap := setAll h rd (l.take rd.length) ++ l.drop rd.length
  have hHlen : H.length = h.length + (hs3.length - rd.length) := by simp [H, setAll_length, bl]
  have case_of : ∀ (i : Nat) (x : Blk), H[i]? = some x → (i < h.length ∧ i ∉ rd ∧ h[i]? = some x) ∨ (∃ (k : Nat) (c : Blk), hs3[k]? = some c ∧ renB (backT rd h.length) c = some x ∧ backT rd h.length k = some i ∧
      ((k < rd.length ∧ rd[k]? = some i) ∨ (rd.length ≤ k ∧ i = h.length + (k - rd.length)))) := by
    intro i x hx
    by_cases hi : i < h.length
    · have e1 : H[i]? = (setAll h rd (l.take rd.length))[i]? := by
        simp only [H]; rw [List.getElem?_append_left (by rw [setAll_length]; exact hi)]
      by_cases hm : i ∈ rd
      · right
        obtain ⟨k, hk⟩ := List.getElem?_of_mem hm
        have hkl : k < rd.length := (List.getElem?_eq_some_iff.1 hk).1
        have hk3 : hs3[k]? = some hs3[k] := List.getElem?_eq_getElem (by omega)
        obtain ⟨b', hb', hr⟩ := bg k _ hk3
        have e2 := setAll_at rd (l.take rd.length) h k i b' hnd hk (by rw [List.getElem?_take, if_pos hkl]; exact hb') hi
        rw [e1, e2] at hx; cases hx
        exact ⟨k, _, hk3, hr, by simp only [backT]; rw [if_pos hkl]; exact hk, .inl ⟨hkl, hk⟩⟩
      · left
        rw [e1, setAll_ne _ _ _ _ hm] at hx
        exact ⟨hi, hm, hx⟩
    · right
      have hiH : i < H.length := (List.getElem?_eq_some_iff.1 hx).1
      have e1 : H[i]? = l[rd.length + (i - h.length)]? := by
        simp only [H]; rw [List.getElem?_append_right (by rw [setAll_length]; omega), setAll_length, List.getElem?_drop]
      have hk3 : hs3[rd.length + (i - h.length)]? = some hs3[rd.length + (i - h.length)] := List.getElem?_eq_getElem (by omega)
      obtain ⟨b', hb', hr⟩ := bg _ _ hk3
      rw [e1, hb'] at hx; cases hx
      refine ⟨_, _, hk3, hr, ?_, .inr ⟨by omega, by omega⟩⟩
      simp only [backT]; rw [if_neg (by omega)]; simp only [Option.some.injEq]; omega
  have loc3 : ∀ (k : Nat) (c : Blk) (i : Nat) (x : Blk), hs3[k]? = some c → renB (backT rd h.length) c = some x → backT rd h.length k = some i → x ≠ .dead → ∃ q, ρ₃ k = some q ∧ ρ' i = some q ∧ BRel I' w' ρ' q x ∧ ¬ I' q.b ∧ c ≠ .dead := by
    intro k c i x hc hr hb hxd
    have hcd : c ≠ .dead := fun e => hxd ((renB_at hr).2.1.2 e)
    obtain ⟨q, h1, h2, h3⟩ := R₃.blk k c hc hcd
    exact ⟨q, h1, hback k i q hb h1, renB_sound hback hr h2, h3, hcd⟩
  have locO : ∀ (i : Nat) (x : Blk), i < h.length → i ∉ rd → h[i]? = some x → x ≠ .dead → ∃ q, ρ i = some q ∧ ρ' i = some q ∧ BRel I' w' ρ' q x ∧ ¬ I' q.b ∧ q.b < w.heap.size ∧ ¬ Own ρ₂ hs2 q.b := by
    intro i x hi hm hx hxd
    obtain ⟨q, h1, h2, h3⟩ := R.blk i x hx hxd
    obtain ⟨C, e, fz, m1, m2, m3, m4⟩ := h2.mem
    have hq : q.b < w.heap.size := by
      rcases Nat.lt_or_ge q.b w.heap.size with h0 | h0
      · exact h0
      · rw [Array.getElem?_eq_none h0] at m1; cases m1
    have hno : ¬ Own ρ₂ hs2 q.b := by
      intro ho
      obtain ⟨k, j, y, q2, a0, a1, a2, a3, a4⟩ := ownSub _ ho
      exact R.apart i j x y q q2 (fun e => hm (e ▸ List.mem_of_getElem? a0)) hx hxd a1 a2 h1 a3 a4.symm
    refine ⟨q, h1, hren i q h1, ⟨⟨C, e, fz, by rw [W₃.keep _ hq hno]; exact m1, m2, m3, fun o ho => ?_⟩, h2.fits⟩, ?_, hq, hno⟩
    · obtain ⟨c, hc, hr⟩ := m4 o ho
      exact ⟨c, hc, hr.le L⟩
    · intro hI
      rcases W₃.fresh _ hI with h0 | h0 | h0
      · exact h3 h0
      · exact hno h0
      · omega
  have own3 : ∀ (k : Nat) (c : Blk) (q : Loc), hs3[k]? = some c → c ≠ .dead → ρ₃ k = some q → Own ρ₂ hs2 q.b ∨ w.heap.size ≤ q.b := fun k c q hc hcd hq => W₃.own _ ⟨k, c, q, hc, hcd, hq, rfl⟩
  refine ⟨ρ', I', ⟨?_, ?_, ?_, ?_, R₃.lt⟩, ⟨hren, W₃.imm, W₃.os, W₃.tape, W₃.output, W₃.size, fun b hb hno => W₃.keep b hb (fun ho => hno (ownUp b ho)), ?_, ?_⟩, ?_⟩
  · intro i x hx hxd
    rcases case_of i x hx with ⟨hi, hm, hx'⟩ | ⟨k, c, hc, hr, hb, _⟩
    · obtain ⟨q, _, h2, h3, h4, _⟩ := locO i x hi hm hx' hxd
      exact ⟨q, h2, h3, h4⟩
    · obtain ⟨q, _, h2, h3, h4, _⟩ := loc3 k c i x hc hr hb hxd
      exact ⟨q, h2, h3, h4⟩
  · rintro i ⟨hF, hn⟩
    by_cases hi : i < h.length
    · simp only [ρ', hi, if_true]; exact R.free i hF
    · simp only [ρ']
      rw [if_neg hi]
      have : H.length ≤ i := by
        rcases Nat.lt_or_ge i H.length with h0 | h0
        · exact (hn ⟨by omega, h0⟩).elim
        · exact h0
      exact R₃.out _ (by omega)
  · intro i hi
    have hi : H.length ≤ i := hi
    simp only [ρ']
    rw [if_neg (by omega)]
    exact R₃.out _ (by omega)
  · intro i j x y li lj hij hx hxd hy hyd hli hlj
    rcases case_of i x hx with ⟨hi, hm, hx'⟩ | ⟨k, c, hc, hr, hb, hkk⟩
    · obtain ⟨q, h1, h2, _, _, h5, h6⟩ := locO i x hi hm hx' hxd
      rw [h2] at hli; cases hli
      rcases case_of j y hy with ⟨hj, hm2, hy'⟩ | ⟨k2, c2, hc2, hr2, hb2, _⟩
      · obtain ⟨q2, g1, g2, _⟩ := locO j y hj hm2 hy' hyd
        rw [g2] at hlj; cases hlj
        exact R.apart i j x y _ _ hij hx' hxd hy' hyd h1 g1
      · obtain ⟨q2, g1, g2, _, _, g5⟩ := loc3 k2 c2 j y hc2 hr2 hb2 hyd
        rw [g2] at hlj; cases hlj
        rcases own3 k2 c2 _ hc2 g5 g1 with h0 | h0
        · intro e; exact h6 (e ▸ h0)
        · intro e; omega
    · obtain ⟨q, h1, h2, _, _, h5⟩ := loc3 k c i x hc hr hb hxd
      rw [h2] at hli; cases hli
      rcases case_of j y hy with ⟨hj, hm2, hy'⟩ | ⟨k2, c2, hc2, hr2, hb2, hkk2⟩
      · obtain ⟨q2, g1, g2, _, _, g5, g6⟩ := locO j y hj hm2 hy' hyd
        rw [g2] at hlj; cases hlj
        rcases own3 k c _ hc h5 h1 with h0 | h0
        · intro e; exact g6 (e ▸ h0)
        · intro e; omega
      · obtain ⟨q2, g1, g2, _, _, g5⟩ := loc3 k2 c2 j y hc2 hr2 hb2 hyd
        rw [g2] at hlj; cases hlj
        refine R₃.apart k k2 c c2 _ _ (fun e => hij ?_) hc h5 hc2 g5 h1 g1
        subst e
        rw [hb] at hb2; cases hb2; rfl
  · rintro b ⟨i, x, q, hx, hxd, hq, rfl⟩
    rcases case_of i x hx with ⟨hi, hm, hx'⟩ | ⟨k, c, hc, hr, hb, _⟩
    · obtain ⟨q2, h1, h2, _⟩ := locO i x hi hm hx' hxd
      rw [h2] at hq; cases hq
      exact .inl ⟨i, x, q, hx', hxd, h1, rfl⟩
    · obtain ⟨q2, h1, h2, _, _, h5⟩ := loc3 k c i x hc hr hb hxd
      rw [h2] at hq; cases hq
      exact (own3 k c _ hc h5 h1).imp (ownUp _) id
  · intro b hb
    rcases W₃.fresh b hb with h0 | h0 | h0
    · exact .inl h0
    · exact .inr (.inl (ownUp b h0))
    · exact .inr (.inr h0)
  · cases fin2 with
    | ret v =>
      simp only [renFin] at hfin
      split at hfin <;> cases hfin
      rename_i u hu
      obtain ⟨v', e1, e2⟩ := hf
      exact ⟨v', e1, renV_sound hback e2 hu⟩
    | pan v =>
      simp only [renFin] at hfin
      split at hfin <;> cases hfin
      rename_i u hu
      obtain ⟨v', e1, e2⟩ := hf
      exact ⟨v', e1, renV_sound hback e2 hu⟩
end
end Go.Lh
