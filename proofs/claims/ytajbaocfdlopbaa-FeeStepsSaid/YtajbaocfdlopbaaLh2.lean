/- A reckoner for functions over a local heap: what each operation does, and that it is sound; numbers of 256 bits. -/
import Derived.KernelRfl
import Derived.Below
import Derived.WideShapes
import Derived.Lib.Bytealg
import Derived.Test.YtajbaocfdlopbaaLh1
set_option linter.unusedSimpArgs false
set_option linter.unusedVariables false
section
namespace Go.Lh

theorem subHeap_get {h : Heap} {τ : Nat → Option Nat} : ∀ {rd : List Nat} {hs : Heap}, subHeap h τ rd = some hs → hs.length = rd.length ∧
    ∀ (k i : Nat), rd[k]? = some i → ∃ b b', h[i]? = some b ∧ isDead b = false ∧ renB τ b = some b' ∧ hs[k]? = some b'
  | [], hs, e => by simp [subHeap] at e; subst e; simp
  | i :: r, hs, e => by
    simp only [subHeap] at e
    split at e <;> try simp only [reduceCtorEq] at e
    rename_i b l hb hl
    split at e <;> try simp only [reduceCtorEq] at e
    rename_i hd
    split at e <;> simp at e
    rename_i b' hb'
    subst e
    obtain ⟨h1, h2⟩ := subHeap_get hl
    refine ⟨by simp [h1], fun k j hk => ?_⟩
    cases k with
    | zero => simp at hk; subst hk; exact ⟨b, b', hb, by simpa using hd, hb', rfl⟩
    | succ k => simpa using h2 k j (by simpa using hk)

theorem renBs_get {τ : Nat → Option Nat} : ∀ {h l : Heap}, renBs τ h = some l → l.length = h.length ∧ ∀ (k : Nat) b, h[k]? = some b → ∃ b', l[k]? = some b' ∧ renB τ b = some b'
  | [], l, e => by simp [renBs] at e; subst e; simp
  | b :: r, l, e => by
    simp only [renBs] at e
    split at e <;> simp at e
    rename_i b' l' hb hl
    subst e
    obtain ⟨h1, h2⟩ := renBs_get hl
    refine ⟨by simp [h1], fun k c hk => ?_⟩
    cases k with
    | zero => simp at hk; subst hk; exact ⟨b', rfl, hb⟩
    | succ k => simpa using h2 k c (by simpa using hk)

theorem setAll_length : ∀ (rd : List Nat) (bs : List Blk) (h : Heap), (setAll h rd bs).length = h.length
  | [], _, h => by simp [setAll]
  | _ :: _, [], h => by simp [setAll]
  | i :: r, b :: s, h => by simp [setAll, setAll_length r s]

theorem setAll_ne : ∀ (rd : List Nat) (bs : List Blk) (h : Heap) (i : Nat), i ∉ rd → (setAll h rd bs)[i]? = h[i]?
  | [], _, h, _, _ => by simp [setAll]
  | _ :: _, [], h, _, _ => by simp [setAll]
  | j :: r, b :: s, h, i, hi => by
    simp only [List.mem_cons, not_or] at hi
    simp only [setAll]
    rw [setAll_ne r s _ i hi.2, List.getElem?_set_ne (fun e => hi.1 e.symm)]

theorem setAll_at : ∀ (rd : List Nat) (bs : List Blk) (h : Heap) (k i : Nat) (b : Blk), rd.Nodup → rd[k]? = some i → bs[k]? = some b → i < h.length → (setAll h rd bs)[i]? = some b
  | [], _, _, k, i, b, _, hk, _, _ => by simp at hk
  | _ :: _, [], _, k, i, b, _, _, hb, _ => by simp at hb
  | j :: r, c :: s, h, 0, i, b, hn, hk, hb, hi => by
    simp at hk hb; subst hk; subst hb
    simp only [setAll]
    rw [setAll_ne r s _ _ (List.nodup_cons.1 hn).1, List.getElem?_set_self hi]
  | j :: r, c :: s, h, k + 1, i, b, hn, hk, hb, hi => by
    simp only [setAll]
    exact setAll_at r s _ k i b (List.nodup_cons.1 hn).2 (by simpa using hk) (by simpa using hb) (by simpa using hi)

theorem nodup_inj : ∀ {l : List Nat} {i j x : Nat}, l.Nodup → l[i]? = some x → l[j]? = some x → i = j
  | [], i, j, x, _, hi, _ => by simp at hi
  | a :: r, 0, 0, x, _, _, _ => rfl
  | a :: r, 0, j + 1, x, hn, hi, hj => by
    simp at hi hj; subst hi
    exact absurd (List.mem_of_getElem? hj) (List.nodup_cons.1 hn).1
  | a :: r, i + 1, 0, x, hn, hi, hj => by
    simp at hi hj; subst hj
    exact absurd (List.mem_of_getElem? hi) (List.nodup_cons.1 hn).1
  | a :: r, i + 1, j + 1, x, hn, hi, hj => by
    simp at hi hj
    rw [nodup_inj (List.nodup_cons.1 hn).2 hi hj]

section
variable {P : Program} {w : World} {I : Nat → Prop} {ρ : Ren} {h : Heap} {F : Nat → Prop}

theorem callO_sound {O : Oracle} (hO : OSound P O) (R : Rel ρ I w h F) {f : FuncId} {args : List V} {args' : List Value} {fin : Fin} {h' : Heap} (ha : VsRel I w ρ args args')
    (hs : callO O f args h = some (true, fin, h')) :
    Calls P f ⟨args'⟩ w fun e w' => ∃ ρ' I', Rel ρ' I' w' h' (fun i => F i ∧ ¬ (h.length ≤ i ∧ i < h'.length)) ∧ Went ρ I w h ρ' I' w' h' ∧ FinRel I' w' ρ' fin e := by
  unfold callO at hs
  generalize hrd : reach h 100 (refsVs args) [] = rd at hs
  have hnd : rd.Nodup := by rw [← hrd]; exact reach_nodup h _ _ _ (by simp)
  simp only at hs
  split at hs <;> try simp only [reduceCtorEq] at hs
  rename_i args2 hs2 hra hsub
  split at hs <;> try simp only [reduceCtorEq] at hs
  rename_i k fin2 hs3 hcall
  split at hs <;> try simp only [reduceCtorEq] at hs
  rename_i hle
  split at hs <;> simp at hs
  rename_i fin' l hfin hl
  obtain ⟨rfl, rfl, rfl⟩ := hs
  obtain ⟨sl, sg⟩ := subHeap_get hsub
  obtain ⟨bl, bg⟩ := renBs_get hl
  -- the callee's own numbering
  let ρ₂ : Ren := fun k => match rd[k]? with | some i => ρ i | none => none
  have hτ : ∀ i k q, posOf rd i = some k → ρ i = some q → ρ₂ k = some q := by
    intro i k q hk hq
    simp only [ρ₂, posOf_get hk, hq]
  have rdlt : ∀ (k : Nat) (i : Nat), rd[k]? = some i → i < h.length := by
    intro k i hk
    obtain ⟨b, _, hb, _⟩ := sg k i hk
    exact (List.getElem?_eq_some_iff.1 hb).1
  have rdloc : ∀ (k i : Nat), rd[k]? = some i → ∃ (b : Blk) (q : Loc), h[i]? = some b ∧ b ≠ .dead ∧ ρ i = some q ∧ BRel I w ρ q b ∧ ¬ I q.b := by
    intro k i hk
    obtain ⟨b, _, hb, hd, _⟩ := sg k i hk
    have hne : b ≠ .dead := by rintro rfl; simp [isDead] at hd
    obtain ⟨q, h1, h2, h3⟩ := R.blk i b hb hne
    exact ⟨b, q, hb, hne, h1, h2, h3⟩
  have R₂ : Rel ρ₂ I w hs2 (fun i => hs2.length ≤ i) := by
    have hout : ∀ i, hs2.length ≤ i → ρ₂ i = none := by
      intro i hi
      simp only [ρ₂]
      rw [List.getElem?_eq_none (by omega)]
    refine ⟨?_, hout, hout, ?_, R.lt⟩
    · intro k b hb hne
      have hk : k < rd.length := by rw [← sl]; exact (List.getElem?_eq_some_iff.1 hb).1
      have hki : rd[k]? = some rd[k] := List.getElem?_eq_getElem hk
      obtain ⟨c, c', hc, hcd, hcr, hck⟩ := sg k _ hki
      rw [hb] at hck; cases hck
      have hne : c ≠ .dead := by rintro rfl; simp [isDead] at hcd
      obtain ⟨q, h1, h2, h3⟩ := R.blk _ c hc hne
      exact ⟨q, by simp only [ρ₂, hki, h1], renB_sound hτ hcr h2, h3⟩
    · intro i j x y li lj hij hx hxd hy hyd hli hlj
      have hi : i < rd.length := by rw [← sl]; exact (List.getElem?_eq_some_iff.1 hx).1
      have hj : j < rd.length := by rw [← sl]; exact (List.getElem?_eq_some_iff.1 hy).1
      have hki := List.getElem?_eq_getElem hi
      have hkj := List.getElem?_eq_getElem hj
      obtain ⟨b1, q1, a1, a2, a3, _⟩ := rdloc i _ hki
      obtain ⟨b2, q2, c1, c2, c3, _⟩ := rdloc j _ hkj
      simp only [ρ₂, hki] at hli
      simp only [ρ₂, hkj] at hlj
      exact R.apart _ _ b1 b2 li lj (fun (e : rd[i] = rd[j]) => hij (nodup_inj hnd hki (by rw [e]; exact hkj))) a1 a2 c1 c2 hli hlj
  have ownSub : ∀ b, Own ρ₂ hs2 b → ∃ (k i : Nat) (x : Blk) (q : Loc), rd[k]? = some i ∧ h[i]? = some x ∧ x ≠ .dead ∧ ρ i = some q ∧ q.b = b := by
    rintro b ⟨k, x, q, hx, hxd, hq, rfl⟩
    have hk : k < rd.length := by rw [← sl]; exact (List.getElem?_eq_some_iff.1 hx).1
    have hki := List.getElem?_eq_getElem hk
    obtain ⟨c, q2, a1, a2, a3, _⟩ := rdloc k _ hki
    simp only [ρ₂, hki] at hq
    exact ⟨k, _, c, q, hki, a1, a2, hq, rfl⟩
  have ownUp : ∀ b, Own ρ₂ hs2 b → Own ρ h b := by
    intro b hb
    obtain ⟨k, i, x, q, _, a1, a2, a3, a4⟩ := ownSub b hb
    exact ⟨i, x, q, a1, a2, a3, a4⟩
  refine (hO f args2 hs2 fin2 hs3 hcall ρ₂ I w args' R₂ (renVs_sound hτ ha hra)).mono ?_
  rintro e w' ⟨ρ₃, I', R₃, W₃, hf⟩
  -- back
  let ρ' : Ren := fun i => if i < h.length then ρ i else ρ₃ (i - h.length + rd.length)
  have hsl3 : rd.length ≤ hs3.length := hle
  have ρ3rd : ∀ k i, rd[k]? = some i → ρ₃ k = ρ i := by
    intro k i hk
    obtain ⟨b, q, _, _, a3, _⟩ := rdloc k i hk
    rw [a3]
    exact W₃.ren k q (by simp only [ρ₂, hk, a3])
  have hback : ∀ k i q, backT rd h.length k = some i → ρ₃ k = some q → ρ' i = some q := by
    intro k i q hk hq
    simp only [backT] at hk
    split at hk
    · rename_i hlt
      have := rdlt k i hk
      simp only [ρ', this, if_true]
      rw [← ρ3rd k i hk, hq]
    · rename_i hge
      simp at hk; subst hk
      simp only [ρ']
      rw [if_neg (by omega)]
      rw [show h.length + (k - rd.length) - h.length + rd.length = k from by omega, hq]
  have hren : ∀ i q, ρ i = some q → ρ' i = some q := by
    intro i q hq
    have : i < h.length := by
      rcases Nat.lt_or_ge i h.length with h0 | h0
      · exact h0
      · rw [R.out i h0] at hq; cases hq
    simp only [ρ', this, if_true, hq]
  have imem : ∀ b, I b → w'.heap[b]? = w.heap[b]? := fun b hb => W₃.keep b (R.lt b hb) (fun ho => R.not_own hb (ownUp b ho))
  have L : Le ρ I w ρ' I' w' := ⟨hren, W₃.imm, imem⟩
  -- what lies at each number
  let H : Heap := setAll h rd (l.take rd.length) ++ l.drop rd.length
  have hHlen : H.length = h.length + (hs3.length - rd.length) := by simp [H, setAll_length, bl]
  have case_of : ∀ (i : Nat) (x : Blk), H[i]? = some x → (i < h.length ∧ i ∉ rd ∧ h[i]? = some x) ∨ (∃ (k : Nat) (c : Blk), hs3[k]? = some c ∧ renB (backT rd h.length) c = some x ∧ backT rd h.length k = some i ∧
      ((k < rd.length ∧ rd[k]? = some i) ∨ (rd.length ≤ k ∧ i = h.length + (k - rd.length)))) := by
    intro i x hx
    by_cases hi : i < h.length
    · have e1 : H[i]? = (setAll h rd (l.take rd.length))[i]? := by
        simp only [H]; rw [List.getElem?_append_left (by rw [setAll_length]; exact hi)]
      by_cases hm : i ∈ rd
      · right
        obtain ⟨k, hk⟩ := List.getElem?_of_mem hm
        have hkl : k < rd.length := (List.getElem?_eq_some_iff.1 hk).1
        have hk3 : hs3[k]? = some hs3[k] := List.getElem?_eq_getElem (by omega)
        obtain ⟨b', hb', hr⟩ := bg k _ hk3
        have e2 := setAll_at rd (l.take rd.length) h k i b' hnd hk (by rw [List.getElem?_take, if_pos hkl]; exact hb') hi
        rw [e1, e2] at hx; cases hx
        exact ⟨k, _, hk3, hr, by simp only [backT]; rw [if_pos hkl]; exact hk, .inl ⟨hkl, hk⟩⟩
      · left
        rw [e1, setAll_ne _ _ _ _ hm] at hx
        exact ⟨hi, hm, hx⟩
    · right
      have hiH : i < H.length := (List.getElem?_eq_some_iff.1 hx).1
      have e1 : H[i]? = l[rd.length + (i - h.length)]? := by
        simp only [H]; rw [List.getElem?_append_right (by rw [setAll_length]; omega), setAll_length, List.getElem?_drop]
      have hk3 : hs3[rd.length + (i - h.length)]? = some hs3[rd.length + (i - h.length)] := List.getElem?_eq_getElem (by omega)
      obtain ⟨b', hb', hr⟩ := bg _ _ hk3
      rw [e1, hb'] at hx; cases hx
      refine ⟨_, _, hk3, hr, ?_, .inr ⟨by omega, by omega⟩⟩
      simp only [backT]; rw [if_neg (by omega)]; simp only [Option.some.injEq]; omega
  have loc3 : ∀ (k : Nat) (c : Blk) (i : Nat) (x : Blk), hs3[k]? = some c → renB (backT rd h.length) c = some x → backT rd h.length k = some i → x ≠ .dead → ∃ q, ρ₃ k = some q ∧ ρ' i = some q ∧ BRel I' w' ρ' q x ∧ ¬ I' q.b ∧ c ≠ .dead := by
    intro k c i x hc hr hb hxd
    have hcd : c ≠ .dead := fun e => hxd ((renB_at hr).2.1.2 e)
    obtain ⟨q, h1, h2, h3⟩ := R₃.blk k c hc hcd
    exact ⟨q, h1, hback k i q hb h1, renB_sound hback hr h2, h3, hcd⟩
  have locO : ∀ (i : Nat) (x : Blk), i < h.length → i ∉ rd → h[i]? = some x → x ≠ .dead → ∃ q, ρ i = some q ∧ ρ' i = some q ∧ BRel I' w' ρ' q x ∧ ¬ I' q.b ∧ q.b < w.heap.size ∧ ¬ Own ρ₂ hs2 q.b := by
    intro i x hi hm hx hxd
    obtain ⟨q, h1, h2, h3⟩ := R.blk i x hx hxd
    obtain ⟨C, e, fz, m1, m2, m3, m4⟩ := h2.mem
    have hq : q.b < w.heap.size := by
      rcases Nat.lt_or_ge q.b w.heap.size with h0 | h0
      · exact h0
      · rw [Array.getElem?_eq_none h0] at m1; cases m1
    have hno : ¬ Own ρ₂ hs2 q.b := by
      intro ho
      obtain ⟨k, j, y, q2, a0, a1, a2, a3, a4⟩ := ownSub _ ho
      exact R.apart i j x y q q2 (fun e => hm (e ▸ List.mem_of_getElem? a0)) hx hxd a1 a2 h1 a3 a4.symm
    refine ⟨q, h1, hren i q h1, ⟨⟨C, e, fz, by rw [W₃.keep _ hq hno]; exact m1, m2, m3, fun o ho => ?_⟩, h2.fits⟩, ?_, hq, hno⟩
    · obtain ⟨c, hc, hr⟩ := m4 o ho
      exact ⟨c, hc, hr.le L⟩
    · intro hI
      rcases W₃.fresh _ hI with h0 | h0 | h0
      · exact h3 h0
      · exact hno h0
      · omega
  have own3 : ∀ (k : Nat) (c : Blk) (q : Loc), hs3[k]? = some c → c ≠ .dead → ρ₃ k = some q → Own ρ₂ hs2 q.b ∨ w.heap.size ≤ q.b := fun k c q hc hcd hq => W₃.own _ ⟨k, c, q, hc, hcd, hq, rfl⟩
  refine ⟨ρ', I', ⟨?_, ?_, ?_, ?_, R₃.lt⟩, ⟨hren, W₃.imm, W₃.os, W₃.tape, W₃.output, W₃.size, fun b hb hno => W₃.keep b hb (fun ho => hno (ownUp b ho)), ?_, ?_⟩, ?_⟩
  · intro i x hx hxd
    rcases case_of i x hx with ⟨hi, hm, hx'⟩ | ⟨k, c, hc, hr, hb, _⟩
    · obtain ⟨q, _, h2, h3, h4, _⟩ := locO i x hi hm hx' hxd
      exact ⟨q, h2, h3, h4⟩
    · obtain ⟨q, _, h2, h3, h4, _⟩ := loc3 k c i x hc hr hb hxd
      exact ⟨q, h2, h3, h4⟩
  · rintro i ⟨hF, hn⟩
    by_cases hi : i < h.length
    · simp only [ρ', hi, if_true]; exact R.free i hF
    · simp only [ρ']
      rw [if_neg hi]
      have : H.length ≤ i := by
        rcases Nat.lt_or_ge i H.length with h0 | h0
        · exact (hn ⟨by omega, h0⟩).elim
        · exact h0
      exact R₃.out _ (by omega)
  · intro i hi
    have hi : H.length ≤ i := hi
    simp only [ρ']
    rw [if_neg (by omega)]
    exact R₃.out _ (by omega)
  · intro i j x y li lj hij hx hxd hy hyd hli hlj
    rcases case_of i x hx with ⟨hi, hm, hx'⟩ | ⟨k, c, hc, hr, hb, hkk⟩
    · obtain ⟨q, h1, h2, _, _, h5, h6⟩ := locO i x hi hm hx' hxd
      rw [h2] at hli; cases hli
      rcases case_of j y hy with ⟨hj, hm2, hy'⟩ | ⟨k2, c2, hc2, hr2, hb2, _⟩
      · obtain ⟨q2, g1, g2, _⟩ := locO j y hj hm2 hy' hyd
        rw [g2] at hlj; cases hlj
        exact R.apart i j x y _ _ hij hx' hxd hy' hyd h1 g1
      · obtain ⟨q2, g1, g2, _, _, g5⟩ := loc3 k2 c2 j y hc2 hr2 hb2 hyd
        rw [g2] at hlj; cases hlj
        rcases own3 k2 c2 _ hc2 g5 g1 with h0 | h0
        · intro e; exact h6 (e ▸ h0)
        · intro e; omega
    · obtain ⟨q, h1, h2, _, _, h5⟩ := loc3 k c i x hc hr hb hxd
      rw [h2] at hli; cases hli
      rcases case_of j y hy with ⟨hj, hm2, hy'⟩ | ⟨k2, c2, hc2, hr2, hb2, hkk2⟩
      · obtain ⟨q2, g1, g2, _, _, g5, g6⟩ := locO j y hj hm2 hy' hyd
        rw [g2] at hlj; cases hlj
        rcases own3 k c _ hc h5 h1 with h0 | h0
        · intro e; exact g6 (e ▸ h0)
        · intro e; omega
      · obtain ⟨q2, g1, g2, _, _, g5⟩ := loc3 k2 c2 j y hc2 hr2 hb2 hyd
        rw [g2] at hlj; cases hlj
        refine R₃.apart k k2 c c2 _ _ (fun e => hij ?_) hc h5 hc2 g5 h1 g1
        subst e
        rw [hb] at hb2; cases hb2; rfl
  · rintro b ⟨i, x, q, hx, hxd, hq, rfl⟩
    rcases case_of i x hx with ⟨hi, hm, hx'⟩ | ⟨k, c, hc, hr, hb, _⟩
    · obtain ⟨q2, h1, h2, _⟩ := locO i x hi hm hx' hxd
      rw [h2] at hq; cases hq
      exact .inl ⟨i, x, q, hx', hxd, h1, rfl⟩
    · obtain ⟨q2, h1, h2, _, _, h5⟩ := loc3 k c i x hc hr hb hxd
      rw [h2] at hq; cases hq
      exact (own3 k c _ hc h5 h1).imp (ownUp _) id
  · intro b hb
    rcases W₃.fresh b hb with h0 | h0 | h0
    · exact .inl h0
    · exact .inr (.inl (ownUp b h0))
    · exact .inr (.inr h0)
  · cases fin2 with
    | ret v =>
      simp only [renFin] at hfin
      split at hfin <;> cases hfin
      rename_i u hu
      obtain ⟨v', e1, e2⟩ := hf
      exact ⟨v', e1, renV_sound hback e2 hu⟩
    | pan v =>
      simp only [renFin] at hfin
      split at hfin <;> cases hfin
      rename_i u hu
      obtain ⟨v', e1, e2⟩ := hf
      exact ⟨v', e1, renV_sound hback e2 hu⟩
end
end Go.Lh
end
section
namespace Go.Lh
mutual
theorem renV_back {τ σ : Nat → Option Nat} (hτ : ∀ i k, τ i = some k → σ k = some i) : ∀ {v u : V}, renV τ v = some u → renV σ u = some v
  | .any, u, h => by rw [renV] at h; cases h; rw [renV]
  | .u8 _, u, h => by rw [renV] at h; cases h; rw [renV]
  | .u16 _, u, h => by rw [renV] at h; cases h; rw [renV]
  | .u32 _, u, h => by rw [renV] at h; cases h; rw [renV]
  | .u64 _, u, h => by rw [renV] at h; cases h; rw [renV]
  | .int _ _, u, h => by rw [renV] at h; cases h; rw [renV]
  | .bool _, u, h => by rw [renV] at h; cases h; rw [renV]
  | .str _, u, h => by rw [renV] at h; cases h; rw [renV]
  | .ptr i o, u, h => by
    rw [renV] at h
    split at h <;> cases h
    rename_i k hk
    rw [renV, hτ _ _ hk]
  | .nilPtr, u, h => by rw [renV] at h; cases h; rw [renV]
  | .sl i o s len cap, u, h => by
    rw [renV] at h
    split at h <;> cases h
    rename_i k hk
    rw [renV, hτ _ _ hk]
  | .nilSl, u, h => by rw [renV] at h; cases h; rw [renV]
  | .isl _ _ _, u, h => by rw [renV] at h; cases h; rw [renV]
  | .iptr _ _ _ _ _, u, h => by rw [renV] at h; cases h; rw [renV]
  | .fn f a b, u, h => by
    rw [renV] at h
    split at h <;> cases h
    rename_i a' b' ha hb
    rw [renV, renVs_back hτ ha, renVs_back hτ hb]
  | .nilFn, u, h => by rw [renV] at h; cases h; rw [renV]
  | .agg cs, u, h => by
    rw [renV] at h
    split at h <;> cases h
    rename_i l hl
    rw [renV, renVs_back hτ hl]
  | .tup cs, u, h => by
    rw [renV] at h
    split at h <;> cases h
    rename_i l hl
    rw [renV, renVs_back hτ hl]
  | .iface t v, u, h => by
    rw [renV] at h
    split at h <;> cases h
    rename_i w hw
    rw [renV, renV_back hτ hw]
  | .nilIface, u, h => by rw [renV] at h; cases h; rw [renV]
theorem renVs_back {τ σ : Nat → Option Nat} (hτ : ∀ i k, τ i = some k → σ k = some i) : ∀ {v u : List V}, renVs τ v = some u → renVs σ u = some v
  | [], u, h => by rw [renVs] at h; cases h; rw [renVs]
  | v :: r, u, h => by
    rw [renVs] at h
    split at h <;> cases h
    rename_i a l ha hl
    rw [renVs, renV_back hτ ha, renVs_back hτ hl]
end
theorem renB_back {τ σ : Nat → Option Nat} (hτ : ∀ i k, τ i = some k → σ k = some i) {b c : Blk} (h : renB τ b = some c) : renB σ c = some b := by
  cases b <;> simp only [renB] at h
  case vals cs =>
    split at h <;> cases h
    rename_i l hl
    simp only [renB, renVs_back hτ hl]
  all_goals (cases h; rfl)
theorem subHeap_back {h : Heap} {τ σ : Nat → Option Nat} (hτ : ∀ i k, τ i = some k → σ k = some i) : ∀ {rd : List Nat} {hs : Heap}, subHeap h τ rd = some hs →
    ∃ l, renBs σ hs = some l ∧ l.length = rd.length ∧ hs.length = rd.length ∧ ∀ (k i : Nat), rd[k]? = some i → l[k]? = h[i]?
  | [], hs, e => by simp only [subHeap, Option.some.injEq] at e; subst e; exact ⟨[], rfl, rfl, rfl, by simp⟩
  | i :: r, hs, e => by
    simp only [subHeap] at e
    split at e <;> try simp only [reduceCtorEq] at e
    rename_i b l hb hl
    split at e <;> try simp only [reduceCtorEq] at e
    split at e <;> simp only [Option.some.injEq, reduceCtorEq] at e
    rename_i c hc
    subst e
    obtain ⟨m, m1, m2, m3, m4⟩ := subHeap_back hτ hl
    refine ⟨b :: m, by simp only [renBs, renB_back hτ hc, m1], by simp [m2], by simp [m3], ?_⟩
    intro k j hk
    cases k with
    | zero => simp at hk; subst hk; simp [hb]
    | succ k => simpa using m4 k j (by simpa using hk)
theorem setAll_self : ∀ (rd : List Nat) (l : List Blk) (h : Heap), l.length = rd.length → (∀ (k i : Nat), rd[k]? = some i → l[k]? = h[i]?) → setAll h rd l = h
  | [], l, h, _, _ => by simp [setAll]
  | _ :: _, [], h, _, _ => by simp [setAll]
  | i :: r, b :: s, h, hl, H => by
    have h0 := H 0 i rfl
    have e : h.set i b = h := by
      simp only [List.getElem?_cons_zero] at h0
      have hi : i < h.length := by
        rcases Nat.lt_or_ge i h.length with g | g
        · exact g
        · rw [List.getElem?_eq_none g] at h0; cases h0
      refine List.ext_getElem? fun j => ?_
      by_cases ej : i = j
      · subst ej; rw [List.getElem?_set_self hi, h0]
      · rw [List.getElem?_set_ne ej]
    simp only [setAll]
    rw [e]
    exact setAll_self r s h (by simpa using hl) fun k j hk => by simpa using H (k + 1) j (by simpa using hk)
theorem callO_ro {O : Oracle} {f : FuncId} (hO : ∀ args h r, O f args h = some r → r.2.2 = h) {args : List V} {h : Heap} {k : Bool} {fin : Fin} {h' : Heap} (e : callO O f args h = some (k, fin, h')) : h' = h := by
  unfold callO at e
  simp only at e
  split at e <;> try simp only [reduceCtorEq] at e
  rename_i args2 hs2 hra hsub
  split at e <;> try simp only [reduceCtorEq] at e
  rename_i k' fin2 hs3 hcall
  have e3 : hs3 = hs2 := hO _ _ _ hcall
  subst e3
  split at e <;> try simp only [reduceCtorEq] at e
  rename_i hle
  split at e <;> simp only [Option.some.injEq, Prod.mk.injEq, reduceCtorEq] at e
  rename_i fin' lb hfin hlb
  obtain ⟨_, _, rfl⟩ := e
  generalize reach h 100 (refsVs args) [] = rd at *
  obtain ⟨l, l1, l2, l3, l4⟩ := subHeap_back (σ := backT rd h.length) (fun i k hk => by
    have := posOf_get hk
    have hlt : k < rd.length := by
      rcases Nat.lt_or_ge k rd.length with g | g
      · exact g
      · rw [List.getElem?_eq_none g] at this; cases this
    unfold backT
    rw [if_pos hlt, this]) hsub
  have e5 : lb = l := by
    have := l1.symm.trans hlb
    cases this
    rfl
  rw [e5, ← l2, List.take_length, List.drop_length, List.append_nil]
  exact setAll_self rd l h l2 l4
end Go.Lh
end
section
namespace Go.Lh

structure Orc where
  fn : Oracle
  ext : FuncId → List V → Option (Bool × V)
  /-- how comparisons come out, where one says so: by the number of the first slot that is compared -/
  asm : List (Nat × Bool) := []
  /-- functions that leave the heap as it was -/
  ro : FuncId → Bool := fun _ => false
  roOk : ∀ f, ro f = true → ∀ args h r, fn f args h = some r → r.2.2 = h := by intro _ h; cases h

def lookN : List (Nat × Bool) → Nat → Option Bool
  | [], _ => none
  | (i, b) :: r, t => if Nat.beq i t then some b else lookN r t

def asmOf (l : List (Nat × Bool)) : Op → Option Bool
  | .binOp _ _ (.tmp a) _ _ => lookN l a
  | .binOp _ _ _ (.tmp b) _ => lookN l b
  | .move (.tmp a) => lookN l a
  | _ => none

def asmRes (a : Option Bool) (r : Option (Bool × V × Heap)) : Option (Bool × Fin × Heap) :=
  match a with
  | none => (match r with | some (k, v, h') => some (k, .ret v, h') | none => none)
  | some b => (match r with
    | some (k, .bool x, h') => some (k && (if b then x else !x), .ret (.bool b), h')
    | some (k, v, h') => some (k, .ret v, h')
    | none => none)

theorem asmRes_true {a : Option Bool} {r : Option (Bool × V × Heap)} {fin : Fin} {h' : Heap} (h : asmRes a r = some (true, fin, h')) : ∃ v, r = some (true, v, h') ∧ fin = .ret v := by
  cases a with
  | none =>
    simp only [asmRes] at h
    split at h <;> simp only [Option.some.injEq, Prod.mk.injEq, reduceCtorEq] at h
    obtain ⟨rfl, rfl, rfl⟩ := h
    exact ⟨_, rfl, rfl⟩
  | some b =>
    simp only [asmRes] at h
    split at h <;> simp only [Option.some.injEq, Prod.mk.injEq, Bool.and_eq_true, reduceCtorEq] at h
    · rename_i k x h2
      obtain ⟨⟨rfl, hx⟩, rfl, rfl⟩ := h
      refine ⟨_, rfl, ?_⟩
      cases b <;> simp at hx <;> subst hx <;> rfl
    · obtain ⟨rfl, rfl, rfl⟩ := h
      exact ⟨_, rfl, rfl⟩

theorem asmRes_some {a : Option Bool} {r : Option (Bool × V × Heap)} {k : Bool} {fin : Fin} {h' : Heap} (h : asmRes a r = some (k, fin, h')) :
    ∃ k' v, r = some (k', v, h') ∧ (∃ u, fin = .ret u) ∧ ∀ h2, asmRes a (some (k', v, h2)) = some (k, fin, h2) := by
  cases a with
  | none =>
    simp only [asmRes] at h
    split at h <;> simp only [Option.some.injEq, Prod.mk.injEq, reduceCtorEq] at h
    obtain ⟨rfl, rfl, rfl⟩ := h
    exact ⟨_, _, rfl, ⟨_, rfl⟩, fun _ => rfl⟩
  | some b =>
    simp only [asmRes] at h
    split at h <;> simp only [Option.some.injEq, Prod.mk.injEq, reduceCtorEq] at h
    · obtain ⟨rfl, rfl, rfl⟩ := h
      exact ⟨_, _, rfl, ⟨_, rfl⟩, fun _ => rfl⟩
    · rename_i k1 v1 h1 hne
      obtain ⟨rfl, rfl, rfl⟩ := h
      refine ⟨_, _, rfl, ⟨_, rfl⟩, fun h2 => ?_⟩
      cases v1 with
      | bool x => exact (hne x rfl).elim
      | _ => rfl

def Enters (P : Program) (f : FuncId) : Prop := ∃ fn, P.funcs[f]? = some fn ∧ fn.body.isNone = false ∧ (fn.name == "runtime.NumGoroutine") = false

structure OrcSound (P : Program) (O : Orc) : Prop where
  fn : ∀ f args h fin h', O.fn f args h = some (true, fin, h') → LFn P f args h fin h'
  enters : ∀ f args h r, O.fn f args h = some r → Enters P f
  ext : ∀ f args v, O.ext f args = some (true, v) → ∀ (I : Nat → Prop) (w : World) (ρ : Ren) (args' : List Value), VsRel I w ρ args args' →
    ∃ v', (callFunc f ⟨args'⟩).run P w = .ok (.value v') w ∧ VRel I w ρ v v'

def stepO (P : Program) (O : Orc) (idx : Nat) (g : Fm) (h : Heap) (op : Op) : Option (Bool × Fin × Heap) :=
  match op with
  | .call { callee := .value f, args, .. } => (match opnd g f, opnds g args.toList with
    | some (.fn fid first cap), some l => (match O.ext fid (first ++ l ++ cap) with
      | some (k, v) => some (k, .ret v, h)
      | none => callO O.fn fid (first ++ l ++ cap) h)
    | _, _ => none)
  | .panic x => (match opnd g x with
    | some (.iface t v) => some (true, .pan (.iface t v), h)
    | _ => none)
  | op => asmRes (asmOf O.asm op) (stepN P idx g h op)

theorem FRel.put {I : Nat → Prop} {w : World} {ρ : Ren} {g : Fm} {a : Act} (F : FRel I w ρ g a) {dst : Option Tmp} {v : V} {v' : Value} (hv : VRel I w ρ v v') (hd : ∀ d, dst = some d → d < a.tmps.size) : FRel I w ρ (g.put dst v) (a.put dst v') := by
  intro t u hu
  cases dst with
  | none => exact F t u hu
  | some d =>
    simp only [Fm.put] at hu
    have hlt := hd d rfl
    simp only [Act.put]
    split at hu
    · rename_i e; subst e; cases hu
      have : (a.tmps.setIfInBounds t v').getD t undef = v' := by simp [Array.getD, hlt]
      rw [this]; exact hv
    · rename_i e
      have : (a.tmps.setIfInBounds d v').getD t undef = a.tmps.getD t undef := by
        simp [Array.getElem?_setIfInBounds_ne (Ne.symm e)]
      rw [this]; exact F t u hu

theorem FRel.le {I I' : Nat → Prop} {w w' : World} {ρ ρ' : Ren} {g : Fm} {a : Act} (F : FRel I w ρ g a) (L : Le ρ I w ρ' I' w') : FRel I' w' ρ' g a := fun t v h => (F t v h).le L

theorem put_size (a : Act) (dst : Option Tmp) (v : Value) : (a.put dst v).tmps.size = a.tmps.size := by
  cases dst <;> simp [Act.put]
theorem put_defers (a : Act) (dst : Option Tmp) (v : Value) : (a.put dst v).defers = a.defers := by
  cases dst <;> rfl

/-- which numbers are free behind an operation -/
def Left (F : Nat → Prop) (idx : Nat) (h h' : Heap) : Nat → Prop := fun i => F i ∧ i ≠ idx ∧ ¬ (h.length ≤ i ∧ i < h'.length)

section
variable {P : Program} {w : World} {I : Nat → Prop} {ρ : Ren} {h : Heap} {F : Nat → Prop} {idx : Nat} {a : Act} {o : Oper} {g : Fm} {O : Orc}

theorem callFunc_enter {f : FuncId} (hE : Enters P f) (args : Array Value) : (callFunc f args).run P w = .ok (.enter f args) w := by
  obtain ⟨fn, h1, h2, h3⟩ := hE
  simp only [callFunc, Sem.run_bind, run_program, Result.andThen_ok, h1, h3, Bool.false_eq_true, if_false, h2, Sem.run_pure]

theorem stepO_wp (hO : OrcSound P O) (R : Rel ρ I w h F) (FR : FRel I w ρ g a) (hmk : Op.makes P o.op = true → F idx ∧ h[idx]? = some .dead) {fin : Fin} {h' : Heap}
    (hs : stepO P O idx g h o.op = some (true, fin, h')) (next : Act → World → Prop) (Q : Exit → Act → World → Prop)
    (hret : ∀ v, fin = .ret v → ∀ w' ρ' I' v', VRel I' w' ρ' v v' → Rel ρ' I' w' h' (Left F idx h h') → Went ρ I w h ρ' I' w' h' → next (a.put o.dst v') w')
    (hpan : ∀ v, fin = .pan v → ∀ w' ρ' I' v', VRel I' w' ρ' v v' → Rel ρ' I' w' h' (Left F idx h h') → Went ρ I w h ρ' I' w' h' → Q (.panic [{ v := v', recovered := false }]) a w') :
    o.wp P a w next Q := by
  have quiet : ∀ {v : V} {h'' : Heap}, stepN P idx g h o.op = some (true, v, h'') → fin = .ret v → h'' = h' → o.wp P a w next Q := by
    intro v h'' hN hf hh
    subst hf; subst hh
    obtain ⟨nx, w', ρ', I', v', e1, e2, e3, e4, e5⟩ := (stepN_sound R FR hmk hN).run
    have := hret v rfl w' ρ' I' v' e3 (e4.weaken (fun i hi => ⟨hi.1, hi.2.1⟩)) e5
    unfold Oper.wp
    rw [e1]
    rcases e2 with rfl | ⟨rfl, rfl⟩
    · exact this
    · exact this
  unfold stepO at hs
  split at hs
  · rename_i f args ty ho
    split at hs <;> try simp only [reduceCtorEq] at hs
    rename_i fid first cap l hf hl
    have hfr := opnd_sound FR hf
    have hlr := opnds_sound FR hl
    obtain ⟨first', cap', hfe, hr1, hr2⟩ : ∃ first' cap', a.eval f = .func (.func fid) ⟨first'⟩ ⟨cap'⟩ ∧ VsRel I w ρ first first' ∧ VsRel I w ρ cap cap' := by
      cases hv : a.eval f <;> rw [hv] at hfr <;> cases hfr
      exact ⟨_, _, rfl, ‹_›, ‹_›⟩
    have hargs : VsRel I w ρ (first ++ l ++ cap) (first' ++ args.toList.map a.eval ++ cap') := VsRel.append hr2 (VsRel.append hlr hr1)
    have hrun : (execOp a.eval o).run P w = (callFunc fid ⟨first' ++ args.toList.map a.eval ++ cap'⟩).run P w := by
      simp only [execOp, ho, resolve, hfe, Deferred.ofValue, Sem.run_bind, Sem.run_pure, Result.andThen_ok, invoke]
      congr 2
      apply Array.ext'; simp
    split at hs
    · rename_i k v hx
      simp at hs
      obtain ⟨rfl, rfl, rfl⟩ := hs
      obtain ⟨v', e1, e2⟩ := hO.ext _ _ _ hx I w ρ _ hargs
      unfold Oper.wp
      rw [hrun, e1]
      exact hret v rfl w ρ I v' e2 (R.weaken (fun i hi => hi.1)) (.refl _ _ _ _)
    · have hen : Enters P fid := by
        unfold callO at hs
        simp only at hs
        split at hs <;> try simp only [reduceCtorEq] at hs
        split at hs <;> try simp only [reduceCtorEq] at hs
        rename_i hc
        exact hO.enters _ _ _ _ hc
      unfold Oper.wp
      rw [hrun, callFunc_enter hen]
      rw [Oper.upon_enter]
      refine (callO_sound (F := F) hO.fn R hargs hs).mono ?_
      rintro e w' ⟨ρ', I', r1, r2, r3⟩
      cases fin with
      | ret v =>
        obtain ⟨v', rfl, hv⟩ := r3
        exact hret v rfl w' ρ' I' v' hv (r1.weaken (fun i hi => ⟨hi.1, hi.2.2⟩)) r2
      | pan v =>
        obtain ⟨v', rfl, hv⟩ := r3
        exact hpan v rfl w' ρ' I' v' hv (r1.weaken (fun i hi => ⟨hi.1, hi.2.2⟩)) r2
  · rename_i x ho
    split at hs <;> simp at hs
    rename_i t v hx
    obtain ⟨rfl, rfl⟩ := hs
    have hr := opnd_sound FR hx
    cases hv : a.eval x <;> rw [hv] at hr <;> cases hr
    rename_i v1 hv1
    unfold Oper.wp
    have : (execOp a.eval o).run P w = .halt (.panic (.iface t v1)) w := by
      simp only [execOp, ho, hv, Instr.panic, Sem.run_bind]
      simp
    rw [this]
    exact hpan _ rfl w ρ I _ (.iface _ _ _ _ hv1) (R.weaken (fun i hi => hi.1)) (.refl _ _ _ _)
  · obtain ⟨v, hN, rfl⟩ := asmRes_true hs
    exact quiet hN rfl rfl
end
end Go.Lh
end
section
namespace Go.Lh

def refsOf : V → List Nat
  | .ptr i _ => [i]
  | .sl i _ _ _ _ => [i]
  | _ => []

/-- blocks that an operation looks at, blocks that it writes -/
def touchN (P : Program) (idx : Nat) (g : Fm) (op : Op) : Option (List Nat × List Nat) :=
  match stepT P g op with
  | some _ => some ([], [])
  | none => (match op with
    | .alloc _ => some ([], [idx])
    | .box _ _ => some ([], [idx])
    | .makeSlice _ _ _ => some ([], [idx])
    | .buildSlice _ _ _ => some ([], [idx])
    | .load _ a => (match opnd g a with | some v => some (refsOf v, []) | none => none)
    | .store _ a _ => (match opnd g a with | some v => some (refsOf v, refsOf v) | none => none)
    | .slice _ x _ _ _ => (match opnd g x with | some v => some (refsOf v, []) | none => none)
    | .convert _ _ x => (match opnd g x with | some (.str _) => some ([], [idx]) | some v => some (refsOf v, []) | none => none)
    | .call { callee := .builtin .append, args, .. } => (match opnds g args.toList with
      | some [x, y] => some (refsOf x ++ refsOf y, idx :: refsOf x)
      | _ => none)
    | .call { callee := .builtin .copy, args, .. } => (match opnds g args.toList with
      | some [x, y] => some (refsOf x ++ refsOf y, refsOf x)
      | _ => none)
    | _ => none)

def SameAt (l : List Nat) (h h2 : Heap) : Prop := ∀ i ∈ l, h2[i]? = h[i]?

def appU (h : Heap) : List (Nat × Blk) → Heap
  | [] => h
  | p :: r => appU (h.set p.1 p.2) r

theorem SameAt.left {l m : List Nat} {h h2 : Heap} (H : SameAt (l ++ m) h h2) : SameAt l h h2 := fun i hi => H i (by simp [hi])
theorem SameAt.right {l m : List Nat} {h h2 : Heap} (H : SameAt (l ++ m) h h2) : SameAt m h h2 := fun i hi => H i (by simp [hi])

section
variable {P : Program} {idx : Nat} {g : Fm} {h : Heap}

theorem srcB_same {s : Nat} {x : V} {h2 : Heap} (H : SameAt (refsOf x) h h2) : srcB h2 s x = srcB h s x := by
  cases x <;> try rfl
  rename_i i o s' len cap
  simp only [srcB]
  rw [H i (by simp [refsOf])]

theorem appH_loc {e : TypeId} {s n : Nat} {x : V} {c : Blk} {k : Bool} {v : V} {h' : Heap} (hs : appH P idx h e s x n c = some (k, v, h')) :
    ∃ U : List (Nat × Blk), (∀ p ∈ U, p.1 ∈ idx :: refsOf x) ∧ ∀ h2 : Heap, SameAt (refsOf x) h h2 → appH P idx h2 e s x n c = some (k, v, appU h2 U) := by
  cases x <;> simp only [appH, reduceCtorEq] at hs
  case nilSl =>
    split at hs
    · rename_i hn
      simp only [Option.some.injEq, Prod.mk.injEq] at hs
      obtain ⟨rfl, rfl, rfl⟩ := hs
      exact ⟨[], by simp, fun h2 _ => by simp [appH, hn, appU]⟩
    · rename_i hn
      simp only [Option.some.injEq, Prod.mk.injEq] at hs
      obtain ⟨rfl, rfl, rfl⟩ := hs
      exact ⟨[(idx, c)], by simp, fun h2 _ => by simp [appH, hn, appU]⟩
  case sl i o s' len cap =>
    split at hs <;> try simp only [reduceCtorEq] at hs
    rename_i hss
    split at hs <;> try simp only [reduceCtorEq] at hs
    rename_i b hb
    split at hs <;> try simp only [reduceCtorEq] at hs
    rename_i hd
    have key : ∀ h2 : Heap, SameAt (refsOf (.sl i o s' len cap)) h h2 → h2[i]? = some b := fun h2 H => by rw [H i (by simp [refsOf]), hb]
    cases cap with
    | some m =>
      simp only at hs
      split at hs
      · rename_i hle
        split at hs <;> simp only [Option.some.injEq, Prod.mk.injEq, reduceCtorEq] at hs
        rename_i b' hb'
        obtain ⟨rfl, rfl, rfl⟩ := hs
        exact ⟨[(i, b')], by simp [refsOf], fun h2 H => by simp [appH, hss, key h2 H, hd, hle, hb', appU]⟩
      · rename_i hle
        split at hs <;> simp only [Option.some.injEq, Prod.mk.injEq, reduceCtorEq] at hs
        rename_i b' hb'
        obtain ⟨rfl, rfl, rfl⟩ := hs
        exact ⟨[(idx, b')], by simp, fun h2 H => by simp [appH, hss, key h2 H, hd, hle, hb', appU] <;> simp [← hss, hb']⟩
    | none =>
      simp only at hs
      split at hs <;> simp only [Option.some.injEq, Prod.mk.injEq, reduceCtorEq] at hs
      rename_i b' hb'
      obtain ⟨rfl, rfl, rfl⟩ := hs
      exact ⟨[(i, .dead), (idx, b')], by simp [refsOf], fun h2 H => by simp [appH, hss, key h2 H, hd, hb', appU] <;> simp [← hss, hb']⟩

/-- an operation without a call: what it writes, wherever it looks at the same -/
theorem stepN_loc {op : Op} {k : Bool} {v : V} {h' : Heap} {R W : List Nat} (hs : stepN P idx g h op = some (k, v, h')) (ht : touchN P idx g op = some (R, W)) :
    ∃ U : List (Nat × Blk), (∀ p ∈ U, p.1 ∈ W) ∧ ∀ h2 : Heap, SameAt R h h2 → stepN P idx g h2 op = some (k, v, appU h2 U) := by
  unfold stepN touchN at *
  cases hT : stepT P g op with
  | some q =>
    obtain ⟨k', v'⟩ := q
    simp only [hT, Option.some.injEq, Prod.mk.injEq] at hs ht ⊢
    obtain ⟨rfl, rfl, rfl⟩ := hs
    exact ⟨[], by simp, fun h2 _ => ⟨rfl, rfl, rfl⟩⟩
  | none =>
    simp only [hT] at hs ht ⊢
    cases op <;> try (simp only [stepH, reduceCtorEq] at hs; done)
    case alloc e =>
      simp only [Option.some.injEq, Prod.mk.injEq] at ht; obtain ⟨rfl, rfl⟩ := ht
      simp only [stepH] at hs ⊢
      split at hs <;> simp only [Option.some.injEq, Prod.mk.injEq, reduceCtorEq] at hs
      rename_i b hb
      obtain ⟨rfl, rfl, rfl⟩ := hs
      exact ⟨[(idx, b)], by simp, fun h2 _ => by simp [appU]⟩
    case box e x =>
      simp only [Option.some.injEq, Prod.mk.injEq] at ht; obtain ⟨rfl, rfl⟩ := ht
      simp only [stepH] at hs ⊢
      split at hs <;> simp only [Option.some.injEq, Prod.mk.injEq, reduceCtorEq] at hs
      rename_i v0 hna hx
      obtain ⟨rfl, rfl, rfl⟩ := hs
      exact ⟨[(idx, mkBlk v0.cells)], by simp, fun h2 _ => by simp [appU]⟩
    case load t x =>
      cases hx : opnd g x with
      | none => simp [hx] at ht
      | some y =>
        simp only [hx, Option.some.injEq, Prod.mk.injEq] at ht; obtain ⟨rfl, rfl⟩ := ht
        refine ⟨[], by simp, fun h2 H => ?_⟩
        have e : stepH P idx g h2 (.load t x) = match stepH P idx g h (.load t x) with | some (k, v, _) => some (k, v, h2) | none => none := by
          simp only [stepH, hx]
          cases y <;> cases isAggT P t with
            | none => cases sizeT P t <;> rfl
            | some ag => cases ag <;> cases sizeT P t <;> first | rfl | (simp only [H _ (List.mem_singleton.2 rfl)]; split <;> first | rfl | (split <;> rfl))
        rw [e, hs]; rfl
    case store t x y =>
      cases hx : opnd g x with
      | none => simp [hx] at ht
      | some z =>
        simp only [hx, Option.some.injEq, Prod.mk.injEq] at ht; obtain ⟨rfl, rfl⟩ := ht
        simp only [stepH, hx] at hs ⊢
        split at hs <;> try simp only [reduceCtorEq] at hs
        rename_i i q v0 n hna hx' hy hsz
        cases hx'
        split at hs <;> try simp only [reduceCtorEq] at hs
        rename_i hn
        split at hs <;> try simp only [reduceCtorEq] at hs
        rename_i b hb
        split at hs <;> try simp only [reduceCtorEq] at hs
        rename_i hdead
        split at hs <;> simp only [Option.some.injEq, Prod.mk.injEq, reduceCtorEq] at hs
        rename_i b' hb'
        obtain ⟨rfl, rfl, rfl⟩ := hs
        refine ⟨[(i, b')], by simp [refsOf], fun h2 H => ?_⟩
        have : h2[i]? = some b := by rw [H i (by simp [refsOf]), hb]
        simp [hy, hsz, hn, this, hdead, hb', appU]
    case slice t x lo hi mx =>
      cases mx with
      | some _ => simp [stepH] at hs
      | none =>
        cases hx : opnd g x with
        | none => simp [hx] at ht
        | some z =>
          simp only [hx, Option.some.injEq, Prod.mk.injEq] at ht; obtain ⟨rfl, rfl⟩ := ht
          simp only [stepH, hx] at hs ⊢
          split at hs <;> try simp only [reduceCtorEq] at hs
          rename_i n e i q hu hx'
          cases hx'
          split at hs <;> try simp only [reduceCtorEq] at hs
          rename_i s b l u hsz hb hlo hhi
          split at hs <;> simp only [Option.some.injEq, Prod.mk.injEq, reduceCtorEq] at hs
          rename_i hdead
          obtain ⟨rfl, rfl, rfl⟩ := hs
          refine ⟨[], by simp, fun h2 H => ?_⟩
          have : h2[i]? = some b := by rw [H i (by simp [refsOf]), hb]
          simp [hu, hsz, this, hlo, hhi, hdead, appU]
    case buildSlice t len parts =>
      simp only [Option.some.injEq, Prod.mk.injEq] at ht; obtain ⟨rfl, rfl⟩ := ht
      simp only [stepH] at hs ⊢
      split at hs <;> try simp only [reduceCtorEq] at hs
      rename_i e ps hu hps
      split at hs <;> try simp only [reduceCtorEq] at hs
      rename_i s z hsz hz
      split at hs <;> simp only [Option.some.injEq, Prod.mk.injEq, reduceCtorEq] at hs
      rename_i cs hcs
      obtain ⟨rfl, rfl, rfl⟩ := hs
      exact ⟨[(idx, mkBlk cs)], by simp, fun h2 _ => by simp [hu, hps, hsz, hz, hcs, appU]⟩
    case makeSlice t x y =>
      simp only [Option.some.injEq, Prod.mk.injEq] at ht; obtain ⟨rfl, rfl⟩ := ht
      simp only [stepH] at hs ⊢
      split at hs <;> try simp only [reduceCtorEq] at hs
      rename_i e lv cv hu hx hy
      split at hs <;> try simp only [reduceCtorEq] at hs
      rename_i l c s hl hc hsz
      split at hs <;> simp only [Option.some.injEq, Prod.mk.injEq, reduceCtorEq] at hs
      rename_i b hb
      obtain ⟨rfl, rfl, rfl⟩ := hs
      exact ⟨[(idx, b)], by simp, fun h2 _ => by simp [hu, hx, hy, hl, hc, hsz, hb, appU]⟩
    case convert src dst x =>
      cases hx : opnd g x with
      | none => simp [hx] at ht
      | some z =>
        simp only [stepH, hx] at hs ⊢
        split at hs <;> try simp only [reduceCtorEq] at hs
        · rename_i e s hsrc hdst hx'
          cases hx'
          simp only [hx, Option.some.injEq, Prod.mk.injEq] at ht; obtain ⟨rfl, rfl⟩ := ht
          split at hs <;> simp only [Option.some.injEq, Prod.mk.injEq, reduceCtorEq] at hs
          rename_i he
          obtain ⟨rfl, rfl, rfl⟩ := hs
          exact ⟨[(idx, .b8 s)], by simp, fun h2 _ => by simp [hsrc, hdst, he, appU]⟩
        · rename_i e i q s len cap hsrc hdst hx'
          cases hx'
          simp only [hx, Option.some.injEq, Prod.mk.injEq] at ht; obtain ⟨rfl, rfl⟩ := ht
          split at hs <;> try simp only [reduceCtorEq] at hs
          rename_i xs he hb
          split at hs <;> simp only [Option.some.injEq, Prod.mk.injEq, reduceCtorEq] at hs
          rename_i hs1
          obtain ⟨rfl, rfl, rfl⟩ := hs
          refine ⟨[], by simp, fun h2 H => ?_⟩
          have : h2[i]? = some (.b8 xs) := by rw [H i (by simp [refsOf]), hb]
          simp [hsrc, hdst, he, this, hs1, appU]
        · rename_i e hsrc hdst hx'
          cases hx'
          simp only [hx, Option.some.injEq, Prod.mk.injEq] at ht; obtain ⟨rfl, rfl⟩ := ht
          split at hs <;> simp only [Option.some.injEq, Prod.mk.injEq, reduceCtorEq] at hs
          rename_i he
          obtain ⟨rfl, rfl, rfl⟩ := hs
          exact ⟨[], by simp, fun h2 _ => by simp [hsrc, hdst, he, appU]⟩
    case call c =>
      obtain ⟨cal, args, ts⟩ := c
      cases cal with
      | value _ => simp [stepH] at hs
      | invoke _ _ => simp [stepH] at hs
      | builtin b =>
        cases b <;> try (simp only [stepH, reduceCtorEq] at hs; done)
        case append =>
          simp only at ht
          split at ht <;> simp only [Option.some.injEq, Prod.mk.injEq, reduceCtorEq] at ht
          rename_i x y hargs
          obtain ⟨rfl, rfl⟩ := ht
          simp only [stepH, hargs] at hs ⊢
          split at hs <;> try simp only [reduceCtorEq] at hs
          rename_i t t' tr x' y' hts hxy
          simp only [Option.some.injEq, List.cons.injEq, and_true] at hxy
          obtain ⟨rfl, rfl⟩ := hxy
          split at hs <;> try simp only [reduceCtorEq] at hs
          rename_i e hu
          split at hs <;> try simp only [reduceCtorEq] at hs
          · rename_i s kk hsz hut'
            split at hs <;> try simp only [reduceCtorEq] at hs
            rename_i n hn
            split at hs <;> try simp only [reduceCtorEq] at hs
            rename_i c hc
            split at hs <;> simp only [Option.some.injEq, Prod.mk.injEq, reduceCtorEq] at hs
            rename_i k' r hap
            obtain ⟨rfl, hr⟩ := hs
            subst hr
            obtain ⟨U, u1, u2⟩ := appH_loc hap
            exact ⟨U, u1, fun h2 H => by simp [hu, hsz, hut', hn, hc, u2 h2 H.left]⟩
          · rename_i s d hnint hsz hut'
            split at hs <;> try simp only [reduceCtorEq] at hs
            rename_i k' n c hsrc
            split at hs <;> simp only [Option.some.injEq, Prod.mk.injEq, reduceCtorEq] at hs
            rename_i k2 r hap
            obtain ⟨rfl, hr⟩ := hs
            subst hr
            obtain ⟨U, u1, u2⟩ := appH_loc hap
            refine ⟨U, u1, fun h2 H => ?_⟩
            rw [srcB_same H.right, hsrc]
            simp [u2 h2 H.left]
        case copy =>
          simp only at ht
          split at ht <;> simp only [Option.some.injEq, Prod.mk.injEq, reduceCtorEq] at ht
          rename_i x y hargs
          obtain ⟨rfl, rfl⟩ := ht
          simp only [stepH, hargs] at hs ⊢
          split at hs <;> try simp only [reduceCtorEq] at hs
          rename_i t tr i q s len cap y' hts hxy
          simp only [Option.some.injEq, List.cons.injEq, and_true] at hxy
          obtain ⟨rfl, rfl⟩ := hxy
          split at hs <;> try simp only [reduceCtorEq] at hs
          rename_i e hu
          split at hs <;> try simp only [reduceCtorEq] at hs
          rename_i hsz
          split at hs <;> try simp only [reduceCtorEq] at hs
          rename_i k n c b hsrc hb
          split at hs <;> try simp only [reduceCtorEq] at hs
          rename_i hd
          split at hs <;> simp only [Option.some.injEq, Prod.mk.injEq, reduceCtorEq] at hs
          rename_i b' hb'
          obtain ⟨rfl, rfl, rfl⟩ := hs
          refine ⟨[(i, b')], by simp [refsOf], fun h2 H => ?_⟩
          have h1 : h2[i]? = some b := by rw [H.left i (by simp [refsOf]), hb]
          rw [srcB_same H.right, hsrc, h1]
          simp [hsz, hd, hb', appU]
end
end Go.Lh
end
section
namespace Go.Lh

/-- what is read, what is written, and whether it is a call (so that it may make blocks) -/
def touchO (P : Program) (O : Orc) (idx : Nat) (g : Fm) (h : Heap) (op : Op) : Option (List Nat × List Nat × Bool) :=
  match op with
  | .call { callee := .value f, args, .. } => (match opnd g f, opnds g args.toList with
    | some (.fn fid first cap), some l => (match O.ext fid (first ++ l ++ cap) with
      | some _ => some ([], [], false)
      | none => some (reach h 100 (refsVs (first ++ l ++ cap)) [], if O.ro fid then [] else reach h 100 (refsVs (first ++ l ++ cap)) [], true))
    | _, _ => none)
  | .panic _ => none
  | op => (match touchN P idx g op with
    | some (R, W) => some (R, W, false)
    | none => none)

theorem reach_acc (h : Heap) : ∀ (fuel : Nat) (todo acc : List Nat), ∀ i ∈ acc, i ∈ reach h fuel todo acc
  | 0, _, _, i, hi => by simpa [reach] using hi
  | _ + 1, [], _, i, hi => by simpa [reach] using hi
  | fuel + 1, j :: todo, acc, i, hi => by
    simp only [reach]
    split
    · exact reach_acc h fuel _ _ i hi
    · split
      · exact reach_acc h fuel _ _ i (by simp [hi])
      · exact reach_acc h fuel _ _ i hi

theorem reach_same {h h2 : Heap} (hl : h2.length = h.length) : ∀ (fuel : Nat) (todo acc : List Nat), SameAt (reach h fuel todo acc) h h2 → reach h2 fuel todo acc = reach h fuel todo acc
  | 0, _, _, _ => rfl
  | _ + 1, [], _, _ => rfl
  | fuel + 1, i :: todo, acc, H => by
    simp only [reach] at H ⊢
    split
    · rename_i hm
      rw [if_pos hm] at H
      exact reach_same hl fuel _ _ H
    · rename_i hm
      rw [if_neg hm] at H
      cases hb : h[i]? with
      | some b =>
        rw [hb] at H
        simp only at H
        have : h2[i]? = some b := by rw [H i (reach_acc h fuel _ _ i (by simp)), hb]
        rw [this]
        exact reach_same hl fuel _ _ H
      | none =>
        rw [hb] at H
        have : h2[i]? = none := by
          rw [List.getElem?_eq_none_iff] at hb ⊢; omega
        rw [this]
        exact reach_same hl fuel _ _ H

theorem subHeap_same {h h2 : Heap} {τ : Nat → Option Nat} : ∀ {rd : List Nat}, SameAt rd h h2 → subHeap h2 τ rd = subHeap h τ rd
  | [], _ => rfl
  | i :: r, H => by
    simp only [subHeap]
    rw [H i (by simp), subHeap_same (rd := r) (fun j hj => H j (by simp [hj]))]

theorem setAll_appU : ∀ (rd : List Nat) (bs : List Blk) (h : Heap), setAll h rd bs = appU h (rd.zip bs)
  | [], _, h => by simp [setAll, appU]
  | _ :: _, [], h => by simp [setAll, appU]
  | i :: r, b :: s, h => by simp [setAll, appU, setAll_appU r s]

section
variable {P : Program} {O : Orc} {idx : Nat} {g : Fm} {h : Heap}

theorem stepO_loc {op : Op} {k : Bool} {fin : Fin} {h' : Heap} {R W : List Nat} {c : Bool} (hs : stepO P O idx g h op = some (k, fin, h')) (ht : touchO P O idx g h op = some (R, W, c)) :
    ∃ (U : List (Nat × Blk)) (N : Heap), (∀ p ∈ U, p.1 ∈ W) ∧ (c = false → N = []) ∧
      ∀ h2 : Heap, SameAt R h h2 → (c = true → h2.length = h.length) → stepO P O idx g h2 op = some (k, fin, appU h2 U ++ N) ∧ touchO P O idx g h2 op = some (R, W, c) := by
  have plain : (∀ h2, stepO P O idx g h2 op = asmRes (asmOf O.asm op) (stepN P idx g h2 op)) →
      (∀ h2, touchO P O idx g h2 op = match touchN P idx g op with | some (R, W) => some (R, W, false) | none => none) →
      ∃ (U : List (Nat × Blk)) (N : Heap), (∀ p ∈ U, p.1 ∈ W) ∧ (c = false → N = []) ∧
      ∀ h2 : Heap, SameAt R h h2 → (c = true → h2.length = h.length) → stepO P O idx g h2 op = some (k, fin, appU h2 U ++ N) ∧ touchO P O idx g h2 op = some (R, W, c) := by
    intro e1 e2
    rw [e1 h] at hs
    rw [e2 h] at ht
    cases hN : stepN P idx g h op with
    | none => obtain ⟨_, _, e, _⟩ := asmRes_some hs; rw [hN] at e; cases e
    | some r =>
      obtain ⟨k', v, h'', hfin, hall⟩ := asmRes_some hs
      rw [hN] at h''
      cases h''
      cases hT : touchN P idx g op with
      | none => simp [hT] at ht
      | some t =>
        obtain ⟨R', W'⟩ := t
        simp only [hT, Option.some.injEq, Prod.mk.injEq] at ht
        obtain ⟨rfl, rfl, rfl⟩ := ht
        obtain ⟨U, u1, u2⟩ := stepN_loc hN hT
        refine ⟨U, [], u1, fun _ => rfl, fun h2 H _ => ⟨?_, ?_⟩⟩
        · rw [e1 h2, u2 h2 H, hall]; simp
        · rw [e2 h2, hT]
  cases op with
  | call cl =>
    obtain ⟨cal, args, ts⟩ := cl
    cases cal with
    | value f =>
      simp only [stepO, touchO] at hs ht ⊢
      cases hf : opnd g f with
      | none => simp [hf] at hs
      | some fv =>
        cases hl : opnds g args.toList with
        | none => cases fv <;> simp [hf, hl] at hs
        | some l =>
          cases fv <;> simp only [hf, hl, reduceCtorEq] at hs ht ⊢
          rename_i fid first cap
          cases hx : O.ext fid (first ++ l ++ cap) with
          | some r =>
            obtain ⟨k', v⟩ := r
            simp only [hx, Option.some.injEq, Prod.mk.injEq] at hs ht ⊢
            obtain ⟨rfl, rfl, rfl⟩ := hs
            obtain ⟨rfl, rfl, rfl⟩ := ht
            exact ⟨[], [], by simp, fun _ => rfl, fun h2 _ _ => by simp [appU]⟩
          | none =>
            simp only [hx, Option.some.injEq, Prod.mk.injEq] at hs ht ⊢
            obtain ⟨rfl, rfl, rfl⟩ := ht
            cases hro : O.ro fid with
            | true =>
              rw [if_pos rfl]
              refine ⟨[], [], by simp, fun _ => rfl, fun h2 H hlen => ?_⟩
              have hl2 := hlen (by first | rfl | trivial)
              have hr2 : reach h2 100 (refsVs (first ++ l ++ cap)) [] = reach h 100 (refsVs (first ++ l ++ cap)) [] := reach_same hl2 100 _ _ H
              refine ⟨?_, hr2, if_pos rfl, rfl⟩
              have e0 := callO_ro (fun args h r => O.roOk fid hro args h r) hs
              subst e0
              generalize hrd : reach h' 100 (refsVs (first ++ l ++ cap)) [] = rd at *
              have e1 : (callO O.fn fid (first ++ l ++ cap) h2).map (fun r => (r.1, r.2.1)) = some (k, fin) := by
                unfold callO at hs
                simp only [hrd] at hs
                split at hs <;> try simp only [reduceCtorEq] at hs
                rename_i args2 hs2 hra hsub
                split at hs <;> try simp only [reduceCtorEq] at hs
                rename_i k' fin2 hs3 hcall
                split at hs <;> try simp only [reduceCtorEq] at hs
                rename_i hle
                split at hs <;> simp only [Option.some.injEq, Prod.mk.injEq, reduceCtorEq] at hs
                rename_i fin' lb hfin hlb
                obtain ⟨rfl, rfl, _⟩ := hs
                unfold callO
                simp only [hr2, hra, subHeap_same H, hsub, hcall, hle, if_true, hl2, hfin, hlb, Option.map_some]
              cases hx2 : callO O.fn fid (first ++ l ++ cap) h2 with
              | none => rw [hx2] at e1; cases e1
              | some r =>
                obtain ⟨k2, fin2, x⟩ := r
                rw [hx2] at e1
                simp only [Option.map_some, Option.some.injEq, Prod.mk.injEq] at e1
                obtain ⟨rfl, rfl⟩ := e1
                have e2 := callO_ro (fun args h r => O.roOk fid hro args h r) hx2
                rw [e2]
                simp [appU]
            | false =>
            rw [if_neg Bool.false_ne_true]
            generalize hrd : reach h 100 (refsVs (first ++ l ++ cap)) [] = rd at *
            have hs0 := hs
            unfold callO at hs
            simp only [hrd] at hs
            split at hs <;> try simp only [reduceCtorEq] at hs
            rename_i args2 hs2 hra hsub
            split at hs <;> try simp only [reduceCtorEq] at hs
            rename_i k' fin2 hs3 hcall
            split at hs <;> try simp only [reduceCtorEq] at hs
            rename_i hle
            split at hs <;> simp only [Option.some.injEq, Prod.mk.injEq, reduceCtorEq] at hs
            rename_i fin' lb hfin hlb
            obtain ⟨rfl, rfl, rfl⟩ := hs
            refine ⟨rd.zip (lb.take rd.length), lb.drop rd.length, fun p hp => (List.of_mem_zip hp).1, by simp, fun h2 H hlen => ?_⟩
            have hl2 := hlen rfl
            have hr2 : reach h2 100 (refsVs (first ++ l ++ cap)) [] = rd := by rw [reach_same hl2 100 _ _ (by rw [hrd]; exact H), hrd]
            refine ⟨?_, hr2, hr2, rfl⟩
            unfold callO
            simp only [hr2, hra, subHeap_same H, hsub, hcall, hle, if_true, hl2, hfin, hlb, setAll_appU]
    | invoke _ _ => exact plain (fun h2 => rfl) (fun h2 => rfl)
    | builtin b => exact plain (fun h2 => rfl) (fun h2 => rfl)
  | panic x => simp [touchO] at ht
  | _ => exact plain (fun h2 => rfl) (fun h2 => rfl)

/-! ### what is looked at in the frame -/

theorem opnd_congr {g2 : Fm} {x : Operand} (h : ∀ t, x = .tmp t → g2 t = g t) : opnd g2 x = opnd g x := by
  cases x with
  | tmp t => exact h t rfl
  | _ => rfl

theorem opnds_congr {g2 : Fm} : ∀ {l : List Operand}, (∀ t, Operand.tmp t ∈ l → g2 t = g t) → opnds g2 l = opnds g l
  | [], _ => rfl
  | x :: r, h => by
    simp only [opnds]
    rw [opnd_congr (x := x) (fun t e => h t (by simp [e])), opnds_congr (l := r) (fun t ht => h t (by simp [ht]))]

theorem partsV_congr {g2 : Fm} : ∀ {l : List (Nat × Operand)}, (∀ t i, (i, Operand.tmp t) ∈ l → g2 t = g t) → partsV g2 l = partsV g l
  | [], _ => rfl
  | (i, x) :: r, h => by
    simp only [partsV]
    rw [opnd_congr (x := x) (fun t e => h t i (by simp [e])), partsV_congr (l := r) (fun t j ht => h t j (by simp [ht]))]

theorem optIx_congr {g2 : Fm} {x : Option Operand} {d : Int} (h : ∀ t, x = some (.tmp t) → g2 t = g t) : optIx g2 x d = optIx g x d := by
  cases x with
  | none => rfl
  | some y =>
    simp only [optIx]
    rw [opnd_congr (x := y) (fun t e => h t (by rw [e]))]

/-- the temporaries that an operation names -/
def tmpsOf (op : Op) (t : Nat) : Prop := Operand.tmp t ∈ op.operands.toList

theorem stepT_congr {g2 : Fm} {op : Op} (h : ∀ t, tmpsOf op t → g2 t = g t) : stepT P g2 op = stepT P g op := by
  have o : ∀ x, x ∈ op.operands.toList → opnd g2 x = opnd g x := fun x hx => opnd_congr (fun t e => h t (by unfold tmpsOf; rw [← e]; exact hx))
  cases op <;> simp only [stepT]
  case move x => rw [o x (by simp [Op.operands])]
  case assign x => rw [o x (by simp [Op.operands])]
  case pick c x y => rw [o c (by simp [Op.operands]), o x (by simp [Op.operands]), o y (by simp [Op.operands])]
  case nilCheck x => rw [o x (by simp [Op.operands])]
  case binOp op t x y t' => rw [o x (by simp [Op.operands]), o y (by simp [Op.operands])]
  case unOp op t x => rw [o x (by simp [Op.operands])]
  case convert s d x => rw [o x (by simp [Op.operands])]
  case sliceToArrayPointer d x => rw [o x (by simp [Op.operands])]
  case makeInterface t x => rw [o x (by simp [Op.operands])]
  case makeFunc fn first cap =>
    cases fn <;> simp only []
    rw [opnds_congr (l := first.toList) (fun t ht => h t (by simp only [tmpsOf, Op.operands, Array.toList_append, List.mem_append]; exact .inl ht)), opnds_congr (l := cap.toList) (fun t ht => h t (by simp only [tmpsOf, Op.operands, Array.toList_append, List.mem_append]; exact .inr ht))]
  case slice t x lo hi mx =>
    cases mx <;> simp only []
    rw [o x (by simp [Op.operands])]
    have e1 : ∀ y, lo = some y → optIx g2 (some y) 0 = optIx g (some y) 0 := fun y hy => optIx_congr (fun t e => h t (by simp only [Option.some.injEq] at e; subst e; simp [tmpsOf, Op.operands, hy]))
    have e2 : ∀ y, hi = some y → optIx g2 (some y) 0 = optIx g (some y) 0 := fun y hy => optIx_congr (fun t e => h t (by simp only [Option.some.injEq] at e; subst e; simp [tmpsOf, Op.operands, hy]))
    cases lo <;> cases hi <;> simp only []
    · rw [e2 _ rfl]
    · rw [e1 _ rfl]
    · rw [e1 _ rfl, e2 _ rfl]
  case fieldAddr t x n => rw [o x (by simp [Op.operands])]
  case field t x n => rw [o x (by simp [Op.operands])]
  case indexAddr t x ix => rw [o x (by simp [Op.operands]), o ix (by simp [Op.operands])]
  case index t x ix => rw [o x (by simp [Op.operands]), o ix (by simp [Op.operands])]
  case extract x n => rw [o x (by simp [Op.operands])]
  case build t parts =>
    rw [partsV_congr (l := parts.toList) (fun t i ht => h t (by simp only [tmpsOf, Op.operands, List.mem_map]; exact ⟨_, ht, rfl⟩))]
  case typeAssert x t s ok => cases ok <;> simp only []; rw [o x (by simp [Op.operands])]
  case call c =>
    rw [opnds_congr (l := c.args.toList) (fun t ht => h t (by simp only [tmpsOf, Op.operands, Call.operands, Array.toList_append, List.mem_append]; exact .inr ht))]

theorem stepH_congr {g2 : Fm} {op : Op} (h0 : ∀ t, tmpsOf op t → g2 t = g t) : stepH P idx g2 h op = stepH P idx g h op := by
  have o : ∀ x, x ∈ op.operands.toList → opnd g2 x = opnd g x := fun x hx => opnd_congr (fun t e => h0 t (by unfold tmpsOf; rw [← e]; exact hx))
  cases op <;> try rfl
  case box t x => simp only [stepH]; rw [o x (by simp [Op.operands])]
  case load t x => simp only [stepH]; rw [o x (by simp [Op.operands])]
  case store t x y => simp only [stepH]; rw [o x (by simp [Op.operands]), o y (by simp [Op.operands])]
  case slice t x lo hi mx =>
    cases mx <;> simp only [stepH]
    rw [o x (by simp [Op.operands])]
    have e1 : optIx g2 lo = optIx g lo := funext fun d => optIx_congr (fun t e => h0 t (by subst e; simp [tmpsOf, Op.operands]))
    have e2 : optIx g2 hi = optIx g hi := funext fun d => optIx_congr (fun t e => h0 t (by subst e; simp [tmpsOf, Op.operands]))
    simp only [e1, e2]
  case buildSlice t len parts =>
    simp only [stepH]
    rw [partsV_congr (l := parts.toList) (fun t i ht => h0 t (by simp only [tmpsOf, Op.operands, List.mem_map]; exact ⟨_, ht, rfl⟩))]
  case makeSlice t x y => simp only [stepH]; rw [o x (by simp [Op.operands]), o y (by simp [Op.operands])]
  case convert s d x => simp only [stepH]; rw [o x (by simp [Op.operands])]
  case call c =>
    obtain ⟨cal, args, ts⟩ := c
    have oa : opnds g2 args.toList = opnds g args.toList := opnds_congr (fun t ht => h0 t (by simp only [tmpsOf, Op.operands, Call.operands, Array.toList_append, List.mem_append]; exact .inr ht))
    cases cal with
    | builtin b => cases b <;> first | rfl | (simp only [stepH]; rw [oa])
    | value _ => rfl
    | invoke _ _ => rfl

theorem touchN_congr {g2 : Fm} {op : Op} (h0 : ∀ t, tmpsOf op t → g2 t = g t) : touchN P idx g2 op = touchN P idx g op := by
  have o : ∀ x, x ∈ op.operands.toList → opnd g2 x = opnd g x := fun x hx => opnd_congr (fun t e => h0 t (by unfold tmpsOf; rw [← e]; exact hx))
  unfold touchN
  rw [stepT_congr h0]
  cases stepT P g op with
  | some _ => rfl
  | none =>
    simp only
    cases op <;> try rfl
    case load t x => simp only; rw [o x (by simp [Op.operands])]
    case store t x y => simp only; rw [o x (by simp [Op.operands])]
    case slice t x lo hi mx => simp only; rw [o x (by simp [Op.operands])]
    case convert s d x => simp only; rw [o x (by simp [Op.operands])]
    case call c =>
      obtain ⟨cal, args, ts⟩ := c
      have oa : opnds g2 args.toList = opnds g args.toList := opnds_congr (fun t ht => h0 t (by simp only [tmpsOf, Op.operands, Call.operands, Array.toList_append, List.mem_append]; exact .inr ht))
      cases cal with
      | builtin b => cases b <;> first | rfl | (simp only; rw [oa])
      | value _ => rfl
      | invoke _ _ => rfl

theorem stepO_congr {g2 : Fm} {op : Op} (h0 : ∀ t, tmpsOf op t → g2 t = g t) : stepO P O idx g2 h op = stepO P O idx g h op ∧ touchO P O idx g2 h op = touchO P O idx g h op := by
  have o : ∀ x, x ∈ op.operands.toList → opnd g2 x = opnd g x := fun x hx => opnd_congr (fun t e => h0 t (by unfold tmpsOf; rw [← e]; exact hx))
  have n1 : stepN P idx g2 h op = stepN P idx g h op := by unfold stepN; rw [stepT_congr h0, stepH_congr h0]
  have n2 := touchN_congr (P := P) (idx := idx) h0
  cases op with
  | panic x => exact ⟨by simp only [stepO]; rw [o x (by simp [Op.operands])], rfl⟩
  | call c =>
    obtain ⟨cal, args, ts⟩ := c
    have oa : opnds g2 args.toList = opnds g args.toList := opnds_congr (fun t ht => h0 t (by simp only [tmpsOf, Op.operands, Call.operands, Array.toList_append, List.mem_append]; exact .inr ht))
    cases cal with
    | value f =>
      have of := o f (by simp [Op.operands, Call.operands])
      exact ⟨by simp only [stepO]; rw [of, oa], by simp only [touchO]; rw [of, oa]⟩
    | invoke _ _ => exact ⟨by simp only [stepO, n1], by simp only [touchO, n2]⟩
    | builtin _ => exact ⟨by simp only [stepO, n1], by simp only [touchO, n2]⟩
  | _ => exact ⟨by simp only [stepO, n1], by simp only [touchO, n2]⟩
end
end Go.Lh
end
section
namespace Go.Lh

def wantV (ops : List Oper) (g : Fm) (o : Oper) : Option Bool :=
  match o.guard with
  | none => some true
  | some (j, want) => (match ops[j]? with
    | some oj => (match oj.dst with
      | some d => (match g d with
        | some (.bool b) => some (b == want)
        | some (.tup _) => some false
        | _ => none)
      | none => none)
    | none => none)

def putO (dst : Option Tmp) (v : V) (fr : Fr) : Fr := match dst with | some t => fr.put t v | none => fr

theorem get_putO (dst : Option Tmp) (v : V) (fr : Fr) : (putO dst v fr).get = Fm.put fr.get dst v := by
  cases dst with
  | none => rfl
  | some t => exact Fr.get_put t v fr

def nextIdx (P : Program) (o : Oper) (idx : Nat) : Nat := if Op.makes P o.op then idx + 1 else idx

def nMakes (P : Program) : List Oper → Nat
  | [] => 0
  | o :: r => if Op.makes P o.op then nMakes P r + 1 else nMakes P r

def runOps (P : Program) (O : Orc) (ops : List Oper) : List Oper → Nat → Fr → Heap → Option (Bool × Option V × Fr × Heap)
  | [], _, fr, h => some (true, none, fr, h)
  | o :: r, idx, fr, h => match wantV ops fr.get o with
    | some w => if w then (match stepO P O idx fr.get h o.op with
        | some (k, .ret v, h') => (match runOps P O ops r (nextIdx P o idx) (putO o.dst v fr) h' with
          | some (k', q) => some (k && k', q)
          | none => none)
        | some (k, .pan v, h') => some (k, some v, fr, h')
        | none => none)
      else runOps P O ops r (nextIdx P o idx) (putO o.dst (.tup []) fr) h
    | none => none

structure Tch where
  R : List Nat
  W : List Nat
  c : Bool
  len : Nat

def touches (P : Program) (O : Orc) (ops : List Oper) : List Oper → Nat → Fr → Heap → Option (List Tch)
  | [], _, _, _ => some []
  | o :: r, idx, fr, h => match wantV ops fr.get o with
    | some w => if w then (match touchO P O idx fr.get h o.op, stepO P O idx fr.get h o.op with
        | some (R, W, c), some (_, .ret v, h') => (match touches P O ops r (nextIdx P o idx) (putO o.dst v fr) h' with
          | some l => some (⟨R, W, c, h.length⟩ :: l)
          | none => none)
        | _, _ => none)
      else (match touches P O ops r (nextIdx P o idx) (putO o.dst (.tup []) fr) h with
        | some l => some (⟨[], [], false, h.length⟩ :: l)
        | none => none)
    | none => none

def disj (l m : List Nat) : Bool := l.all fun i => !memN i m

def Tch.indep (s t : Tch) : Bool :=
  disj s.W (t.R ++ t.W) && disj t.W (s.R ++ s.W) && !(s.c && t.c) &&
  (!s.c || (t.R ++ t.W).all fun i => Nat.blt i s.len) && (!t.c || (s.R ++ s.W).all fun i => Nat.blt i t.len)

/-- an operation waits for one of these, in any order that the edges allow -/
def waitsAny (o : Oper) (bl : List Nat) : Bool := o.after.toList.any fun e => memN e.on bl && Region.binds .any e

def backEdges : Nat → List Oper → Bool
  | _, [] => true
  | k, o :: r => (o.after.toList.all fun e => !Region.binds .any e || Nat.blt e.on k) && backEdges (k + 1) r

/-- one operation and those behind it (from number m on): each waits for it (bl: those that do), or may change places with it -/
def oneOk (ops : Array Oper) (o : Oper) (t : Tch) : Nat → List Nat → List Oper → List Tch → Bool
  | _, _, [], [] => true
  | m, bl, p :: r, s :: l => if waitsAny p bl then oneOk ops o t (m + 1) (m :: bl) r l else (o.apart ops p && t.indep s) && oneOk ops o t (m + 1) bl r l
  | _, _, _, _ => false

def allOk (ops : Array Oper) : Nat → List Oper → List Tch → Bool
  | _, [], [] => true
  | i, o :: r, t :: l => oneOk ops o t (i + 1) [i] r l && allOk ops (i + 1) r l
  | _, _, _ => false

def drawOk (P : Program) (O : Orc) (ops : Array Oper) (idx : Nat) (fr : Fr) (h : Heap) : Bool :=
  Region.noSelect ops && backEdges 0 ops.toList && (match touches P O ops.toList ops.toList idx fr h with
    | some l => allOk ops 0 ops.toList l
    | none => false)

def runRegion (P : Program) (O : Orc) (ops : Array Oper) (draw : Bool) (fr : Fr) (h : Heap) : Option (Bool × Option V × Fr × Heap) :=
  let h0 := h ++ List.replicate (nMakes P ops.toList) .dead
  if draw then (if drawOk P O ops h.length fr h0 then (match runOps P O ops.toList ops.toList h.length fr h0 with
      | some (k, none, r) => some (k, none, r)
      | _ => none) else none)
  else runOps P O ops.toList ops.toList h.length fr h0

/-! ### the text's order -/

theorem appH_len {P : Program} {idx : Nat} {h : Heap} {e : TypeId} {s : Nat} {x : V} {n : Nat} {c : Blk} {k : Bool} {v : V} {h' : Heap} (hs : appH P idx h e s x n c = some (k, v, h')) : h'.length = h.length := by
  unfold appH at hs
  repeat' split at hs
  all_goals first
    | (simp only [reduceCtorEq] at hs; done)
    | (simp only [Option.some.injEq, Prod.mk.injEq] at hs; obtain ⟨_, _, rfl⟩ := hs; simp)

theorem stepN_len {P : Program} {idx : Nat} {g : Fm} {h : Heap} {op : Op} {k : Bool} {v : V} {h' : Heap} (hs : stepN P idx g h op = some (k, v, h')) : h'.length = h.length := by
  unfold stepN at hs
  split at hs
  · simp only [Option.some.injEq, Prod.mk.injEq] at hs; obtain ⟨_, _, rfl⟩ := hs; rfl
  · unfold stepH at hs
    repeat' split at hs
    all_goals first
      | (simp only [reduceCtorEq] at hs; done)
      | (simp only [Option.some.injEq, Prod.mk.injEq] at hs; obtain ⟨_, _, rfl⟩ := hs; simp; done)
      | (rename_i hap; simp only [Option.some.injEq, Prod.mk.injEq] at hs; obtain ⟨_, hr⟩ := hs; subst hr; exact appH_len hap)

theorem stepO_len {P : Program} {O : Orc} {idx : Nat} {g : Fm} {h : Heap} {op : Op} {k : Bool} {fin : Fin} {h' : Heap} (hs : stepO P O idx g h op = some (k, fin, h')) : h.length ≤ h'.length := by
  unfold stepO at hs
  split at hs
  · split at hs <;> try simp only [reduceCtorEq] at hs
    split at hs
    · simp only [Option.some.injEq, Prod.mk.injEq] at hs; obtain ⟨_, _, rfl⟩ := hs; exact Nat.le_refl _
    · unfold callO at hs
      simp only at hs
      repeat' split at hs
      all_goals first
        | (simp only [reduceCtorEq] at hs; done)
        | (simp only [Option.some.injEq, Prod.mk.injEq] at hs; obtain ⟨_, _, rfl⟩ := hs; simp [setAll_length]; done)
  · split at hs <;> simp only [Option.some.injEq, Prod.mk.injEq, reduceCtorEq] at hs
    obtain ⟨_, _, rfl⟩ := hs; exact Nat.le_refl _
  · obtain ⟨_, _, hN, _⟩ := asmRes_some hs
    exact Nat.le_of_eq (stepN_len hN).symm

theorem stepN_idx {P : Program} {i j : Nat} {g : Fm} {h : Heap} {op : Op} (hm : Op.makes P op = false) : stepN P i g h op = stepN P j g h op := by
  unfold stepN
  cases stepT P g op with
  | some _ => rfl
  | none =>
    simp only
    cases op with
    | alloc _ => simp [Op.makes] at hm
    | box _ _ => simp [Op.makes] at hm
    | buildSlice _ _ _ => simp [Op.makes] at hm
    | makeSlice _ _ _ => simp [Op.makes] at hm
    | convert src dst x =>
      simp only [stepH]
      simp only [Op.makes] at hm
      split at hm
      · cases hm
      · rename_i hn
        split
        · rename_i h1 h2 _; exact (hn _ h1 h2).elim
        · rfl
        · rfl
        · rfl
    | call c =>
      obtain ⟨cal, args, ts⟩ := c
      cases cal with
      | builtin b => cases b <;> first | rfl | simp [Op.makes] at hm
      | value _ => rfl
      | invoke _ _ => rfl
    | slice _ _ _ _ mx => cases mx <;> rfl
    | _ => rfl

theorem stepO_idx {P : Program} {O : Orc} {i j : Nat} {g : Fm} {h : Heap} {op : Op} (hm : Op.makes P op = false) : stepO P O i g h op = stepO P O j g h op := by
  have e := stepN_idx (i := i) (j := j) (g := g) (h := h) hm
  cases op with
  | call c =>
    obtain ⟨cal, args, ts⟩ := c
    cases cal with
    | value _ => rfl
    | builtin _ => simp only [stepO, e]
    | invoke _ _ => simp only [stepO, e]
  | panic _ => rfl
  | _ => simp only [stepO, e]

theorem dead_of_free {ρ : Ren} {I : Nat → Prop} {w : World} {h : Heap} {F : Nat → Prop} (R : Rel ρ I w h F) {i : Nat} (hF : F i) (hi : i < h.length) : h[i]? = some .dead := by
  cases hb : h[i] with
  | dead => rw [List.getElem?_eq_getElem hi, hb]
  | _ =>
    obtain ⟨l, hl, _⟩ := R.blk i _ (List.getElem?_eq_getElem hi) (by rw [hb]; simp)
    rw [R.free i hF] at hl; cases hl

/-- the state of the machine is as the local state says -/
structure Sim (N : Nat) (ρ : Ren) (I : Nat → Prop) (w : World) (a : Act) (g : Fm) (h : Heap) (F : Nat → Prop) : Prop where
  size : a.tmps.size = N
  defers : a.defers = []
  fr : FRel I w ρ g a
  rel : Rel ρ I w h F

def dstIn (N : Nat) (o : Oper) : Bool := match o.dst with | some d => Nat.blt d N | none => true

theorem dstIn_iff {N : Nat} {o : Oper} (h : dstIn N o = true) : ∀ d, o.dst = some d → d < N := by
  intro d hd
  simp only [dstIn, hd, Nat.blt_eq] at h
  exact h

section
variable {P : Program} {O : Orc} {N : Nat}

theorem want_sound {ops : Array Oper} {g : Fm} {I : Nat → Prop} {w : World} {ρ : Ren} {a : Act} {o : Oper} {b : Bool} (F : FRel I w ρ g a) (hin : ∀ d, d ∈ ops.toList.filterMap (·.dst) → d < a.tmps.size) (h : wantV ops.toList g o = some b) :
    Region.wanted o (yielded ops a.tmps) = b := by
  unfold wantV at h
  unfold Region.wanted
  cases hg : o.guard with
  | none => simp only [hg, Option.some.injEq] at h; exact h
  | some q =>
    obtain ⟨j, want⟩ := q
    simp only [hg] at h ⊢
    split at h <;> try simp only [reduceCtorEq] at h
    rename_i oj hj
    split at h <;> try simp only [reduceCtorEq] at h
    rename_i d hd
    rw [Array.getElem?_toList] at hj
    have hdlt : d < a.tmps.size := hin d (List.mem_filterMap.2 ⟨oj, Array.mem_toList_iff.2 (Array.mem_of_getElem? hj), hd⟩)
    have ey : yielded ops a.tmps j = match a.tmps.getD d undef with | .bool b => some b | _ => none := by
      simp only [yielded, hj, hd, Option.bind_some]
      rw [Array.getElem?_eq_getElem hdlt]
      have e0 : a.tmps.getD d undef = a.tmps[d] := by simp [Array.getD, hdlt]
      rw [e0]
      cases a.tmps[d] <;> rfl
    split at h <;> simp only [Option.some.injEq, reduceCtorEq] at h
    · rename_i c hc
      have r := F d _ hc
      rw [ey]
      cases hv : a.tmps.getD d undef <;> rw [hv] at r <;> cases r
      simpa using h
    · rename_i c hc
      have r := F d _ hc
      rw [ey]
      cases hv : a.tmps.getD d undef <;> rw [hv] at r <;> cases r
      subst h; rfl

/-- the numbers for the blocks that the operations will make from here on -/
def Pend (P : Program) (l : List Oper) (idx : Nat) : Nat → Prop := fun i => idx ≤ i ∧ i < idx + nMakes P l

theorem runOps_sound (hO : OrcSound P O) {ops : Array Oper} (Q : Exit → Act → World → Prop)
    (hin : ∀ d, d ∈ ops.toList.filterMap (·.dst) → d < N) :
    ∀ (l pre : List Oper) (idx : Nat) (fr : Fr) (h : Heap) (ρ : Ren) (I : Nat → Prop) (w : World) (a : Act) (x : Option V) (fr' : Fr) (h' : Heap), ops.toList = pre ++ l →
      Sim N ρ I w a fr.get h (Pend P l idx) → idx + nMakes P l ≤ h.length → runOps P O ops.toList l idx fr h = some (true, x, fr', h') →
      (∀ ρ' I' w' a', x = none → Sim N ρ' I' w' a' fr'.get h' (fun _ => False) → Went ρ I w h ρ' I' w' h' → Q .normal a' w') →
      (∀ v ρ' I' w' a' v', x = some v → VRel I' w' ρ' v v' → Sim N ρ' I' w' a' fr'.get h' (fun _ => False) → Went ρ I w h ρ' I' w' h' → Q (.panic [{ v := v', recovered := false }]) a' w') →
      wpOps P ops Q (List.range' pre.length l.length) a w
  | [], pre, idx, fr, h, ρ, I, w, a, x, fr', h', _, S, _, hr, hq, _ => by
    simp only [runOps, Option.some.injEq, Prod.mk.injEq, true_and] at hr
    obtain ⟨rfl, rfl, rfl⟩ := hr
    simp only [List.length_nil, List.range'_zero, wpOps]
    exact hq ρ I w a rfl ⟨S.size, S.defers, S.fr, S.rel.weaken (fun _ h => h.elim)⟩ (.refl _ _ _ _)
  | o :: l, pre, idx, fr, h, ρ, I, w, a, x, fr', h', hops, S, hlen, hr, hq, hp => by
    have hget : ops[pre.length]? = some o := by rw [← Array.getElem?_toList, hops]; simp
    have hdst : ∀ d, o.dst = some d → d < N := fun d hd => hin d (List.mem_filterMap.2 ⟨o, by rw [hops]; simp, hd⟩)
    simp only [List.length_cons, List.range'_succ, wpOps, hget]
    simp only [runOps] at hr
    have hnm : nMakes P (o :: l) = if Op.makes P o.op then nMakes P l + 1 else nMakes P l := rfl
    have hidx' : nextIdx P o idx + nMakes P l = idx + nMakes P (o :: l) := by
      rw [hnm]; unfold nextIdx; split <;> omega
    have hidxle : idx ≤ nextIdx P o idx := by unfold nextIdx; split <;> omega
    split at hr <;> try simp only [reduceCtorEq] at hr
    rename_i b hw
    have hwant := want_sound (ops := ops) S.fr (by rw [S.size]; exact hin) hw
    rw [hwant]
    cases b with
    | false =>
      simp only [Bool.false_eq_true, if_false] at hr ⊢
      have ih := runOps_sound hO Q hin l (pre ++ [o]) (nextIdx P o idx) (putO o.dst (.tup []) fr) h ρ I w (a.put o.dst undef) x fr' h' (by simp [hops])
        ⟨by rw [put_size]; exact S.size, by rw [put_defers]; exact S.defers, by rw [get_putO]; exact S.fr.put (.tup _ _ _ (.nil _)) (fun d hd => by rw [S.size]; exact hdst d hd), S.rel.weaken (fun i hi => ⟨by have := hi.1; omega, by have := hi.2; omega⟩)⟩
        (by omega) hr hq hp
      simpa using ih
    | true =>
      simp only [if_true] at hr ⊢
      left
      -- the number at which the operation is looked at
      obtain ⟨id2, hid2, hmk, hleft⟩ : ∃ id2, stepO P O idx fr.get h o.op = stepO P O id2 fr.get h o.op ∧ (Op.makes P o.op = true → Pend P (o :: l) idx id2 ∧ h[id2]? = some .dead) ∧
          (∀ i, Pend P l (nextIdx P o idx) i → Pend P (o :: l) idx i ∧ i ≠ id2) := by
        cases hm : Op.makes P o.op with
        | true =>
          have hpos : 0 < nMakes P (o :: l) := by rw [hnm, if_pos hm]; omega
          have hP : Pend P (o :: l) idx idx := ⟨Nat.le_refl _, by omega⟩
          refine ⟨idx, rfl, fun _ => ⟨hP, dead_of_free S.rel hP (by omega)⟩, fun i hi => ?_⟩
          have hn : nextIdx P o idx = idx + 1 := by simp [nextIdx, hm]
          obtain ⟨h1, h2⟩ := hi
          rw [hn] at h1
          exact ⟨⟨by omega, by omega⟩, by omega⟩
        | false =>
          have hn : nextIdx P o idx = idx := by simp [nextIdx, hm]
          refine ⟨idx + nMakes P l, stepO_idx hm, by simp, fun i hi => ?_⟩
          obtain ⟨h1, h2⟩ := hi
          rw [hn] at h1 h2
          exact ⟨⟨h1, by omega⟩, by omega⟩
      rw [hid2] at hr
      split at hr <;> try simp only [reduceCtorEq] at hr
      · rename_i k v h1 hst
        split at hr <;> simp only [Option.some.injEq, Prod.mk.injEq, Bool.and_eq_true, reduceCtorEq] at hr
        rename_i k' q hrest
        obtain ⟨⟨rfl, rfl⟩, rfl⟩ := hr
        have hle := stepO_len hst
        refine stepO_wp hO S.rel S.fr hmk hst _ Q ?_ (fun _ e => by cases e)
        intro v' e w' ρ' I' u hu hR hW
        cases e
        have L := hW.le S.rel
        have ih := runOps_sound hO Q hin l (pre ++ [o]) (nextIdx P o idx) (putO o.dst v fr) h1 ρ' I' w' (a.put o.dst u) x fr' h' (by simp [hops])
          ⟨by rw [put_size]; exact S.size, by rw [put_defers]; exact S.defers, by rw [get_putO]; exact (S.fr.le L).put hu (fun d hd => by rw [S.size]; exact hdst d hd), hR.weaken (fun i hi => by
            obtain ⟨g1, g2⟩ := hleft i hi
            refine ⟨g1, g2, ?_⟩
            have := g1.2
            omega)⟩
          (by omega) hrest (fun ρ₂ I₂ w₂ a₂ e1 s1 w1 => hq ρ₂ I₂ w₂ a₂ e1 s1 (hW.trans w1)) (fun v₂ ρ₂ I₂ w₂ a₂ v₃ e1 r1 s1 w1 => hp v₂ ρ₂ I₂ w₂ a₂ v₃ e1 r1 s1 (hW.trans w1))
        simpa using ih
      · rename_i k v h1 hst
        simp only [Option.some.injEq, Prod.mk.injEq] at hr
        obtain ⟨rfl, rfl, rfl, rfl⟩ := hr
        refine stepO_wp hO S.rel S.fr hmk hst _ Q (fun _ e => by cases e) ?_
        intro v' e w' ρ' I' u hu hR hW
        cases e
        exact hp v ρ' I' w' a u rfl hu ⟨S.size, S.defers, S.fr.le (hW.le S.rel), hR.weaken (fun _ h => h.elim)⟩ hW

end
end Go.Lh
end
section
namespace Go.Lh

theorem appU_length : ∀ (U : List (Nat × Blk)) (h : Heap), (appU h U).length = h.length
  | [], _ => rfl
  | p :: r, h => by simp [appU, appU_length r]

theorem appU_get_ne : ∀ (U : List (Nat × Blk)) (h : Heap) (i : Nat), (∀ p ∈ U, p.1 ≠ i) → (appU h U)[i]? = h[i]?
  | [], _, _, _ => rfl
  | p :: r, h, i, H => by
    simp only [appU]
    rw [appU_get_ne r _ i (fun q hq => H q (by simp [hq])), List.getElem?_set_ne (H p (by simp))]

theorem appU_append : ∀ (U : List (Nat × Blk)) (h N : Heap), (N = [] ∨ ∀ p ∈ U, p.1 < h.length) → appU (h ++ N) U = appU h U ++ N
  | [], _, _, _ => rfl
  | p :: r, h, N, H => by
    simp only [appU]
    rcases H with rfl | H
    · simp
    · rw [List.set_append_left _ _ (H p (by simp))]
      exact appU_append r _ N (.inr fun q hq => by simpa using H q (by simp [hq]))

theorem appU_set (U : List (Nat × Blk)) : ∀ (h : Heap) (i : Nat) (b : Blk), (∀ p ∈ U, p.1 ≠ i) → appU (h.set i b) U = (appU h U).set i b := by
  induction U with
  | nil => intro h i b _; rfl
  | cons p r ih =>
    intro h i b H
    simp only [appU]
    rw [List.set_comm _ _ (fun e => H p (by simp) e.symm)]
    exact ih _ i b (fun q hq => H q (by simp [hq]))

theorem appU_comm : ∀ (U V : List (Nat × Blk)) (h : Heap), (∀ p ∈ U, ∀ q ∈ V, p.1 ≠ q.1) → appU (appU h U) V = appU (appU h V) U
  | [], _, _, _ => rfl
  | p :: r, V, h, H => by
    simp only [appU]
    rw [appU_comm r V _ (fun a ha b hb => H a (by simp [ha]) b hb), appU_set V h p.1 p.2 (fun q hq => (H p (by simp) q hq).symm)]

theorem disj_iff {l m : List Nat} (h : disj l m = true) : ∀ i ∈ l, i ∉ m := by
  intro i hi hm
  have := List.all_eq_true.1 h i hi
  rw [(memN_iff i m).2 hm] at this
  cases this

structure Indep (s t : Tch) : Prop where
  w1 : ∀ i ∈ s.W, i ∉ t.R ∧ i ∉ t.W
  w2 : ∀ i ∈ t.W, i ∉ s.R ∧ i ∉ s.W
  c : ¬ (s.c = true ∧ t.c = true)
  l1 : s.c = true → ∀ i, i ∈ t.R ∨ i ∈ t.W → i < s.len
  l2 : t.c = true → ∀ i, i ∈ s.R ∨ i ∈ s.W → i < t.len

theorem indep_iff {s t : Tch} (h : s.indep t = true) : Indep s t := by
  simp only [Tch.indep, Bool.and_eq_true, Bool.or_eq_true, Bool.not_eq_true'] at h
  obtain ⟨⟨⟨⟨h1, h2⟩, h3⟩, h4⟩, h5⟩ := h
  refine ⟨fun i hi => ?_, fun i hi => ?_, ?_, fun hc i hi => ?_, fun hc i hi => ?_⟩
  · have := disj_iff h1 i hi; simpa using this
  · have := disj_iff h2 i hi; simpa using this
  · rintro ⟨a, b⟩; rw [a, b] at h3; cases h3
  · rcases h4 with h4 | h4
    · rw [hc] at h4; cases h4
    · have := List.all_eq_true.1 h4 i (by simpa using hi)
      simpa using this
  · rcases h5 with h5 | h5
    · rw [hc] at h5; cases h5
    · have := List.all_eq_true.1 h5 i (by simpa using hi)
      simpa using this

abbrev LSt := Fm × Heap

section
variable {P : Program} {O : Orc} {ops : Array Oper}

def mkIdx (P : Program) (ops : Array Oper) (base k : Nat) : Nat := base + nMakes P (ops.toList.take k)

def stC (P : Program) (O : Orc) (ops : Array Oper) (D : List Tch) (base k : Nat) (s : LSt) : Option LSt :=
  match ops[k]?, D[k]? with
  | some o, some t => (match wantV ops.toList s.1 o with
    | some true => (match touchO P O (mkIdx P ops base k) s.1 s.2 o.op, stepO P O (mkIdx P ops base k) s.1 s.2 o.op with
      | some (R, W, c), some (true, .ret v, h') => if R = t.R ∧ W = t.W ∧ c = t.c ∧ (c = true → s.2.length = t.len) then some (s.1.put o.dst v, h') else none
      | _, _ => none)
    | some false => if t.R = [] ∧ t.W = [] ∧ t.c = false then some (s.1.put o.dst (.tup []), s.2) else none
    | none => none)
  | _, _ => none

theorem wantV_congr {g g2 : Fm} {o : Oper} (h : ∀ t, t ∈ o.looksAt ops → g2 t = g t) : wantV ops.toList g2 o = wantV ops.toList g o := by
  unfold wantV
  cases hg : o.guard with
  | none => rfl
  | some q =>
    obtain ⟨j, want⟩ := q
    simp only
    cases hj : ops.toList[j]? with
    | none => rfl
    | some oj =>
      simp only
      cases hd : oj.dst with
      | none => rfl
      | some d =>
        simp only
        rw [Array.getElem?_toList] at hj
        rw [h d (by simp [Oper.looksAt, hg, hj, hd])]

theorem tmpsOf_looks {o : Oper} {t : Nat} (h : tmpsOf o.op t) : t ∈ o.looksAt ops := by
  unfold Oper.looksAt
  exact List.mem_append.2 (.inl (List.mem_filterMap.2 ⟨.tmp t, h, rfl⟩))

theorem stC_loc {D : List Tch} {base k : Nat} {g : Fm} {h : Heap} {s' : LSt} {o : Oper} {t : Tch} (ho : ops[k]? = some o) (ht : D[k]? = some t) (hs : stC P O ops D base k (g, h) = some s') :
    ∃ (v : V) (U : List (Nat × Blk)) (N : Heap), s' = (g.put o.dst v, appU h U ++ N) ∧ (∀ p ∈ U, p.1 ∈ t.W) ∧ (t.c = false → N = []) ∧ (t.c = true → h.length = t.len) ∧
      ∀ (g2 : Fm) (h2 : Heap), (∀ x, x ∈ o.looksAt ops → g2 x = g x) → SameAt t.R h h2 → (t.c = true → h2.length = h.length) → stC P O ops D base k (g2, h2) = some (g2.put o.dst v, appU h2 U ++ N) := by
  unfold stC at hs
  simp only [ho, ht] at hs
  split at hs
  · rename_i hw
    split at hs <;> try simp only [reduceCtorEq] at hs
    rename_i R W c v h' htch hst
    split at hs <;> simp only [Option.some.injEq, reduceCtorEq] at hs
    rename_i hcond
    obtain ⟨rfl, rfl, rfl, hlen⟩ := hcond
    subst hs
    obtain ⟨U, N, u1, u2, u3⟩ := stepO_loc hst htch
    refine ⟨v, U, N, ?_, u1, u2, hlen, fun g2 h2 hg hS hl => ?_⟩
    · have := (u3 h (fun _ _ => rfl) (fun _ => rfl)).1
      rw [hst] at this
      simp only [Option.some.injEq, Prod.mk.injEq, true_and] at this
      rw [this]
    · obtain ⟨a1, a2⟩ := u3 h2 hS hl
      obtain ⟨b1, b2⟩ := stepO_congr (P := P) (O := O) (idx := mkIdx P ops base k) (h := h2) (g := g) (g2 := g2) (op := o.op) (fun x hx => hg x (tmpsOf_looks hx))
      unfold stC
      simp only [ho, ht]
      rw [wantV_congr hg, hw]
      simp only
      rw [b1, b2, a1, a2]
      simp only
      rw [if_pos ⟨trivial, trivial, trivial, fun hc => (hl hc).trans (hlen hc)⟩]
  · rename_i hw
    split at hs <;> simp only [Option.some.injEq, reduceCtorEq] at hs
    rename_i hcond
    subst hs
    refine ⟨.tup [], [], [], by simp [appU], fun p hp => (by cases hp), fun _ => rfl, fun hc => (by rw [hcond.2.2] at hc; cases hc), fun g2 h2 hg hS hl => ?_⟩
    unfold stC
    simp only [ho, ht]
    rw [wantV_congr hg, hw]
    simp only
    rw [if_pos hcond]
    simp [appU]
  · cases hs

theorem put_comm {g : Fm} {d e : Option Tmp} {v u : V} (h : ∀ x, d = some x → e ≠ some x) : (g.put d v).put e u = (g.put e u).put d v := by
  cases d with
  | none => rfl
  | some d =>
    cases e with
    | none => rfl
    | some e =>
      have hne : d ≠ e := fun he => h d rfl (by rw [he])
      funext x
      simp only [Fm.put]
      by_cases h1 : x = e
      · subst h1; rw [if_pos rfl, if_neg (Ne.symm hne), if_pos rfl]
      · rw [if_neg h1]
        by_cases h2 : x = d
        · rw [if_pos h2, if_pos h2]
        · rw [if_neg h2, if_neg h2, if_neg h1]

theorem put_get {g : Fm} {d : Option Tmp} {v : V} {x : Nat} (h : ∀ y, d = some y → y ≠ x) : g.put d v x = g x := by
  cases d with
  | none => rfl
  | some d => simp only [Fm.put]; rw [if_neg (fun e => h d rfl e.symm)]

theorem diamond {D : List Tch} {base i j : Nat} {oi oj : Oper} {ti tj : Tch} (hi : ops[i]? = some oi) (hj : ops[j]? = some oj) (hti : D[i]? = some ti) (htj : D[j]? = some tj)
    (hap : oi.apart ops oj = true) (hin : Indep ti tj) (s s1 s1j : LSt) (h1 : stC P O ops D base i s = some s1) (h2 : stC P O ops D base j s1 = some s1j) :
    ∃ sj, stC P O ops D base j s = some sj ∧ stC P O ops D base i sj = some s1j := by
  obtain ⟨g, h⟩ := s
  obtain ⟨a1, a2, a3⟩ := Oper.apart_spec hap
  obtain ⟨vi, Ui, Ni, rfl, i1, i2, i3, i4⟩ := stC_loc hi hti h1
  obtain ⟨vj, Uj, Nj, rfl, j1, j2, j3, j4⟩ := stC_loc hj htj h2
  have hw12 : ∀ p ∈ Ui, ∀ q ∈ Uj, p.1 ≠ q.1 := fun p hp q hq e => (hin.w1 _ (i1 p hp)).2 (e ▸ j1 q hq)
  have hNi : ti.c = true → tj.c = false := fun hc => by cases h0 : tj.c with | false => rfl | true => exact (hin.c ⟨hc, h0⟩).elim
  have hNj : tj.c = true → ti.c = false := fun hc => by cases h0 : ti.c with | false => rfl | true => exact (hin.c ⟨h0, hc⟩).elim
  have sameJ : SameAt tj.R (appU h Ui ++ Ni) h := by
    intro x hx
    have hxU : ∀ p ∈ Ui, p.1 ≠ x := fun p hp e => (hin.w1 _ (i1 p hp)).1 (e ▸ hx)
    cases hc : ti.c with
    | false => rw [i2 hc, List.append_nil, appU_get_ne _ _ _ hxU]
    | true =>
      have hlt := hin.l1 hc x (.inl hx)
      rw [← i3 hc] at hlt
      rw [List.getElem?_append_left (by rw [appU_length]; exact hlt), appU_get_ne _ _ _ hxU]
  have ej := j4 g h (fun x hx => (put_get (fun y hy e => a1 y hy (e ▸ hx))).symm) sameJ (fun hc => by rw [i2 (hNj hc)]; simp [appU_length])
  refine ⟨_, ej, ?_⟩
  have sameI : SameAt ti.R h (appU h Uj ++ Nj) := by
    intro x hx
    have hxU : ∀ p ∈ Uj, p.1 ≠ x := fun p hp e => (hin.w2 _ (j1 p hp)).1 (e ▸ hx)
    cases hc : tj.c with
    | false => rw [j2 hc, List.append_nil, appU_get_ne _ _ _ hxU]
    | true =>
      have hlt := hin.l2 hc x (.inl hx)
      have hl := j3 hc
      rw [i2 (hNj hc), List.append_nil, appU_length] at hl
      rw [← hl] at hlt
      rw [List.getElem?_append_left (by rw [appU_length]; exact hlt), appU_get_ne _ _ _ hxU]
  have ei := i4 (g.put oj.dst vj) (appU h Uj ++ Nj) (fun x hx => put_get (fun y hy e => a3 y hy (e ▸ hx))) sameI (fun hc => by rw [j2 (hNi hc)]; simp [appU_length])
  rw [ei, put_comm (fun x hx e => a2 x hx e)]
  have heap : appU (appU h Uj ++ Nj) Ui ++ Ni = appU (appU h Ui ++ Ni) Uj ++ Nj := by
    cases hci : ti.c with
    | true =>
      rw [j2 (hNi hci), List.append_nil, List.append_nil]
      rw [appU_append Uj (appU h Ui) Ni (.inr fun p hp => by rw [appU_length, i3 hci]; exact hin.l1 hci _ (.inr (j1 p hp))), appU_comm Ui Uj h hw12]
    | false =>
      rw [i2 hci, List.append_nil, List.append_nil]
      cases hcj : tj.c with
      | false => rw [j2 hcj, List.append_nil, List.append_nil, appU_comm Ui Uj h hw12]
      | true =>
        have hl := j3 hcj
        rw [i2 hci, List.append_nil, appU_length] at hl
        rw [appU_append Ui (appU h Uj) Nj (.inr fun p hp => by rw [appU_length, hl]; exact hin.l2 hcj _ (.inr (i1 p hp))), appU_comm Ui Uj h hw12]
  rw [heap]

/-! ### any order -/

def LAny (ops : Array Oper) (st : Nat → LSt → Option LSt) (Q : LSt → Prop) : Nat → Array Bool → LSt → Prop
  | 0, listed, s => Region.ready .any ops listed = [] ∧ Q s
  | fuel + 1, listed, s => (Region.ready .any ops listed = [] → Q s) ∧
    ∀ i ∈ Region.ready .any ops listed, ∃ s', st i s = some s' ∧ LAny ops st Q fuel (listed.setIfInBounds i true) s'

theorem LAny_first {st : Nat → LSt → Option LSt} {Q : LSt → Prop} {i : Nat} {B : Nat → Prop} (hi : B i)
    (hB : ∀ j oj, B j → j ≠ i → ops[j]? = some oj → ∃ e ∈ oj.after, Region.binds .any e = true ∧ B e.on) :
    ∀ (fuel : Nat) (listed : Array Bool) (s s1 : LSt), (∀ j, B j → j < ops.size → listed.getD j true = false) → (∀ j, B j → j < ops.size) → listed.size = ops.size →
      (∀ j oj, ops[j]? = some oj → ¬ B j → listed.getD j true = false →
        ∀ s s1 s1j, st i s = some s1 → st j s1 = some s1j → ∃ sj, st j s = some sj ∧ st i sj = some s1j) →
      i ∈ Region.ready .any ops listed → st i s = some s1 → LAny ops st Q fuel (listed.setIfInBounds i true) s1 → LAny ops st Q (fuel + 1) listed s := by
  intro fuel
  induction fuel with
  | zero =>
    intro listed s s1 _ _ _ _ hr hst H
    refine ⟨fun h => (by rw [h] at hr; cases hr), fun j hj => ?_⟩
    by_cases hji : j = i
    · subst hji; exact ⟨s1, hst, H⟩
    · have := ready_mono hj hji
      rw [H.1] at this; cases this
  | succ fuel ih =>
    intro listed s s1 hun hlt hsz hfree hr hst H
    refine ⟨fun h => (by rw [h] at hr; cases hr), fun j hj => ?_⟩
    by_cases hji : j = i
    · subst hji; exact ⟨s1, hst, H⟩
    · obtain ⟨s1j, hs1j, Hj⟩ := H.2 j (ready_mono hj hji)
      obtain ⟨hjun, oj, hoj, hall⟩ := mem_ready.1 hj
      have hnB : ¬ B j := by
        intro hb
        obtain ⟨e, he, hbd, hbe⟩ := hB j oj hb hji hoj
        have h1 := hall e he hbd
        have h2 := hlt _ hbe
        have h0 := hun _ hbe h2
        have h3 : e.on < listed.size := by omega
        simp [h3] at h0 h1
        rw [h0] at h1; cases h1
      obtain ⟨sj, hsj, hisj⟩ := hfree j oj hoj hnB hjun s s1 s1j hst hs1j
      refine ⟨sj, hsj, ih (listed.setIfInBounds j true) sj s1j ?_ hlt (by simpa using hsz) ?_ (ready_mono hr (Ne.symm hji)) hisj ?_⟩
      · intro k hk hks
        have : j ≠ k := fun e => hnB (e ▸ hk)
        rw [getD_set_ne true this]; exact hun k hk hks
      · intro k ok hk hnk hun'
        refine hfree k ok hk hnk ?_
        by_cases hjk : j = k
        · subst hjk; exact hjun
        · rw [getD_set_ne true hjk] at hun'; exact hun'
      · rw [Array.setIfInBounds_comm _ _ hji]; exact Hj

theorem waitsAny_iff {o : Oper} {bl : List Nat} (h : waitsAny o bl = true) : ∃ e ∈ o.after, Region.binds .any e = true ∧ e.on ∈ bl := by
  simp only [waitsAny, List.any_eq_true, Bool.and_eq_true] at h
  obtain ⟨e, he, h1, h2⟩ := h
  exact ⟨e, Array.mem_toList_iff.1 he, h2, (memN_iff _ _).1 h1⟩

theorem oneOk_get {o : Oper} {t : Tch} : ∀ (r : List Oper) (l : List Tch) (m : Nat) (bl : List Nat), oneOk ops o t m bl r l = true →
    ∃ B : Nat → Prop, (∀ j ∈ bl, B j) ∧ (∀ j, B j → j ∈ bl ∨ (∃ (k : Nat) (p : Oper), j = m + k ∧ r[k]? = some p ∧ ∃ e ∈ p.after, Region.binds .any e = true ∧ B e.on)) ∧
      ∀ (k : Nat) (p : Oper), r[k]? = some p → ∃ s, l[k]? = some s ∧ (B (m + k) ∨ (o.apart ops p = true ∧ t.indep s = true))
  | [], [], m, bl, _ => ⟨fun j => j ∈ bl, fun _ h => h, fun _ h => .inl h, by simp⟩
  | [], _ :: _, _, _, h => by simp [oneOk] at h
  | _ :: _, [], _, _, h => by simp [oneOk] at h
  | p :: r, s :: l, m, bl, h => by
    simp only [oneOk] at h
    split at h
    · rename_i hw
      obtain ⟨B, b1, b2, b3⟩ := oneOk_get r l (m + 1) (m :: bl) h
      obtain ⟨e, he, hbd, hin⟩ := waitsAny_iff hw
      refine ⟨B, fun j hj => b1 j (by simp [hj]), fun j hj => ?_, fun k q hq => ?_⟩
      · rcases b2 j hj with hm | ⟨k, q, rfl, hq, hx⟩
        · rcases List.mem_cons.1 hm with rfl | hm
          · exact .inr ⟨0, p, rfl, rfl, e, he, hbd, b1 _ (by simp [hin])⟩
          · exact .inl hm
        · exact .inr ⟨k + 1, q, by omega, by simpa using hq, hx⟩
      · cases k with
        | zero => exact ⟨s, rfl, .inl (b1 _ (by simp))⟩
        | succ k =>
          obtain ⟨s', h1, h2⟩ := b3 k q (by simpa using hq)
          exact ⟨s', by simpa using h1, by rw [show m + (k + 1) = m + 1 + k by omega]; exact h2⟩
    · rw [Bool.and_eq_true, Bool.and_eq_true] at h
      obtain ⟨B, b1, b2, b3⟩ := oneOk_get r l (m + 1) bl h.2
      refine ⟨B, b1, fun j hj => ?_, fun k q hq => ?_⟩
      · rcases b2 j hj with hm | ⟨k, q, rfl, hq, hx⟩
        · exact .inl hm
        · exact .inr ⟨k + 1, q, by omega, by simpa using hq, hx⟩
      · cases k with
        | zero => simp at hq; subst hq; exact ⟨s, rfl, .inr h.1⟩
        | succ k =>
          obtain ⟨s', h1, h2⟩ := b3 k q (by simpa using hq)
          exact ⟨s', by simpa using h1, by rw [show m + (k + 1) = m + 1 + k by omega]; exact h2⟩

theorem nMakes_append (P : Program) : ∀ a b : List Oper, nMakes P (a ++ b) = nMakes P a + nMakes P b
  | [], b => by simp [nMakes]
  | o :: r, b => by simp only [List.cons_append, nMakes, nMakes_append P r b]; split <;> omega

theorem LAny_lex {base : Nat} {D : List Tch} {Q : LSt → Prop} {fr' : Fr} {h' : Heap} (hQ : Q (fr'.get, h')) :
    ∀ (l pre : List Oper) (Dp Dl : List Tch) (fr : Fr) (h : Heap) (listed : Array Bool), ops.toList = pre ++ l → D = Dp ++ Dl → Dp.length = pre.length →
      touches P O ops.toList l (base + nMakes P pre) fr h = some Dl → runOps P O ops.toList l (base + nMakes P pre) fr h = some (true, none, fr', h') →
      allOk ops pre.length l Dl = true → backEdges pre.length l = true → listed.size = ops.size → (∀ j, j < ops.size → listed.getD j true = decide (j < pre.length)) →
      LAny ops (stC P O ops D base) Q l.length listed (fr.get, h)
  | [], pre, Dp, Dl, fr, h, listed, hops, hD, hDl, ht, hr, ha, hb, hsz, hl => by
    simp only [runOps, Option.some.injEq, Prod.mk.injEq, true_and] at hr
    obtain ⟨rfl, rfl⟩ := hr
    refine ⟨?_, hQ⟩
    have hn : ops.size = pre.length := by have := congrArg List.length hops; simpa using this
    apply List.eq_nil_iff_forall_not_mem.2
    intro j hj
    obtain ⟨h1, o, ho, _⟩ := mem_ready.1 hj
    have hjl : j < ops.size := (Array.getElem?_eq_some_iff.1 ho).1
    rw [hl j hjl] at h1
    simp at h1; omega
  | o :: l, pre, Dp, Dl, fr, h, listed, hops, hD, hDl, ht, hr, ha, hb, hsz, hl => by
    have hget : ops[pre.length]? = some o := by rw [← Array.getElem?_toList, hops]; simp
    have hn : ops.size = pre.length + (l.length + 1) := by have := congrArg List.length hops; simpa using this
    have hmk : mkIdx P ops base pre.length = base + nMakes P pre := by simp [mkIdx, hops]
    have hnext : nextIdx P o (base + nMakes P pre) = base + nMakes P (pre ++ [o]) := by
      rw [nMakes_append]; simp only [nextIdx, nMakes]; split <;> omega
    -- the step itself
    obtain ⟨v, h1, Dt, D2, rfl, hstep, ht2, hr2⟩ : ∃ (v : V) (h1 : Heap) (Dt : Tch) (D2 : List Tch), Dl = Dt :: D2 ∧ (D[pre.length]? = some Dt → stC P O ops D base pre.length (fr.get, h) = some (Fm.put fr.get o.dst v, h1)) ∧
        touches P O ops.toList l (base + nMakes P (pre ++ [o])) (putO o.dst v fr) h1 = some D2 ∧ runOps P O ops.toList l (base + nMakes P (pre ++ [o])) (putO o.dst v fr) h1 = some (true, none, fr', h') := by
      simp only [touches, runOps, hnext] at ht hr
      cases hw : wantV ops.toList fr.get o with
      | none => simp [hw] at ht
      | some b =>
        simp only [hw] at ht hr
        cases b with
        | true =>
          simp only [if_true] at ht hr
          split at ht <;> try simp only [reduceCtorEq] at ht
          rename_i R W c k v h1 htc hst
          split at ht <;> simp only [Option.some.injEq, reduceCtorEq] at ht
          rename_i D2 hD2
          rw [hst] at hr
          simp only at hr
          split at hr <;> simp only [Option.some.injEq, Prod.mk.injEq, Bool.and_eq_true, reduceCtorEq] at hr
          rename_i k' q hrest
          obtain ⟨⟨rfl, rfl⟩, rfl⟩ := hr
          refine ⟨v, h1, _, D2, ht.symm, fun hDt => ?_, hD2, hrest⟩
          unfold stC
          simp only [hget, hDt, hw, hmk, htc, hst]
          rw [if_pos ⟨trivial, trivial, trivial, fun _ => trivial⟩]
        | false =>
          simp only [Bool.false_eq_true, if_false] at ht hr
          split at ht <;> simp only [Option.some.injEq, reduceCtorEq] at ht
          rename_i D2 hD2
          refine ⟨.tup [], h, _, D2, ht.symm, fun hDt => ?_, hD2, hr⟩
          unfold stC
          simp only [hget, hDt, hw]
          rw [if_pos ⟨trivial, trivial, trivial⟩]
    have hDget : D[pre.length]? = some Dt := by rw [hD, List.getElem?_append_right (by omega), hDl]; simp
    simp only [allOk, Bool.and_eq_true] at ha
    simp only [backEdges, Bool.and_eq_true, List.all_eq_true, Bool.or_eq_true, Bool.not_eq_true'] at hb
    obtain ⟨B, g1, g3, g2⟩ := oneOk_get _ _ _ _ ha.1
    have hready : pre.length ∈ Region.ready .any ops listed := by
      refine mem_ready.2 ⟨by rw [hl _ (by omega)]; simp, o, hget, fun e he hbd => ?_⟩
      rcases hb.1 e (Array.mem_toList_iff.2 he) with h0 | h0
      · rw [hbd] at h0; cases h0
      · have hlt : e.on < pre.length := by simpa using h0
        have := hl e.on (by omega)
        have hlt2 : e.on < listed.size := by omega
        simp only [Array.getD, hlt2, dif_pos] at this ⊢
        rw [this]; simpa using hlt
    have hS := hstep hDget
    have blt : ∀ j, B j → j < ops.size := by
      intro j hj
      rcases g3 j hj with hm | ⟨k, p, rfl, hp, _⟩
      · rw [List.mem_singleton] at hm; omega
      · have := (List.getElem?_eq_some_iff.1 hp).1; omega
    have bge : ∀ j, B j → pre.length ≤ j := by
      intro j hj
      rcases g3 j hj with hm | ⟨k, p, rfl, hp, _⟩
      · rw [List.mem_singleton] at hm; omega
      · omega
    refine LAny_first (B := B) (g1 _ (by simp)) ?_ l.length listed (fr.get, h) _ ?_ blt hsz ?_ hready hS ?_
    · intro j oj hj hne hoj
      rcases g3 j hj with hm | ⟨k, p, rfl, hp, hx⟩
      · rw [List.mem_singleton] at hm; exact (hne hm).elim
      · have : oj = p := by
          rw [← Array.getElem?_toList, hops, List.getElem?_append_right (by omega), show pre.length + 1 + k - pre.length = k + 1 by omega] at hoj
          simp only [List.getElem?_cons_succ] at hoj
          rw [hp] at hoj; cases hoj; rfl
        rw [this]; exact hx
    · intro j hj hjs
      rw [hl j hjs]; simp; exact bge j hj
    · intro j oj hoj hnB hun
      have hjl : j < ops.size := (Array.getElem?_eq_some_iff.1 hoj).1
      have hge : pre.length ≤ j := by
        rw [hl j hjl] at hun
        simpa using hun
      have hgt : pre.length < j := by
        rcases Nat.lt_or_ge pre.length j with h0 | h0
        · exact h0
        · have : j = pre.length := by omega
          exact (hnB (this ▸ g1 _ (by simp))).elim
      obtain ⟨m, rfl⟩ : ∃ m, j = pre.length + 1 + m := ⟨j - (pre.length + 1), by omega⟩
      have hlm : l[m]? = some oj := by
        rw [← Array.getElem?_toList, hops, List.getElem?_append_right (by omega)] at hoj
        rw [show pre.length + 1 + m - pre.length = m + 1 from by omega] at hoj
        simpa using hoj
      obtain ⟨s, hs, hor⟩ := g2 m oj hlm
      have hDj : D[pre.length + 1 + m]? = some s := by
        rw [hD, List.getElem?_append_right (by omega), hDl, show pre.length + 1 + m - pre.length = m + 1 from by omega]
        simpa using hs
      rcases hor with hw | ⟨hap, hin⟩
      · exact (hnB hw).elim
      · exact fun s s1 s1j q1 q2 => diamond hget hoj hDget hDj hap (indep_iff hin) s s1 s1j q1 q2
    · rw [← get_putO]
      refine LAny_lex hQ l (pre ++ [o]) (Dp ++ [Dt]) D2 (putO o.dst v fr) h1 _ (by simp [hops]) (by simp [hD]) (by simp [hDl]) ht2 hr2 ?_ ?_ (by simpa using hsz) ?_
      · simpa using ha.2
      · simpa using hb.2
      · intro j hj
        by_cases hjk : j = pre.length
        · subst hjk
          have : pre.length < listed.size := by omega
          simp [Array.getD, this]
        · rw [getD_set_ne true (Ne.symm hjk), hl j hj]
          simp; omega
end
end Go.Lh
end
section
namespace Go.Lh

theorem Rel.world {ρ : Ren} {I : Nat → Prop} {w w' : World} {h : Heap} {F : Nat → Prop} (R : Rel ρ I w h F) (e : w'.heap = w.heap) : Rel ρ I w' h F where
  blk i b hb hd := by
    obtain ⟨l, h1, ⟨⟨C, el, fz, m1, m2, m3, m4⟩, h3⟩, h4⟩ := R.blk i b hb hd
    refine ⟨l, h1, ⟨⟨C, el, fz, by rw [e]; exact m1, m2, m3, fun o ho => ?_⟩, h3⟩, h4⟩
    obtain ⟨c, c1, c2⟩ := m4 o ho
    exact ⟨c, c1, c2.mono (fun _ h => h) (fun _ _ => by rw [e]) _ (fun _ _ h => h)⟩
  free := R.free
  out := R.out
  apart := R.apart
  lt b hb := by rw [e]; exact R.lt b hb

theorem FRel.world {ρ : Ren} {I : Nat → Prop} {w w' : World} {g : Fm} {a : Act} (F : FRel I w ρ g a) (e : w'.heap = w.heap) : FRel I w' ρ g a :=
  fun t v h => (F t v h).mono (fun _ h => h) (fun _ _ => by rw [e]) _ (fun _ _ h => h)

theorem Went.world {ρ : Ren} {I : Nat → Prop} {w w' : World} {h : Heap} (e : w'.heap = w.heap) (e1 : w'.os = w.os) (e2 : w'.tape = w.tape) (e3 : w'.output = w.output) : Went ρ I w h ρ I w' h :=
  ⟨fun _ _ h => h, fun _ h => h, e1, e2, e3, by rw [e]; exact Nat.le_refl _, fun _ _ _ => by rw [e], fun _ h => .inl h, fun _ h => .inl h⟩

theorem pad_get {h : Heap} {n i : Nat} {b : Blk} (hb : (h ++ List.replicate n Blk.dead)[i]? = some b) (hd : b ≠ .dead) : h[i]? = some b := by
  rcases Nat.lt_or_ge i h.length with hlt | hge
  · rwa [List.getElem?_append_left hlt] at hb
  · rw [List.getElem?_append_right hge] at hb
    have := List.mem_of_getElem? hb
    rw [List.mem_replicate] at this
    exact (hd this.2).elim

theorem Rel.pad {ρ : Ren} {I : Nat → Prop} {w : World} {h : Heap} {F : Nat → Prop} (R : Rel ρ I w h F) (n : Nat) : Rel ρ I w (h ++ List.replicate n .dead) (fun i => h.length ≤ i) where
  blk i b hb hd := R.blk i b (pad_get hb hd) hd
  free i hi := R.out i hi
  out i hi := R.out i (by simp at hi; omega)
  apart i j x y l l' hij hx hxd hy hyd := R.apart i j x y l l' hij (pad_get hx hxd) hxd (pad_get hy hyd) hyd
  lt := R.lt

theorem Went.pad (ρ : Ren) (I : Nat → Prop) (w : World) (h : Heap) (n : Nat) : Went ρ I w h ρ I w (h ++ List.replicate n .dead) :=
  ⟨fun _ _ h => h, fun _ h => h, rfl, rfl, rfl, Nat.le_refl _, fun _ _ _ => rfl, fun _ ⟨i, x, l, h1, h2, h3⟩ => .inl ⟨i, x, l, pad_get h1 h2, h2, h3⟩, fun _ h => .inl h⟩

section
variable {P : Program} {O : Orc} {N : Nat}

def FreeOf (P : Program) (ops : Array Oper) (base : Nat) (listed : Array Bool) : Nat → Prop := fun i =>
  ∃ k o, ops[k]? = some o ∧ Op.makes P o.op = true ∧ listed.getD k true = false ∧ i = mkIdx P ops base k

theorem nMakes_take (P : Program) {l : List Oper} {k : Nat} {o : Oper} (h : l[k]? = some o) (hm : Op.makes P o.op = true) : nMakes P (l.take (k + 1)) = nMakes P (l.take k) + 1 := by
  rw [List.take_add_one, h, Option.toList_some, nMakes_append]
  simp [nMakes, hm]

theorem nMakes_take_le (P : Program) (l : List Oper) {i j : Nat} (h : i ≤ j) : nMakes P (l.take i) ≤ nMakes P (l.take j) := by
  obtain ⟨d, rfl⟩ := Nat.le.dest h
  rw [List.take_add, nMakes_append]
  omega

theorem nMakes_take_all (P : Program) (l : List Oper) (i : Nat) : nMakes P (l.take i) ≤ nMakes P l := by
  conv => rhs; rw [← List.take_append_drop i l, nMakes_append]
  omega

theorem mkIdx_lt {ops : Array Oper} {base i j : Nat} {o : Oper} (h : ops[i]? = some o) (hm : Op.makes P o.op = true) (hij : i < j) : mkIdx P ops base i < mkIdx P ops base j := by
  unfold mkIdx
  have h1 := nMakes_take P (l := ops.toList) (k := i) (by rw [Array.getElem?_toList]; exact h) hm
  have h2 := nMakes_take_le P ops.toList (i := i + 1) (j := j) hij
  omega

theorem mkIdx_top {ops : Array Oper} {base i : Nat} {o : Oper} (h : ops[i]? = some o) (hm : Op.makes P o.op = true) : mkIdx P ops base i < base + nMakes P ops.toList := by
  unfold mkIdx
  have h1 := nMakes_take P (l := ops.toList) (k := i) (by rw [Array.getElem?_toList]; exact h) hm
  have h2 := nMakes_take_all P ops.toList (i + 1)
  omega

theorem getD_false_set {l : Array Bool} {i k : Nat} (hk : k < l.size) (h : (l.setIfInBounds i true).getD k true = false) : k ≠ i ∧ l.getD k true = false := by
  by_cases e : i = k
  · subst e; simp [Array.getD, hk] at h
  · rw [getD_set_ne true e] at h; exact ⟨Ne.symm e, h⟩

theorem wpAny_of_LAny (hO : OrcSound P O) {ops : Array Oper} {D : List Tch} {base : Nat} (Q : Exit → Act → World → Prop) (Ql : LSt → Prop)
    (hin : ∀ d, d ∈ ops.toList.filterMap (·.dst) → d < N) :
    ∀ (fuel : Nat) (listed : Array Bool) (g : Fm) (h : Heap) (ρ : Ren) (I : Nat → Prop) (w : World) (a : Act), listed.size = ops.size →
      Sim N ρ I w a g h (FreeOf P ops base listed) → base + nMakes P ops.toList ≤ h.length → LAny ops (stC P O ops D base) Ql fuel listed (g, h) →
      (∀ ρ' I' w' a' g' h', Ql (g', h') → Sim N ρ' I' w' a' g' h' (fun _ => False) → Went ρ I w h ρ' I' w' h' → Q .normal a' w') →
      wpAny P .any ops Q fuel listed a w
  | 0, listed, g, h, ρ, I, w, a, _, S, _, H, hq =>
    ⟨H.1, hq ρ I w a g h H.2 ⟨S.size, S.defers, S.fr, S.rel.weaken (fun _ h => h.elim)⟩ (.refl _ _ _ _)⟩
  | fuel + 1, listed, g, h, ρ, I, w, a, hsz, S, hlen, H, hq => by
    refine ⟨fun e => hq ρ I w a g h (H.1 e) ⟨S.size, S.defers, S.fr, S.rel.weaken (fun _ h => h.elim)⟩ (.refl _ _ _ _), fun i hi => ?_⟩
    obtain ⟨⟨g1, h1⟩, hst, H'⟩ := H.2 i hi
    obtain ⟨hun, o, ho, _⟩ := mem_ready.1 hi
    have hilt : i < ops.size := (Array.getElem?_eq_some_iff.1 ho).1
    have hdst : ∀ d, o.dst = some d → d < N := fun d hd => hin d (List.mem_filterMap.2 ⟨o, Array.mem_toList_iff.2 (Array.mem_of_getElem? ho), hd⟩)
    have hFree : ∀ k, FreeOf P ops base (listed.setIfInBounds i true) k → FreeOf P ops base listed k ∧ (Op.makes P o.op = true → k ≠ mkIdx P ops base i) := by
      rintro k ⟨j, oj, hj, hmj, hlj, rfl⟩
      have hjs : j < listed.size := by rw [hsz]; exact (Array.getElem?_eq_some_iff.1 hj).1
      obtain ⟨hne, hlj'⟩ := getD_false_set hjs hlj
      refine ⟨⟨j, oj, hj, hmj, hlj', rfl⟩, fun hmi e => ?_⟩
      rcases Nat.lt_or_gt_of_ne hne with h0 | h0
      · have := mkIdx_lt (P := P) (base := base) hj hmj h0; omega
      · have := mkIdx_lt (P := P) (base := base) ho hmi h0; omega
    have hFlt : ∀ k, FreeOf P ops base listed k → k < base + nMakes P ops.toList := by
      rintro k ⟨j, oj, hj, hmj, hlj, rfl⟩
      exact mkIdx_top hj hmj
    unfold wpOp
    simp only [ho]
    unfold stC at hst
    simp only [ho] at hst
    split at hst <;> try simp only [reduceCtorEq] at hst
    rename_i o' t ho' ht
    simp only [Option.some.injEq] at ho'
    subst ho'
    split at hst <;> try simp only [reduceCtorEq] at hst
    · rename_i hw
      rw [want_sound (ops := ops) S.fr (by rw [S.size]; exact hin) hw]
      simp only [if_true]
      left
      split at hst <;> try simp only [reduceCtorEq] at hst
      rename_i R W c v h2 htch hstep
      split at hst <;> simp only [Option.some.injEq, Prod.mk.injEq, reduceCtorEq] at hst
      obtain ⟨rfl, rfl⟩ := hst
      have hle := stepO_len hstep
      obtain ⟨id2, hid2, hmk, hleft⟩ : ∃ id2, stepO P O (mkIdx P ops base i) g h o.op = stepO P O id2 g h o.op ∧ (Op.makes P o.op = true → FreeOf P ops base listed id2 ∧ h[id2]? = some .dead) ∧
          (∀ k, FreeOf P ops base (listed.setIfInBounds i true) k → FreeOf P ops base listed k ∧ k ≠ id2) := by
        cases hm : Op.makes P o.op with
        | true =>
          have hF : FreeOf P ops base listed (mkIdx P ops base i) := ⟨i, o, ho, hm, hun, rfl⟩
          exact ⟨_, rfl, fun _ => ⟨hF, dead_of_free S.rel hF (by have := hFlt _ hF; omega)⟩, fun k hk => ⟨(hFree k hk).1, (hFree k hk).2 hm⟩⟩
        | false =>
          exact ⟨h.length, stepO_idx hm, by simp, fun k hk => ⟨(hFree k hk).1, by have := hFlt _ (hFree k hk).1; omega⟩⟩
      rw [hid2] at hstep
      refine stepO_wp hO S.rel S.fr hmk hstep _ Q ?_ (fun _ e => by cases e)
      intro v' e w' ρ' I' u hu hR hW
      cases e
      have L := hW.le S.rel
      refine wpAny_of_LAny hO Q Ql hin fuel _ _ _ ρ' I' w' (a.put o.dst u) (by simpa using hsz)
        ⟨by rw [put_size]; exact S.size, by rw [put_defers]; exact S.defers, (S.fr.le L).put hu (fun d hd => by rw [S.size]; exact hdst d hd), hR.weaken (fun k hk => ?_)⟩
        (by omega) H' (fun ρ₂ I₂ w₂ a₂ g₂ h₂ e1 s1 w1 => hq ρ₂ I₂ w₂ a₂ g₂ h₂ e1 s1 (hW.trans w1))
      obtain ⟨q1, q2⟩ := hleft k hk
      refine ⟨q1, q2, ?_⟩
      have := hFlt k q1
      omega
    · rename_i hw
      rw [want_sound (ops := ops) S.fr (by rw [S.size]; exact hin) hw]
      simp only [Bool.false_eq_true, if_false]
      split at hst <;> simp only [Option.some.injEq, Prod.mk.injEq, reduceCtorEq] at hst
      obtain ⟨rfl, rfl⟩ := hst
      exact wpAny_of_LAny hO Q Ql hin fuel _ _ h ρ I w (a.put o.dst undef) (by simpa using hsz)
        ⟨by rw [put_size]; exact S.size, by rw [put_defers]; exact S.defers, S.fr.put (.tup _ _ _ (.nil _)) (fun d hd => by rw [S.size]; exact hdst d hd), S.rel.weaken (fun k hk => (hFree k hk).1)⟩
        hlen H' hq

theorem runRegion_sound (hO : OrcSound P O) {ops : Array Oper} {id : Nat} {draw : Bool} (hm : draw = true → P.follows .mixedOrders = true) (hin : ∀ d, d ∈ ops.toList.filterMap (·.dst) → d < N)
    {Q : Exit → Act → World → Prop} {ρ : Ren} {I : Nat → Prop} {w : World} {a : Act} {fr fr' : Fr} {h h' : Heap} {F : Nat → Prop} {x : Option V}
    (S : Sim N ρ I w a fr.get h F) (hr : runRegion P O ops draw fr h = some (true, x, fr', h'))
    (hq : ∀ ρ' I' w' a', x = none → Sim N ρ' I' w' a' fr'.get h' (fun _ => False) → Went ρ I w h ρ' I' w' h' → Q .normal a' w')
    (hp : ∀ v ρ' I' w' a' v', x = some v → VRel I' w' ρ' v v' → Sim N ρ' I' w' a' fr'.get h' (fun _ => False) → Went ρ I w h ρ' I' w' h' → Q (.panic [{ v := v', recovered := false }]) a' w') :
    (Code.region id ops draw).wp P Q a w := by
  unfold runRegion at hr
  simp only at hr
  have hl0 : h.length + nMakes P ops.toList ≤ (h ++ List.replicate (nMakes P ops.toList) Blk.dead).length := by simp
  split at hr
  · rename_i hd
    subst hd
    split at hr <;> try simp only [reduceCtorEq] at hr
    rename_i hok
    split at hr <;> try simp only [reduceCtorEq] at hr
    rename_i k r hrun
    simp only [Option.some.injEq, Prod.mk.injEq] at hr
    obtain ⟨rfl, rfl, rfl⟩ := hr
    refine wp_region_any (hm rfl) ?_
    unfold drawOk at hok
    simp only [Bool.and_eq_true] at hok
    obtain ⟨⟨_, hb⟩, hok⟩ := hok
    split at hok <;> try simp only [Bool.false_eq_true] at hok
    rename_i D ht
    have hL := LAny_lex (P := P) (O := O) (ops := ops) (base := h.length) (D := D) (Q := fun s => s = (fr'.get, h')) rfl ops.toList [] [] D fr _ (Array.replicate ops.size false) rfl rfl rfl ht hrun hok hb (by simp)
      (fun j hj => by simp [Array.getD, hj])
    refine wpAny_of_LAny (N := N) (P := P) (base := h.length) (D := D) hO Q (fun s => s = (fr'.get, h')) hin ops.size _ fr.get _ ρ I _ a (by simp) ⟨S.size, S.defers, S.fr.world rfl, ((S.rel.pad _).weaken ?_).world rfl⟩ hl0 ?_ ?_
    · rintro i ⟨k, o, _, _, _, rfl⟩
      unfold mkIdx; omega
    · simpa using hL
    · rintro ρ' I' w' a' g' h'' e s1 w1
      simp only [Prod.mk.injEq] at e
      obtain ⟨rfl, rfl⟩ := e
      exact hq ρ' I' w' a' rfl s1 ((Went.pad ρ I w h (nMakes P ops.toList)).trans (Went.trans (Went.world (w' := { w with drawn := w.drawn + 1 }) rfl rfl rfl rfl) w1))
  · rename_i hd
    have : draw = false := by simpa using hd
    subst this
    refine wp_region ?_
    have := runOps_sound (N := N) hO Q hin ops.toList [] h.length fr _ ρ I w a x fr' h' rfl ⟨S.size, S.defers, S.fr, (S.rel.pad _).weaken (fun i hi => hi.1)⟩ hl0 hr
      (fun ρ' I' w' a' e s1 w1 => hq ρ' I' w' a' e s1 ((Went.pad ρ I w h _).trans w1)) (fun v ρ' I' w' a' v' e r1 s1 w1 => hp v ρ' I' w' a' v' e r1 s1 ((Went.pad ρ I w h _).trans w1))
    simpa [List.range_eq_range'] using this
end
end Go.Lh
end
section
namespace Go.Lh

inductive X where
  | normal
  | exit (id : Nat)
  | ret
  | pan (v : V)

def loopN : Nat → (Fr → Heap → Option (Bool × X × Fr × Heap)) → Fr → Heap → Option (Bool × X × Fr × Heap)
  | 0, _, _, _ => none
  | n + 1, f, fr, h => match f fr h with
    | some (k, .normal, fr', h') => (match loopN n f fr' h' with
      | some (k', r) => some (k && k', r)
      | none => none)
    | r => r

/-- what is known of loops, by the first region's number in each -/
abbrev Loops := Nat → Fr → Heap → Option (Bool × X × Fr × Heap)
def noLoops : Loops := fun _ _ _ => none

def headId : Code → Option Nat
  | .region id _ _ => some id
  | .seq a b => (match headId a with | some i => some i | none => headId b)
  | .cond _ a b => (match headId a with | some i => some i | none => headId b)
  | .block _ c => headId c
  | .loop c => headId c
  | _ => none

def headNo (c : Code) : Nat := match headId c with | some i => i | none => 0

def loopsOf : Code → List Code
  | .seq a b => loopsOf a ++ loopsOf b
  | .cond _ a b => loopsOf a ++ loopsOf b
  | .block _ c => loopsOf c
  | .loop c => c :: loopsOf c
  | _ => []

/-- which way a branch at a slot is taken, where the caller of 'exec' says so -/
def decOf : List (Nat × Bool) → Operand → Option Bool
  | [], _ => none
  | (i, b) :: r, .tmp t => if Nat.beq i t then some b else decOf r (.tmp t)
  | _, _ => none

def execD (P : Program) (O : Orc) (L : Loops) (dec : List (Nat × Bool)) (fuel : Nat) : Code → Fr → Heap → Option (Bool × X × Fr × Heap)
  | .skip, fr, h => some (true, .normal, fr, h)
  | .region _ ops draw, fr, h => (match runRegion P O ops draw fr h with
    | some (k, none, fr', h') => some (k, .normal, fr', h')
    | some (k, some v, fr', h') => some (k, .pan v, fr', h')
    | none => none)
  | .seq a b, fr, h => (match execD P O L dec fuel a fr h with
    | some (k, .normal, fr', h') => (match execD P O L dec fuel b fr' h' with
      | some (k', r) => some (k && k', r)
      | none => none)
    | r => r)
  | .cond c x y, fr, h => (match opnd fr.get c with
    | some (.bool t) => (match decOf dec c with
      | some b => (match (if b then execD P O L dec fuel x fr h else execD P O L dec fuel y fr h) with
        | some (k, r) => some ((if b then t else !t) && k, r)
        | none => none)
      | none => if t then execD P O L dec fuel x fr h else execD P O L dec fuel y fr h)
    | _ => none)
  | .block id c, fr, h => (match execD P O L dec fuel c fr h with
    | some (k, .exit id', r) => if Nat.beq id' id then some (k, .normal, r) else some (k, .exit id', r)
    | r => r)
  | .loop c, fr, h => (match L (headNo c) fr h with
    | some r => some r
    | none => loopN fuel (execD P O L dec fuel c) fr h)
  | .exit id, fr, h => some (true, .exit id, fr, h)
  | .label _, fr, h => some (true, .normal, fr, h)
  | .ret, fr, h => some (true, .ret, fr, h)
  | _, _, _ => none

def exec (P : Program) (O : Orc) (L : Loops) (fuel : Nat) : Code → Fr → Heap → Option (Bool × X × Fr × Heap) := execD P O L [] fuel

def dstsIn (N : Nat) : Code → Bool
  | .region _ ops _ => ops.toList.all (dstIn N)
  | .seq a b => dstsIn N a && dstsIn N b
  | .cond _ a b => dstsIn N a && dstsIn N b
  | .block _ c => dstsIn N c
  | .loop c => dstsIn N c
  | _ => true

structure WentN (n0 : Nat) (ρ : Ren) (I : Nat → Prop) (w : World) (h : Heap) (ρ' : Ren) (I' : Nat → Prop) (w' : World) (h' : Heap) : Prop where
  ren : ∀ i l, i < n0 → ρ i = some l → ρ' i = some l
  imm : ∀ b, I b → I' b
  os : w'.os = w.os
  tape : w'.tape = w.tape
  output : w'.output = w.output
  size : w.heap.size ≤ w'.heap.size
  keep : ∀ b, b < w.heap.size → ¬ Own ρ h b → w'.heap[b]? = w.heap[b]?
  own : ∀ b, Own ρ' h' b → Own ρ h b ∨ w.heap.size ≤ b
  fresh : ∀ b, I' b → I b ∨ Own ρ h b ∨ w.heap.size ≤ b

theorem Went.toN {n0 : Nat} {ρ ρ' : Ren} {I I' : Nat → Prop} {w w' : World} {h h' : Heap} (a : Went ρ I w h ρ' I' w' h') : WentN n0 ρ I w h ρ' I' w' h' :=
  ⟨fun i l _ => a.ren i l, a.imm, a.os, a.tape, a.output, a.size, a.keep, a.own, a.fresh⟩

theorem WentN.trans {n0 : Nat} {ρ₁ ρ₂ ρ₃ : Ren} {I₁ I₂ I₃ : Nat → Prop} {w₁ w₂ w₃ : World} {h₁ h₂ h₃ : Heap} (a : WentN n0 ρ₁ I₁ w₁ h₁ ρ₂ I₂ w₂ h₂) (b : WentN n0 ρ₂ I₂ w₂ h₂ ρ₃ I₃ w₃ h₃) : WentN n0 ρ₁ I₁ w₁ h₁ ρ₃ I₃ w₃ h₃ where
  ren i l hi h := b.ren i l hi (a.ren i l hi h)
  imm x h := b.imm x (a.imm x h)
  os := b.os.trans a.os
  tape := b.tape.trans a.tape
  output := b.output.trans a.output
  size := Nat.le_trans a.size b.size
  keep x hx hn := by
    rw [b.keep x (Nat.lt_of_lt_of_le hx a.size) (fun ho => (a.own x ho).elim hn (fun h => by omega))]
    exact a.keep x hx hn
  own x hx := by
    rcases b.own x hx with h | h
    · exact a.own x h
    · exact .inr (Nat.le_trans a.size h)
  fresh x hx := by
    rcases b.fresh x hx with h | h | h
    · exact a.fresh x h
    · rcases a.own x h with h | h
      · exact .inr (.inl h)
      · exact .inr (.inr h)
    · exact .inr (.inr (Nat.le_trans a.size h))

def ERel (I : Nat → Prop) (w : World) (ρ : Ren) : X → Exit → Prop
  | .normal, e => e = .normal
  | .exit id, e => e = .exit id
  | .ret, e => e = .ret
  | .pan v, e => ∃ v', VRel I w ρ v v' ∧ e = .panic [{ v := v', recovered := false }]

theorem ERel.le {I I' : Nat → Prop} {w w' : World} {ρ ρ' : Ren} (L : Le ρ I w ρ' I' w') {x : X} {e : Exit} (h : ERel I w ρ x e) : ERel I' w' ρ' x e := by
  cases x with
  | pan v => obtain ⟨v', h1, h2⟩ := h; exact ⟨v', h1.le L, h2⟩
  | _ => exact h

def Runs (P : Program) (N n0 : Nat) (c : Code) (fr : Fr) (h : Heap) (R : X → Fr → Heap → Prop) : Prop :=
  ∀ (Q : Exit → Act → World → Prop) (ρ : Ren) (I : Nat → Prop) (w : World) (a : Act), Sim N ρ I w a fr.get h (fun _ => False) →
    (∀ x fr' h' ρ' I' w' a' e, R x fr' h' → ERel I' w' ρ' x e → Sim N ρ' I' w' a' fr'.get h' (fun _ => False) → WentN n0 ρ I w h ρ' I' w' h' → Q e a' w') → c.wp P Q a w

def thenX (K : Fr → Heap → Prop) (R : X → Fr → Heap → Prop) : X → Fr → Heap → Prop
  | .normal, fr, h => K fr h
  | x, fr, h => R x fr h

def inBlockX (id : Nat) (R : X → Fr → Heap → Prop) : X → Fr → Heap → Prop
  | .exit id', fr, h => if id' = id then R .normal fr h else R (.exit id') fr h
  | x, fr, h => R x fr h

section
variable {P : Program} {O : Orc} {N n0 : Nat} {fr : Fr} {h : Heap} {R R' : X → Fr → Heap → Prop}

theorem Runs.mono {c : Code} (H : Runs P N n0 c fr h R) (hR : ∀ x fr h, R x fr h → R' x fr h) : Runs P N n0 c fr h R' :=
  fun Q ρ I w a S K => H Q ρ I w a S fun x fr' h' ρ' I' w' a' e r => K x fr' h' ρ' I' w' a' e (hR _ _ _ r)

theorem WentN.refl {n0 : Nat} {ρ : Ren} {I : Nat → Prop} {w : World} {h : Heap} : WentN n0 ρ I w h ρ I w h := (Went.refl ρ I w h).toN

theorem Runs.skip (H : R .normal fr h) : Runs P N n0 .skip fr h R :=
  fun Q ρ I w a S K => wp_skip (K _ _ _ _ _ _ _ _ H rfl S .refl)

theorem Runs.label {l : Nat} (H : R .normal fr h) : Runs P N n0 (.label l) fr h R :=
  fun Q ρ I w a S K => wp_label (K _ _ _ _ _ _ _ _ H rfl S .refl)

theorem Runs.exit {id : Nat} (H : R (.exit id) fr h) : Runs P N n0 (.exit id) fr h R :=
  fun Q ρ I w a S K => wp_exit (K _ _ _ _ _ _ _ _ H rfl S .refl)

theorem Runs.ret (H : R .ret fr h) : Runs P N n0 .ret fr h R :=
  fun Q ρ I w a S K => wp_ret (K _ _ _ _ _ _ _ _ H rfl S .refl)

theorem Runs.seq {c d : Code} (H : Runs P N n0 c fr h (thenX (fun fr h => Runs P N n0 d fr h R) R)) : Runs P N n0 (.seq c d) fr h R := by
  intro Q ρ I w a S K
  refine wp_seq (H _ ρ I w a S ?_)
  intro x fr' h' ρ' I' w' a' e r er S' W
  cases x with
  | normal =>
    cases er
    exact r Q ρ' I' w' a' S' fun x₂ fr₂ h₂ ρ₂ I₂ w₂ a₂ e₂ r₂ er₂ s₂ W₂ => K x₂ fr₂ h₂ ρ₂ I₂ w₂ a₂ e₂ r₂ er₂ s₂ (W.trans W₂)
  | exit id => cases er; exact K _ _ _ _ _ _ _ _ r rfl S' W
  | ret => cases er; exact K _ _ _ _ _ _ _ _ r rfl S' W
  | pan v => obtain ⟨v', hv, rfl⟩ := er; exact K _ _ _ _ _ _ _ _ r ⟨v', hv, rfl⟩ S' W

theorem Runs.cond {o : Operand} {x y : Code} {t : Bool} (ho : opnd fr.get o = some (.bool t)) (H : Runs P N n0 (if t then x else y) fr h R) : Runs P N n0 (.cond o x y) fr h R := by
  intro Q ρ I w a S K
  have r := opnd_sound S.fr ho
  cases hv : a.eval o <;> rw [hv] at r <;> cases r
  exact wp_cond hv (H Q ρ I w a S K)

theorem Runs.block {id : Nat} {c : Code} (H : Runs P N n0 c fr h (inBlockX id R)) : Runs P N n0 (.block id c) fr h R := by
  intro Q ρ I w a S K
  refine wp_block (H _ ρ I w a S ?_)
  intro x fr' h' ρ' I' w' a' e r er S' W
  cases x with
  | normal => cases er; exact K _ _ _ _ _ _ _ _ r rfl S' W
  | exit id' =>
    cases er
    simp only [inBlockX] at r
    simp only [Exit.inBlock]
    split
    · rename_i he; rw [if_pos he] at r; exact K _ _ _ _ _ _ _ _ r rfl S' W
    · rename_i he; rw [if_neg he] at r; exact K _ _ _ _ _ _ _ _ r rfl S' W
  | ret => cases er; exact K _ _ _ _ _ _ _ _ r rfl S' W
  | pan v => obtain ⟨v', hv, rfl⟩ := er; exact K _ _ _ _ _ _ _ _ r ⟨v', hv, rfl⟩ S' W

/-- another way to tell the state: some slots and blocks forgotten, the blocks beyond n0 renumbered -/
def Weaker (N n0 : Nat) (fr : Fr) (h : Heap) (fr' : Fr) (h' : Heap) : Prop :=
  ∀ (ρ : Ren) (I : Nat → Prop) (w : World) (a : Act), Sim N ρ I w a fr.get h (fun _ => False) → ∃ ρ', Sim N ρ' I w a fr'.get h' (fun _ => False) ∧ WentN n0 ρ I w h ρ' I w h'

theorem Weaker.refl : Weaker N n0 fr h fr h := fun ρ _ _ _ S => ⟨ρ, S, .refl⟩

theorem Weaker.trans {f₁ f₂ f₃ : Fr} {h₁ h₂ h₃ : Heap} (a : Weaker N n0 f₁ h₁ f₂ h₂) (b : Weaker N n0 f₂ h₂ f₃ h₃) : Weaker N n0 f₁ h₁ f₃ h₃ := fun ρ I w x S => by
  obtain ⟨ρ', s1, w1⟩ := a ρ I w x S
  obtain ⟨ρ₂, s2, w2⟩ := b ρ' I w x s1
  exact ⟨ρ₂, s2, w1.trans w2⟩

theorem Runs.weaken {c : Code} {fr' : Fr} {h' : Heap} (Wk : Weaker N n0 fr h fr' h') (H : Runs P N n0 c fr' h' R) : Runs P N n0 c fr h R := by
  intro Q ρ I w a S K
  obtain ⟨ρ', s1, w1⟩ := Wk ρ I w a S
  exact H Q ρ' I w a s1 fun x fr₂ h₂ ρ₂ I₂ w₂ a₂ e₂ r₂ er₂ s₂ W₂ => K x fr₂ h₂ ρ₂ I₂ w₂ a₂ e₂ r₂ er₂ s₂ (w1.trans W₂)

theorem least_of {p : Nat → Prop} (n : Nat) (h : p n) : ∃ m, p m ∧ ∀ k, p k → m ≤ k := by
  induction n using Nat.strongRecOn with
  | _ n ih =>
    by_cases e : ∃ k, k < n ∧ p k
    · obtain ⟨k, h1, h2⟩ := e; exact ih k h1 h2
    · exact ⟨n, h, fun k hk => Nat.le_of_not_lt fun hlt => e ⟨k, hlt, hk⟩⟩

open Classical in
noncomputable def leastN (p : Nat → Prop) : Nat := if h : ∃ m, p m ∧ ∀ k, p k → m ≤ k then h.choose else 0

theorem leastN_spec {p : Nat → Prop} {n : Nat} (h : p n) : p (leastN p) ∧ ∀ k, p k → leastN p ≤ k := by
  have e := least_of n h
  unfold leastN
  rw [dif_pos e]
  exact e.choose_spec

theorem wp_loop_idx {c : Code} {Q : Exit → Act → World → Prop} {a : Act} {w : World} {n : Nat} (I : Nat → Act → World → Prop) (h₀ : I n a w)
    (round : ∀ n a w, I n a w → c.wp P (Exit.then (fun a' w' => ∃ m, m < n ∧ I m a' w') Q) a w) : (Code.loop c).wp P Q a w := by
  refine wp_loop (fun a w => ∃ n, I n a w) (fun a w => leastN fun n => I n a w) ⟨n, h₀⟩ ?_
  rintro a w ⟨n, hn⟩
  obtain ⟨h1, h2⟩ := leastN_spec (p := fun n => I n a w) hn
  refine wp_mono (round _ a w h1) ?_
  intro e a' w' h
  cases e with
  | normal =>
    obtain ⟨m, hm, hI⟩ := h
    exact ⟨⟨m, hI⟩, Nat.lt_of_le_of_lt ((leastN_spec (p := fun n => I n a' w') hI).2 m hI) hm⟩
  | _ => exact h

/-- a loop: J holds at the head of each round, up to weakening; n falls -/
theorem Runs.loop {c : Code} (J : Nat → Fr → Heap → Prop) {n : Nat} (h0 : J n fr h)
    (round : ∀ n fr h, J n fr h → Runs P N n0 c fr h (thenX (fun fr' h' => ∃ m fr₂ h₂, m < n ∧ J m fr₂ h₂ ∧ Weaker N n0 fr' h' fr₂ h₂) R)) : Runs P N n0 (.loop c) fr h R := by
  intro Q ρ₀ I₀ w₀ a₀ S₀ K
  refine wp_loop_idx (fun n a w => ∃ fr₁ h₁ ρ₁ I₁, J n fr₁ h₁ ∧ Sim N ρ₁ I₁ w a fr₁.get h₁ (fun _ => False) ∧ WentN n0 ρ₀ I₀ w₀ h ρ₁ I₁ w h₁) ⟨fr, h, ρ₀, I₀, h0, S₀, .refl⟩ ?_
  rintro n a w ⟨fr₁, h₁, ρ₁, I₁, hJ, S₁, W₁⟩
  refine round n fr₁ h₁ hJ _ ρ₁ I₁ w a S₁ ?_
  intro x fr' h' ρ' I' w' a' e r er S' W
  cases x with
  | normal =>
    cases er
    obtain ⟨m, fr₂, h₂, hm, hJ₂, Wk⟩ := r
    obtain ⟨ρ₂, S₂, W₂⟩ := Wk ρ' I' w' a' S'
    exact ⟨m, hm, fr₂, h₂, ρ₂, I', hJ₂, S₂, (W₁.trans W).trans W₂⟩
  | exit id => cases er; exact K _ _ _ _ _ _ _ _ r rfl S' (W₁.trans W)
  | ret => cases er; exact K _ _ _ _ _ _ _ _ r rfl S' (W₁.trans W)
  | pan v => obtain ⟨v', hv, rfl⟩ := er; exact K _ _ _ _ _ _ _ _ r ⟨v', hv, rfl⟩ S' (W₁.trans W)

/-- an end, told in another way -/
def EndW (N n0 : Nat) (x : X) (fr : Fr) (h : Heap) : X → Fr → Heap → Prop := fun y f k => y = x ∧ match x with
  | .pan _ => f = fr ∧ k = h
  | _ => Weaker N n0 f k fr h

theorem EndW.rfl {x : X} : EndW N n0 x fr h x fr h := by
  refine ⟨.refl _, ?_⟩
  cases x with
  | pan _ => exact ⟨.refl _, .refl _⟩
  | _ => exact .refl

/-! ### runs by reckoning -/

/-- what is said of a loop is so -/
def LoopOk (P : Program) (N n0 : Nat) (L : Loops) (c : Code) : Prop :=
  ∀ fr h x fr' h', L (headNo c) fr h = some (true, x, fr', h') → Runs P N n0 (.loop c) fr h (EndW N n0 x fr' h')

theorem execD_sound (hO : OrcSound P O) (hm : P.follows .mixedOrders = true) {L : Loops} {dec : List (Nat × Bool)} {fuel : Nat} : ∀ (c : Code) (_ : ∀ d, d ∈ loopsOf c → LoopOk P N n0 L d) (fr : Fr) (h : Heap) (x : X) (fr' : Fr) (h' : Heap), dstsIn N c = true →
    execD P O L dec fuel c fr h = some (true, x, fr', h') → Runs P N n0 c fr h (EndW N n0 x fr' h') := by
  intro c
  induction c with
  | skip => intro hL fr h x fr' h' _ hx; simp only [execD, Option.some.injEq, Prod.mk.injEq, true_and] at hx; obtain ⟨rfl, rfl, rfl⟩ := hx; exact .skip .rfl
  | label l => intro hL fr h x fr' h' _ hx; simp only [execD, Option.some.injEq, Prod.mk.injEq, true_and] at hx; obtain ⟨rfl, rfl, rfl⟩ := hx; exact .label .rfl
  | exit id => intro hL fr h x fr' h' _ hx; simp only [execD, Option.some.injEq, Prod.mk.injEq, true_and] at hx; obtain ⟨rfl, rfl, rfl⟩ := hx; exact .exit .rfl
  | ret => intro hL fr h x fr' h' _ hx; simp only [execD, Option.some.injEq, Prod.mk.injEq, true_and] at hx; obtain ⟨rfl, rfl, rfl⟩ := hx; exact .ret .rfl
  | goto _ => intro hL fr h x fr' h' _ hx; simp [execD] at hx
  | refuse _ => intro hL fr h x fr' h' _ hx; simp [execD] at hx
  | scope _ _ => intro hL fr h x fr' h' _ hx; simp [execD] at hx
  | rangeFunc => intro hL fr h x fr' h' _ hx; simp [execD] at hx
  | region id ops draw =>
    intro hL fr h x fr' h' hd hx Q ρ I w a S K
    have hin : ∀ d, d ∈ ops.toList.filterMap (·.dst) → d < N := by
      intro d hd'
      obtain ⟨o, ho, hod⟩ := List.mem_filterMap.1 hd'
      exact dstIn_iff (List.all_eq_true.1 hd o ho) d hod
    simp only [execD] at hx
    split at hx <;> simp only [Option.some.injEq, Prod.mk.injEq, reduceCtorEq] at hx
    · rename_i k f1 h1 hr
      obtain ⟨rfl, rfl, rfl, rfl⟩ := hx
      exact runRegion_sound hO (fun _ => hm) hin S hr (fun ρ' I' w' a' _ s w1 => K .normal _ _ ρ' I' w' a' .normal .rfl rfl s w1.toN) (fun v ρ' I' w' a' v' e => by cases e)
    · rename_i k v f1 h1 hr
      obtain ⟨rfl, rfl, rfl, rfl⟩ := hx
      exact runRegion_sound hO (fun _ => hm) hin S hr (fun ρ' I' w' a' e => by cases e) (fun v ρ' I' w' a' v' e hv s w1 => by cases e; exact K (.pan _) _ _ ρ' I' w' a' _ .rfl ⟨v', hv, rfl⟩ s w1.toN)
  | seq a b iha ihb =>
    intro hL fr h x fr' h' hd hx
    simp only [dstsIn, Bool.and_eq_true] at hd
    simp only [execD] at hx
    refine .seq ?_
    split at hx
    · rename_i k f1 h1 ha
      split at hx <;> simp only [Option.some.injEq, Prod.mk.injEq, Bool.and_eq_true, reduceCtorEq] at hx
      rename_i k' r hb
      obtain ⟨⟨rfl, rfl⟩, rfl⟩ := hx
      refine (iha (fun d hd => hL d (by simp [loopsOf, hd])) _ _ _ _ _ hd.1 ha).mono ?_
      rintro x f k ⟨rfl, hw⟩
      exact (ihb (fun d hd => hL d (by simp [loopsOf, hd])) _ _ _ _ _ hd.2 hb).weaken hw
    · rename_i hne
      refine (iha (fun d hd => hL d (by simp [loopsOf, hd])) _ _ _ _ _ hd.1 hx).mono ?_
      rintro y f k ⟨rfl, hw⟩
      cases y with
      | normal => exact (hne _ _ _ hx).elim
      | exit _ => exact ⟨rfl, hw⟩
      | ret => exact ⟨rfl, hw⟩
      | pan _ => exact ⟨rfl, hw⟩
  | cond o a b iha ihb =>
    intro hL fr h x fr' h' hd hx
    simp only [dstsIn, Bool.and_eq_true] at hd
    simp only [execD] at hx
    split at hx <;> try simp only [reduceCtorEq] at hx
    rename_i t ho
    refine .cond ho ?_
    split at hx
    · rename_i b hb
      split at hx <;> simp only [Option.some.injEq, Prod.mk.injEq, Bool.and_eq_true, reduceCtorEq] at hx
      rename_i k r hr
      obtain ⟨⟨ht, rfl⟩, rfl⟩ := hx
      cases b with
      | true =>
        simp only [if_true] at ht hr; subst ht
        exact iha (fun d hd => hL d (by simp [loopsOf, hd])) _ _ _ _ _ hd.1 hr
      | false =>
        simp only [Bool.false_eq_true, if_false, Bool.not_eq_true'] at ht hr; subst ht
        exact ihb (fun d hd => hL d (by simp [loopsOf, hd])) _ _ _ _ _ hd.2 hr
    cases t with
    | true => exact iha (fun d hd => hL d (by simp [loopsOf, hd])) _ _ _ _ _ hd.1 hx
    | false => exact ihb (fun d hd => hL d (by simp [loopsOf, hd])) _ _ _ _ _ hd.2 hx
  | block id c ih =>
    intro hL fr h x fr' h' hd hx
    simp only [execD] at hx
    refine .block ?_
    split at hx
    · rename_i k id' r hc
      split at hx <;> simp only [Option.some.injEq, Prod.mk.injEq] at hx <;> obtain ⟨rfl, rfl, rfl⟩ := hx <;> refine (ih (fun d hd => hL d (by simp [loopsOf, hd])) _ _ _ _ _ hd hc).mono ?_ <;> rintro y f k ⟨rfl, hw⟩
      · rename_i he
        simp only [inBlockX]; rw [if_pos (Nat.eq_of_beq_eq_true he)]; exact ⟨.refl _, hw⟩
      · rename_i he
        simp only [inBlockX]; rw [if_neg (fun e => he (by rw [e]; exact Nat.beq_refl _))]; exact ⟨.refl _, hw⟩
    · rename_i hne
      refine (ih (fun d hd => hL d (by simp [loopsOf, hd])) _ _ _ _ _ hd hx).mono ?_
      rintro y f k ⟨rfl, hw⟩
      cases y with
      | exit _ => exact (hne _ _ _ hx).elim
      | normal => exact ⟨.refl _, hw⟩
      | ret => exact ⟨.refl _, hw⟩
      | pan _ => exact ⟨.refl _, hw⟩
  | loop c ih =>
    intro hL fr h x fr' h' hd hx
    simp only [execD] at hx
    split at hx
    · rename_i r hr
      simp only [Option.some.injEq] at hx
      subst hx
      exact hL c (by simp [loopsOf]) _ _ _ _ _ hr
    refine .loop (fun n f k => loopN n (execD P O L dec fuel c) f k = some (true, x, fr', h')) hx ?_
    intro n f k hn
    cases n with
    | zero => simp [loopN] at hn
    | succ n =>
      simp only [loopN] at hn
      split at hn
      · rename_i q f1 h1 hb
        split at hn <;> simp only [Option.some.injEq, Prod.mk.injEq, Bool.and_eq_true, reduceCtorEq] at hn
        rename_i k' r hrest
        obtain ⟨⟨rfl, rfl⟩, rfl⟩ := hn
        refine (ih (fun d hd => hL d (by simp [loopsOf, hd])) _ _ _ _ _ hd hb).mono ?_
        rintro y f k ⟨rfl, hw⟩
        exact ⟨n, _, _, Nat.lt_succ_self n, hrest, hw⟩
      · rename_i hne
        refine (ih (fun d hd => hL d (by simp [loopsOf, hd])) _ _ _ _ _ hd hn).mono ?_
        rintro y f k ⟨rfl, hw⟩
        cases y with
        | normal => exact (hne _ _ _ hn).elim
        | exit _ => exact ⟨.refl _, hw⟩
        | ret => exact ⟨.refl _, hw⟩
        | pan _ => exact ⟨.refl _, hw⟩

theorem exec_sound (hO : OrcSound P O) (hm : P.follows .mixedOrders = true) {L : Loops} {fuel : Nat} (c : Code) (hL : ∀ d, d ∈ loopsOf c → LoopOk P N n0 L d) (fr : Fr) (h : Heap) (x : X) (fr' : Fr) (h' : Heap) (hd : dstsIn N c = true)
    (hx : exec P O L fuel c fr h = some (true, x, fr', h')) : Runs P N n0 c fr h (EndW N n0 x fr' h') := execD_sound hO hm c hL fr h x fr' h' hd hx
end
end Go.Lh
end
section
namespace Go.Lh

/-- a state told by fewer blocks and slots -/
def upto : Nat → List Nat
  | 0 => []
  | n + 1 => upto n ++ [n]

def prefixOk (rd : List Nat) : Nat → Bool
  | 0 => true
  | n + 1 => (match rd[n]? with | some i => Nat.beq i n | none => false) && prefixOk rd n

theorem prefixOk_iff {rd : List Nat} : ∀ {n : Nat}, prefixOk rd n = true → ∀ k, k < n → rd[k]? = some k
  | 0, _, k, hk => by omega
  | n + 1, h, k, hk => by
    simp only [prefixOk, Bool.and_eq_true] at h
    by_cases e : k = n
    · subst e
      have := h.1
      split at this
      · rename_i i hi; rw [hi, Nat.eq_of_beq_eq_true this]
      · cases this
    · exact prefixOk_iff h.2 k (by omega)

def nodupN : List Nat → Bool
  | [] => true
  | i :: r => !memN i r && nodupN r

theorem nodupN_iff : ∀ {l : List Nat}, nodupN l = true → l.Nodup
  | [], _ => .nil
  | i :: r, h => by
    simp only [nodupN, Bool.and_eq_true, Bool.not_eq_true'] at h
    refine List.nodup_cons.2 ⟨fun hm => ?_, nodupN_iff h.2⟩
    rw [(memN_iff i r).2 hm] at h
    cases h.1

def subRen (rd : List Nat) (ρ : Ren) : Ren := fun k => match rd[k]? with | some i => ρ i | none => none

section
variable {P : Program} {O : Orc} {N n0 : Nat} {fr : Fr} {h : Heap} {R R' : X → Fr → Heap → Prop} {I : Nat → Prop} {w : World} {ρ : Ren} {F : Nat → Prop}

theorem sub_rel {rd : List Nat} {hs2 : Heap} (hnd : rd.Nodup) (R : Rel ρ I w h F) (hsub : subHeap h (posOf rd) rd = some hs2) :
    (∀ i k q, posOf rd i = some k → ρ i = some q → subRen rd ρ k = some q) ∧ Rel (subRen rd ρ) I w hs2 (fun i => hs2.length ≤ i) ∧ ∀ b, Own (subRen rd ρ) hs2 b → Own ρ h b := by
  obtain ⟨sl, sg⟩ := subHeap_get hsub
  have hτ : ∀ i k q, posOf rd i = some k → ρ i = some q → subRen rd ρ k = some q := by
    intro i k q hk hq
    simp only [subRen, posOf_get hk, hq]
  have rdloc : ∀ (k i : Nat), rd[k]? = some i → ∃ (b : Blk) (q : Loc), h[i]? = some b ∧ b ≠ .dead ∧ ρ i = some q ∧ BRel I w ρ q b ∧ ¬ I q.b := by
    intro k i hk
    obtain ⟨b, _, hb, hd, _⟩ := sg k i hk
    have hne : b ≠ .dead := by rintro rfl; simp [isDead] at hd
    obtain ⟨q, h1, h2, h3⟩ := R.blk i b hb hne
    exact ⟨b, q, hb, hne, h1, h2, h3⟩
  refine ⟨hτ, ?_, ?_⟩
  · have hout : ∀ i, hs2.length ≤ i → subRen rd ρ i = none := by
      intro i hi
      simp only [subRen]
      rw [List.getElem?_eq_none (by omega)]
    refine ⟨?_, hout, hout, ?_, R.lt⟩
    · intro k b hb hne
      have hk : k < rd.length := by rw [← sl]; exact (List.getElem?_eq_some_iff.1 hb).1
      have hki : rd[k]? = some rd[k] := List.getElem?_eq_getElem hk
      obtain ⟨c, c', hc, hcd, hcr, hck⟩ := sg k _ hki
      rw [hb] at hck; cases hck
      have hne : c ≠ .dead := by rintro rfl; simp [isDead] at hcd
      obtain ⟨q, h1, h2, h3⟩ := R.blk _ c hc hne
      exact ⟨q, by simp only [subRen, hki, h1], renB_sound hτ hcr h2, h3⟩
    · intro i j x y li lj hij hx hxd hy hyd hli hlj
      have hi : i < rd.length := by rw [← sl]; exact (List.getElem?_eq_some_iff.1 hx).1
      have hj : j < rd.length := by rw [← sl]; exact (List.getElem?_eq_some_iff.1 hy).1
      have hki := List.getElem?_eq_getElem hi
      have hkj := List.getElem?_eq_getElem hj
      obtain ⟨b1, q1, a1, a2, a3, _⟩ := rdloc i _ hki
      obtain ⟨b2, q2, c1, c2, c3, _⟩ := rdloc j _ hkj
      simp only [subRen, hki] at hli
      simp only [subRen, hkj] at hlj
      exact R.apart _ _ b1 b2 li lj (fun (e : rd[i] = rd[j]) => hij (nodup_inj hnd hki (by rw [e]; exact hkj))) a1 a2 c1 c2 hli hlj
  · rintro b ⟨k, x, q, hx, hxd, hq, rfl⟩
    have hk : k < rd.length := by rw [← sl]; exact (List.getElem?_eq_some_iff.1 hx).1
    have hki := List.getElem?_eq_getElem hk
    obtain ⟨c, q2, a1, a2, a3, _⟩ := rdloc k _ hki
    simp only [subRen, hki] at hq
    exact ⟨_, c, q, a1, a2, hq, rfl⟩

theorem sub_went {rd : List Nat} {hs2 : Heap} (hp : prefixOk rd n0 = true) (ho : ∀ b, Own (subRen rd ρ) hs2 b → Own ρ h b) : WentN n0 ρ I w h (subRen rd ρ) I w hs2 where
  ren i l hi hl := by simp only [subRen, prefixOk_iff hp i hi, hl]
  imm _ h := h
  os := rfl
  tape := rfl
  output := rfl
  size := Nat.le_refl _
  keep _ _ _ := rfl
  own b hb := .inl (ho b hb)
  fresh _ hb := .inl hb

def subFr (τ : Nat → Option Nat) (fr : Fr) : List Nat → Option Fr
  | [] => some []
  | t :: r => match fr.get t, subFr τ fr r with
    | some v, some l => (match renV τ v with | some u => some ((t, u) :: l) | none => none)
    | _, _ => none

theorem subFr_get {τ : Nat → Option Nat} {fr : Fr} : ∀ {ts : List Nat} {f2 : Fr}, subFr τ fr ts = some f2 → ∀ t u, f2.get t = some u → ∃ v, fr.get t = some v ∧ renV τ v = some u
  | [], f2, h, t, u, hu => by simp only [subFr, Option.some.injEq] at h; subst h; simp [Fr.get] at hu
  | x :: r, f2, h, t, u, hu => by
    simp only [subFr] at h
    split at h <;> try simp only [reduceCtorEq] at h
    rename_i v l hv hl
    split at h <;> simp only [Option.some.injEq, reduceCtorEq] at h
    rename_i y hy
    subst h
    simp only [Fr.get] at hu
    split at hu
    · rename_i e
      have := Nat.eq_of_beq_eq_true e
      subst this
      cases hu
      exact ⟨v, hv, hy⟩
    · exact subFr_get hl t u hu

/-- the state, told by the blocks rd and the slots ts -/
def tell (n0 : Nat) (rd ts : List Nat) (fr : Fr) (h : Heap) : Option (Fr × Heap) :=
  if nodupN rd && prefixOk rd n0 then (match subFr (posOf rd) fr ts, subHeap h (posOf rd) rd with
    | some f, some k => some (f, k)
    | _, _ => none) else none

theorem tell_weaker {rd ts : List Nat} {f2 : Fr} {h2 : Heap} (ht : tell n0 rd ts fr h = some (f2, h2)) : Weaker N n0 fr h f2 h2 := by
  unfold tell at ht
  split at ht <;> try simp only [reduceCtorEq] at ht
  rename_i hc
  rw [Bool.and_eq_true] at hc
  split at ht <;> simp only [Option.some.injEq, Prod.mk.injEq, reduceCtorEq] at ht
  rename_i f k hf hk
  obtain ⟨rfl, rfl⟩ := ht
  intro ρ I w a S
  obtain ⟨h1, h2, h3⟩ := sub_rel (nodupN_iff hc.1) S.rel hk
  refine ⟨subRen rd ρ, ⟨S.size, S.defers, ?_, h2.weaken (fun _ h => h.elim)⟩, sub_went hc.2 h3⟩
  intro t u hu
  obtain ⟨v, hv, hr⟩ := subFr_get hf t u hu
  exact renV_sound h1 (S.fr t v hv) hr

/-! ### functions -/

def argsFr : Nat → List V → Fr
  | _, [] => []
  | i, v :: r => (i, v) :: argsFr (i + 1) r

theorem argsFr_get : ∀ (l : List V) (i t : Nat) (v : V), (argsFr i l).get t = some v → i ≤ t ∧ l[t - i]? = some v
  | [], i, t, v, h => by simp [argsFr, Fr.get] at h
  | x :: r, i, t, v, h => by
    simp only [argsFr, Fr.get] at h
    split at h
    · rename_i e
      have := Nat.eq_of_beq_eq_true e
      subst this
      cases h
      exact ⟨Nat.le_refl _, by simp⟩
    · obtain ⟨h1, h2⟩ := argsFr_get r (i + 1) t v h
      refine ⟨by omega, ?_⟩
      rw [show t - i = (t - (i + 1)) + 1 from by omega]
      simpa using h2

def resOne (P : Program) (g : Fm) (h : Heap) : ResultVar → Option (Bool × V)
  | .tmp t => (match g t with | some v => some (true, v) | none => none)
  | .cell a t => (match g a, isAggT P t, sizeT P t with
    | some (.ptr i o), some true, some n => (match h[i]? with
      | some b => if isDead b then none else some (decide (o + n ≤ b.len), .agg (b.atN o n))
      | none => none)
    | some (.ptr i o), some false, some _ => (match h[i]? with
      | some b => if isDead b then none else some (decide (o < b.len), b.at o)
      | none => none)
    | _, _, _ => none)

def resRun (P : Program) (w : World) (a : Act) (r : ResultVar) (v' : Value) : Prop :=
  match r with
  | .tmp t => a.tmps.getD t undef = v'
  | .cell x t => ∃ ad, (asAddr (a.tmps.getD x undef)).run P w = .ok ad w ∧ (loadVar t ad).run P w = .ok v' w

theorem resOne_sound {g : Fm} {a : Act} {r : ResultVar} {v : V} (R : Rel ρ I w h F) (FR : FRel I w ρ g a) (hs : resOne P g h r = some (true, v)) :
    ∃ v', resRun P w a r v' ∧ VRel I w ρ v v' := by
  cases r with
  | tmp t =>
    simp only [resOne] at hs
    split at hs <;> simp only [Option.some.injEq, Prod.mk.injEq, reduceCtorEq, true_and] at hs
    rename_i u hu
    subst hs
    exact ⟨_, rfl, FR t _ hu⟩
  | cell x t =>
    simp only [resOne] at hs
    split at hs <;> try simp only [reduceCtorEq] at hs
    · rename_i i q n hx hag hsz
      split at hs <;> try simp only [reduceCtorEq] at hs
      rename_i b hb
      split at hs <;> simp at hs
      rename_i hdead
      obtain ⟨h1, rfl⟩ := hs
      have r := FR x _ hx
      cases hv : a.tmps.getD x undef <;> rw [hv] at r <;> cases r
      rename_i l hl
      obtain ⟨C, e, fz, m1, m2, m3, m4, m5, m6⟩ := live_blk R hb (by simpa using hdead) hl
      have hat := atN_rel m4 n q h1
      rw [List.drop_drop] at hat
      refine ⟨.agg ⟨(C.toList.drop (l.d + q)).take n⟩, ?_, .agg _ _ _ hat⟩
      have hlen : ((C.toList.drop (l.d + q)).take n).length = n := by simp; omega
      have hrun := run_loadCells_list (P := P) (w := w) ⟨l.b, l.d + q, none⟩ ((C.toList.drop (l.d + q)).take n) (fun j c hj => by
        rw [add_eq, cell_at m1]
        rw [List.getElem?_take] at hj
        split at hj
        · rw [List.getElem?_drop, Array.getElem?_toList] at hj; exact hj
        · cases hj)
      rw [hlen] at hrun
      exact ⟨⟨l.b, l.d + q, none⟩, by rw [hv]; simp [asAddr], by simp [loadVar, run_isAggT hag, run_sizeT hsz, hrun]⟩
    · rename_i i q n hx hag hsz
      split at hs <;> try simp only [reduceCtorEq] at hs
      rename_i b hb
      split at hs <;> simp at hs
      rename_i hdead
      obtain ⟨h1, rfl⟩ := hs
      have r := FR x _ hx
      cases hv : a.tmps.getD x undef <;> rw [hv] at r <;> cases r
      rename_i l hl
      obtain ⟨C, e, fz, m1, m2, m3, m4, m5, m6⟩ := live_blk R hb (by simpa using hdead) hl
      obtain ⟨c, hc, hr⟩ := m4 q h1
      rw [List.getElem?_drop, Array.getElem?_toList] at hc
      refine ⟨c, ?_, hr⟩
      have : w.cell? ⟨l.b, l.d + q, none⟩ = some c := by rw [cell_at m1]; exact hc
      exact ⟨⟨l.b, l.d + q, none⟩, by rw [hv]; simp [asAddr], by simp [loadVar, run_isAggT hag, this]⟩

def resV (P : Program) (fn : Func) (g : Fm) (h : Heap) : Option (Bool × V) :=
  match fn.results.toList with
  | [] => some (true, .tup [])
  | [a] => resOne P g h a
  | [a, b] => (match resOne P g h a, resOne P g h b with | some (k, x), some (l, y) => some (k && l, .tup [x, y]) | _, _ => none)
  | [a, b, c] => (match resOne P g h a, resOne P g h b, resOne P g h c with | some (k, x), some (l, y), some (m, z) => some (k && l && m, .tup [x, y, z]) | _, _, _ => none)
  | _ => none

theorem resV_sound {fn : Func} {g : Fm} {a : Act} {v : V} (R : Rel ρ I w h F) (FR : FRel I w ρ g a) (hs : resV P fn g h = some (true, v)) : ∃ v', (results fn a.tmps).run P w = .ok v' w ∧ VRel I w ρ v v' := by
  unfold resV at hs
  split at hs
  · rename_i e
    cases hs
    have : fn.results = #[] := by apply Array.ext'; simpa using e
    exact ⟨_, results_none this _ _ _, .tup _ _ _ (.nil _)⟩
  · rename_i r e
    have : fn.results = #[r] := by apply Array.ext'; simpa using e
    obtain ⟨x, hx, hr⟩ := resOne_sound R FR hs
    refine ⟨x, ?_, hr⟩
    cases r with
    | tmp t => simp only [resRun] at hx; rw [Array.getD_eq_getD_getElem?] at hx; simp [results, this, hx]
    | cell x t => obtain ⟨ad, e1, e2⟩ := hx; rw [Array.getD_eq_getD_getElem?] at e1; simp [results, this, e1, e2]
  · rename_i r s e
    have : fn.results = #[r, s] := by apply Array.ext'; simpa using e
    split at hs <;> simp only [Option.some.injEq, Prod.mk.injEq, Bool.and_eq_true, reduceCtorEq] at hs
    rename_i k x l y h1 h2
    obtain ⟨⟨rfl, rfl⟩, rfl⟩ := hs
    obtain ⟨x', hx, hrx⟩ := resOne_sound R FR h1
    obtain ⟨y', hy, hry⟩ := resOne_sound R FR h2
    refine ⟨.tuple #[x', y'], ?_, .tup _ _ _ (.cons _ _ _ _ _ hrx (.cons _ _ _ _ _ hry (.nil _)))⟩
    cases r <;> cases s <;> simp only [resRun, Array.getD_eq_getD_getElem?] at hx hy <;> (try obtain ⟨ad, ha, hb⟩ := hx) <;> (try obtain ⟨ad2, ha2, hb2⟩ := hy) <;> simp [results, *]
  · rename_i r s t e
    have : fn.results = #[r, s, t] := by apply Array.ext'; simpa using e
    split at hs <;> simp only [Option.some.injEq, Prod.mk.injEq, Bool.and_eq_true, reduceCtorEq] at hs
    rename_i k x l y m z h1 h2 h3
    obtain ⟨⟨⟨rfl, rfl⟩, rfl⟩, rfl⟩ := hs
    obtain ⟨x', hx, hrx⟩ := resOne_sound R FR h1
    obtain ⟨y', hy, hry⟩ := resOne_sound R FR h2
    obtain ⟨z', hz, hrz⟩ := resOne_sound R FR h3
    refine ⟨.tuple #[x', y', z'], ?_, .tup _ _ _ (.cons _ _ _ _ _ hrx (.cons _ _ _ _ _ hry (.cons _ _ _ _ _ hrz (.nil _))))⟩
    cases r <;> cases s <;> cases t <;> simp only [resRun, Array.getD_eq_getD_getElem?] at hx hy hz <;> (try obtain ⟨ad, ha, hb⟩ := hx) <;> (try obtain ⟨ad2, ha2, hb2⟩ := hy) <;> (try obtain ⟨ad3, ha3, hb3⟩ := hz) <;> simp [results, *]
  · cases hs

/-- how a function's end is told: its outcome and its heap, by fewer blocks -/
def FinW (n0 : Nat) (fin : Fin) (h : Heap) (fin2 : Fin) (h2 : Heap) : Prop :=
  ∀ (ρ : Ren) (I : Nat → Prop) (w : World), Rel ρ I w h (fun _ => False) → ∃ ρ', Rel ρ' I w h2 (fun i => h2.length ≤ i) ∧ WentN n0 ρ I w h ρ' I w h2 ∧ ∀ e, FinRel I w ρ fin e → FinRel I w ρ' fin2 e

theorem renFin_sound {τ : Nat → Option Nat} {ρ₂ : Ren} (hτ : ∀ i k l, τ i = some k → ρ i = some l → ρ₂ k = some l) {fin fin2 : Fin} (h : renFin τ fin = some fin2) {e : Ending} (he : FinRel I w ρ fin e) : FinRel I w ρ₂ fin2 e := by
  cases fin <;> simp only [renFin] at h <;> split at h <;> simp only [Option.some.injEq, reduceCtorEq] at h <;> subst h
  all_goals
    rename_i hu
    obtain ⟨v', h1, h2⟩ := he
    exact ⟨v', h1, renV_sound hτ h2 hu⟩

def tellFin (n0 : Nat) (rd : List Nat) (fin : Fin) (h : Heap) : Option (Fin × Heap) :=
  if nodupN rd && prefixOk rd n0 then (match renFin (posOf rd) fin, subHeap h (posOf rd) rd with
    | some f, some k => some (f, k)
    | _, _ => none) else none

theorem tellFin_sound {rd : List Nat} {fin fin2 : Fin} {h2 : Heap} (ht : tellFin n0 rd fin h = some (fin2, h2)) : FinW n0 fin h fin2 h2 := by
  unfold tellFin at ht
  split at ht <;> try simp only [reduceCtorEq] at ht
  rename_i hc
  rw [Bool.and_eq_true] at hc
  split at ht <;> simp only [Option.some.injEq, Prod.mk.injEq, reduceCtorEq] at ht
  rename_i f k hf hk
  obtain ⟨rfl, rfl⟩ := ht
  intro ρ I w R
  obtain ⟨h1, h2, h3⟩ := sub_rel (nodupN_iff hc.1) R hk
  exact ⟨subRen rd ρ, h2, sub_went hc.2 h3, fun e he => renFin_sound h1 hf he⟩

def refsUpto (h : Heap) : Nat → List Nat
  | 0 => []
  | n + 1 => refsUpto h n ++ (match h[n]? with | some b => refsB b | none => [])

def refsFin : Fin → List Nat
  | .ret v => refsV v
  | .pan v => refsV v

def compact (n0 : Nat) (fin : Fin) (h : Heap) : Option (Fin × Heap) :=
  tellFin n0 (reach h 300 (refsFin fin ++ refsUpto h n0) (upto n0)) fin h

def EndX (P : Program) (fn : Func) (n0 : Nat) (fin : Fin) (h' : Heap) : X → Fr → Heap → Prop
  | .normal, fr, h => ∃ fr₁ h₁ v, Weaker fn.ntmps n0 fr h fr₁ h₁ ∧ resV P fn fr₁.get h₁ = some (true, v) ∧ FinW n0 (.ret v) h₁ fin h'
  | .ret, fr, h => ∃ fr₁ h₁ v, Weaker fn.ntmps n0 fr h fr₁ h₁ ∧ resV P fn fr₁.get h₁ = some (true, v) ∧ FinW n0 (.ret v) h₁ fin h'
  | .pan v, _, h => FinW n0 (.pan v) h fin h'
  | .exit _, _, _ => False

theorem LFn.of_runs {f : FuncId} {fn : Func} {c : Code} {args : List V} {fin : Fin} {h' : Heap} (hf : P.funcs[f]? = some fn) (hb : fn.body = some c) (hn : args.length ≤ fn.ntmps)
    (H : Runs P fn.ntmps h.length c (argsFr 0 args) h (EndX P fn h.length fin h')) : LFn P f args h fin h' := by
  intro ρ I w args' R ha
  refine calls_of_wp hf hb ?_
  have hal : args'.length = args.length := ha.length.symm
  refine H _ ρ I w _ ⟨by simp; omega, rfl, ?_, R.weaken (fun _ h => h.elim)⟩ ?_
  · intro t v hv
    obtain ⟨_, h2⟩ := argsFr_get args 0 t v hv
    obtain ⟨v', h3, h4⟩ := ha.get _ _ h2
    have hlt : t < args'.length := (List.getElem?_eq_some_iff.1 h3).1
    have e : ((⟨args'⟩ : Array Value) ++ Array.replicate (fn.ntmps - (⟨args'⟩ : Array Value).size) undef).getD t undef = v' := by
      rw [Array.getD_eq_getD_getElem?, Array.getElem?_append_left (by simpa using hlt)]
      simp only [Nat.sub_zero] at h3
      simp [h3]
    rw [e]; exact h4
  · intro x fr' h₁ ρ₁ I₁ w₁ a₁ e r er S₁ W₁
    have fin_of : ∀ (h₁ : Heap) (ρ₁ : Ren) (f0 : Fin) (e0 : Ending), Rel ρ₁ I₁ w₁ h₁ (fun _ => False) → WentN h.length ρ I w h ρ₁ I₁ w₁ h₁ → FinW h.length f0 h₁ fin h' → FinRel I₁ w₁ ρ₁ f0 e0 → ∃ ρ' I', Rel ρ' I' w₁ h' (fun i => h'.length ≤ i) ∧ Went ρ I w h ρ' I' w₁ h' ∧ FinRel I' w₁ ρ' fin e0 := by
      intro h₁ ρ₁ f0 e0 R₁ W₁ hW hF
      obtain ⟨ρ₂, r2, w2, f2⟩ := hW ρ₁ I₁ w₁ R₁
      have W := W₁.trans w2
      refine ⟨ρ₂, I₁, r2, ⟨fun i l hl => W.ren i l ?_ hl, W.imm, W.os, W.tape, W.output, W.size, W.keep, W.own, W.fresh⟩, f2 _ hF⟩
      rcases Nat.lt_or_ge i h.length with h0 | h0
      · exact h0
      · rw [R.out i h0] at hl; cases hl
    cases x with
    | normal =>
      cases er
      obtain ⟨fr₂, h₂, v, hWk, hv, hW⟩ := r
      obtain ⟨ρ₂, S₂, W₂⟩ := hWk ρ₁ I₁ w₁ a₁ S₁
      obtain ⟨v', h1, h2⟩ := resV_sound (P := P) S₂.rel S₂.fr hv
      exact ⟨S₁.defers, v', h1, fin_of _ ρ₂ _ _ S₂.rel (W₁.trans W₂) hW ⟨v', rfl, h2⟩⟩
    | ret =>
      cases er
      obtain ⟨fr₂, h₂, v, hWk, hv, hW⟩ := r
      obtain ⟨ρ₂, S₂, W₂⟩ := hWk ρ₁ I₁ w₁ a₁ S₁
      obtain ⟨v', h1, h2⟩ := resV_sound (P := P) S₂.rel S₂.fr hv
      exact ⟨S₁.defers, v', h1, fin_of _ ρ₂ _ _ S₂.rel (W₁.trans W₂) hW ⟨v', rfl, h2⟩⟩
    | pan v =>
      obtain ⟨v', hv, rfl⟩ := er
      exact ⟨S₁.defers, fin_of _ ρ₁ _ _ S₁.rel W₁ r ⟨v', rfl, hv⟩⟩
    | exit id => exact r.elim

/-- a function, by reckoning -/
def execFD (P : Program) (O : Orc) (L : Loops) (dec : List (Nat × Bool)) (fuel : Nat) (fn : Func) (args : List V) (h : Heap) : Option (Bool × Fin × Heap) :=
  match fn.body with
  | some c => if dstsIn fn.ntmps c && Nat.ble args.length fn.ntmps then (match execD P O L dec fuel c (argsFr 0 args) h with
      | some (k, .normal, fr', h') => (match resV P fn fr'.get h' with
        | some (q, v) => (match compact h.length (.ret v) h' with | some (f, h2) => some (k && q, f, h2) | none => none)
        | none => none)
      | some (k, .ret, fr', h') => (match resV P fn fr'.get h' with
        | some (q, v) => (match compact h.length (.ret v) h' with | some (f, h2) => some (k && q, f, h2) | none => none)
        | none => none)
      | some (k, .pan v, _, h') => (match compact h.length (.pan v) h' with | some (f, h2) => some (k, f, h2) | none => none)
      | _ => none) else none
  | none => none

theorem execFD_sound (hO : OrcSound P O) (hm : P.follows .mixedOrders = true) {L : Loops} {dec : List (Nat × Bool)} {fuel : Nat} {f : FuncId} {fn : Func} {args : List V} {fin : Fin} {h' : Heap} (hf : P.funcs[f]? = some fn) (hL : ∀ c, fn.body = some c → ∀ d, d ∈ loopsOf c → LoopOk P fn.ntmps h.length L d)
    (hx : execFD P O L dec fuel fn args h = some (true, fin, h')) : LFn P f args h fin h' := by
  unfold execFD at hx
  split at hx <;> try simp only [reduceCtorEq] at hx
  rename_i c hb
  split at hx <;> try simp only [reduceCtorEq] at hx
  rename_i hc
  rw [Bool.and_eq_true] at hc
  have hn : args.length ≤ fn.ntmps := Nat.le_of_ble_eq_true hc.2
  split at hx <;> try simp only [reduceCtorEq] at hx
  · rename_i k fr' h1 he
    split at hx <;> try simp only [reduceCtorEq] at hx
    rename_i q v hv
    split at hx <;> simp only [Option.some.injEq, Prod.mk.injEq, Bool.and_eq_true, reduceCtorEq] at hx
    rename_i f2 h2 hcm
    obtain ⟨⟨rfl, rfl⟩, rfl, rfl⟩ := hx
    refine LFn.of_runs hf hb hn ((execD_sound hO hm c (hL c hb) _ _ _ _ _ hc.1 he).mono ?_)
    rintro x f k ⟨rfl, hw⟩
    exact ⟨_, _, v, hw, hv, tellFin_sound hcm⟩
  · rename_i k fr' h1 he
    split at hx <;> try simp only [reduceCtorEq] at hx
    rename_i q v hv
    split at hx <;> simp only [Option.some.injEq, Prod.mk.injEq, Bool.and_eq_true, reduceCtorEq] at hx
    rename_i f2 h2 hcm
    obtain ⟨⟨rfl, rfl⟩, rfl, rfl⟩ := hx
    refine LFn.of_runs hf hb hn ((execD_sound hO hm c (hL c hb) _ _ _ _ _ hc.1 he).mono ?_)
    rintro x f k ⟨rfl, hw⟩
    exact ⟨_, _, v, hw, hv, tellFin_sound hcm⟩
  · rename_i k v fr' h1 he
    split at hx <;> simp only [Option.some.injEq, Prod.mk.injEq, reduceCtorEq] at hx
    rename_i f2 h2 hcm
    obtain ⟨rfl, rfl, rfl⟩ := hx
    refine LFn.of_runs hf hb hn ((execD_sound hO hm c (hL c hb) _ _ _ _ _ hc.1 he).mono ?_)
    rintro x f k ⟨rfl, rfl, rfl⟩
    exact tellFin_sound hcm

def execF (P : Program) (O : Orc) (L : Loops) (fuel : Nat) (fn : Func) (args : List V) (h : Heap) : Option (Bool × Fin × Heap) := execFD P O L [] fuel fn args h

theorem execF_sound (hO : OrcSound P O) (hm : P.follows .mixedOrders = true) {L : Loops} {fuel : Nat} {f : FuncId} {fn : Func} {args : List V} {fin : Fin} {h' : Heap} (hf : P.funcs[f]? = some fn)
    (hL : ∀ c, fn.body = some c → ∀ d, d ∈ loopsOf c → LoopOk P fn.ntmps h.length L d) (hx : execF P O L fuel fn args h = some (true, fin, h')) : LFn P f args h fin h' := execFD_sound hO hm hf hL hx

/-- code, and its end told by fewer blocks and slots -/
def execT (P : Program) (O : Orc) (L : Loops) (dec : List (Nat × Bool)) (fuel : Nat) (n0 : Nat) (rd ts : List Nat) (c : Code) (fr : Fr) (h : Heap) : Option (Bool × X × Fr × Heap) :=
  match execD P O L dec fuel c fr h with
  | some (k, x, fr', h') => (match tell n0 rd ts fr' h' with
    | some (f, g) => some (k, x, f, g)
    | none => none)
  | none => none

theorem execT_sound (hO : OrcSound P O) (hm : P.follows .mixedOrders = true) {L : Loops} {dec : List (Nat × Bool)} {fuel : Nat} {rd ts : List Nat} {c : Code} {x : X} {fr' : Fr} {h' : Heap} (hL : ∀ d, d ∈ loopsOf c → LoopOk P N n0 L d) (hd : dstsIn N c = true) (hp : ∀ v, x ≠ .pan v)
    (hx : execT P O L dec fuel n0 rd ts c fr h = some (true, x, fr', h')) : Runs P N n0 c fr h (EndW N n0 x fr' h') := by
  unfold execT at hx
  split at hx <;> try simp only [reduceCtorEq] at hx
  rename_i k y f g he
  split at hx <;> simp only [Option.some.injEq, Prod.mk.injEq, reduceCtorEq] at hx
  rename_i f2 g2 ht
  obtain ⟨rfl, rfl, rfl, rfl⟩ := hx
  refine (execD_sound hO hm c hL _ _ _ _ _ hd he).mono ?_
  rintro z f k ⟨rfl, hw⟩
  refine ⟨rfl, ?_⟩
  cases z with
  | pan _ => exact (hp _ rfl).elim
  | _ => exact Weaker.trans hw (tell_weaker ht)
end
end Go.Lh
end
section
namespace Go.Lh
def noOrc : Orc := { fn := fun _ _ _ => none, ext := fun _ _ => none }
theorem noOrc_sound (P : Program) : OrcSound P noOrc := ⟨fun _ _ _ _ _ h => by simp [noOrc] at h, fun _ _ _ _ h => by simp [noOrc] at h, fun _ _ _ h => by simp [noOrc] at h⟩

theorem LoopOk.none {P : Program} {N n0 : Nat} {c : Code} : LoopOk P N n0 noLoops c := fun _ _ _ _ _ h => by simp [noLoops] at h

/-- a function, walked in place -/
def inl (P : Program) (base : Orc) (f0 : FuncId) (fn : Func) : Orc :=
  { fn := fun f args h => if Nat.beq f f0 then execF P base noLoops 1000 fn args h else base.fn f args h, ext := base.ext, asm := base.asm }

theorem inl_sound {P : Program} {base : Orc} {f0 : FuncId} {fn : Func} (hb : OrcSound P base) (hm : P.follows .mixedOrders = true) (hf : P.funcs[f0]? = some fn) (hn : fn.body.isNone = false) (hg : (fn.name == "runtime.NumGoroutine") = false) : OrcSound P (inl P base f0 fn) := by
  refine ⟨fun f args h fin h' hx => ?_, fun f args h r hx => ?_, hb.ext⟩
  · simp only [inl] at hx
    split at hx
    · rename_i e; rw [Nat.eq_of_beq_eq_true e]; exact execF_sound hb hm hf (fun _ _ _ _ => LoopOk.none) hx
    · exact hb.fn _ _ _ _ _ hx
  · simp only [inl] at hx
    split at hx
    · rename_i e; rw [Nat.eq_of_beq_eq_true e]; exact ⟨fn, hf, hn, hg⟩
    · exact hb.enters _ _ _ _ hx

/-- a function, by what is known of it -/
def know (base : Orc) (f0 : FuncId) (g : List V → Heap → Option (Bool × Fin × Heap)) : Orc :=
  { fn := fun f args h => if Nat.beq f f0 then g args h else base.fn f args h, ext := base.ext, asm := base.asm }

theorem know_sound {P : Program} {base : Orc} {f0 : FuncId} {g : List V → Heap → Option (Bool × Fin × Heap)} (hb : OrcSound P base) (he : Enters P f0) (hg : ∀ args h fin h', g args h = some (true, fin, h') → LFn P f0 args h fin h') : OrcSound P (know base f0 g) := by
  refine ⟨fun f args h fin h' hx => ?_, fun f args h r hx => ?_, hb.ext⟩
  · simp only [know] at hx
    split at hx
    · rename_i e; rw [Nat.eq_of_beq_eq_true e]; exact hg _ _ _ _ hx
    · exact hb.fn _ _ _ _ _ hx
  · simp only [know] at hx
    split at hx
    · rename_i e; rw [Nat.eq_of_beq_eq_true e]; exact he
    · exact hb.enters _ _ _ _ hx

def withAsm (base : Orc) (l : List (Nat × Bool)) : Orc := { base with asm := l }
theorem withAsm_sound {P : Program} {base : Orc} {l : List (Nat × Bool)} (h : OrcSound P base) : OrcSound P (withAsm base l) := ⟨h.fn, h.enters, h.ext⟩
end Go.Lh
end
section
namespace Go.Lh
section
variable {P : Program} {O : Orc} {N n0 : Nat}

/-- the slots' blocks, in the slots' order -/
def rootsOf (fr : Fr) : List Nat → List Nat
  | [] => []
  | t :: r => (match fr.get t with | some v => refsV v | none => []) ++ rootsOf fr r

theorem Runs.count {c : Code} {x : X} {fr' : Fr} {h' : Heap} (S : Nat → Fr × Heap) (m : Nat) (hx : x ≠ .normal)
    (body : ∀ n, n < m → Runs P N n0 c (S n).1 (S n).2 (EndW N n0 .normal (S (n + 1)).1 (S (n + 1)).2))
    (last : Runs P N n0 c (S m).1 (S m).2 (EndW N n0 x fr' h')) : Runs P N n0 (.loop c) (S 0).1 (S 0).2 (EndW N n0 x fr' h') := by
  refine Runs.loop (fun k f h => ∃ i, i ≤ m ∧ k = m - i ∧ f = (S i).1 ∧ h = (S i).2) (n := m) ⟨0, by omega, by omega, rfl, rfl⟩ ?_
  rintro k f h ⟨i, hi, rfl, rfl, rfl⟩
  by_cases e : i = m
  · subst e
    refine last.mono ?_
    rintro y f k ⟨rfl, hw⟩
    cases y with
    | normal => exact (hx rfl).elim
    | exit _ => exact ⟨rfl, hw⟩
    | ret => exact ⟨rfl, hw⟩
    | pan _ => exact ⟨rfl, hw⟩
  · refine (body i (by omega)).mono ?_
    rintro y f k ⟨rfl, hw⟩
    exact ⟨m - (i + 1), _, _, by omega, ⟨i + 1, by omega, rfl, rfl, rfl⟩, hw⟩

/-- a loop whose rounds go through states that a measure orders -/
theorem Runs.rounds {α : Type} {c : Code} {R : X → Fr → Heap → Prop} (S : α → Fr × Heap) (I : α → Prop) (μ : α → Nat) (s : α) (hs : I s)
    (body : ∀ s, I s → (∃ s', I s' ∧ μ s' < μ s ∧ Runs P N n0 c (S s).1 (S s).2 (EndW N n0 .normal (S s').1 (S s').2)) ∨ (∃ x fr' h', x ≠ .normal ∧ Runs P N n0 c (S s).1 (S s).2 (EndW N n0 x fr' h') ∧ ∀ f k, EndW N n0 x fr' h' x f k → R x f k)) :
    Runs P N n0 (.loop c) (S s).1 (S s).2 R := by
  refine Runs.loop (fun k f h => ∃ i, I i ∧ k = μ i ∧ f = (S i).1 ∧ h = (S i).2) (n := μ s) ⟨s, hs, rfl, rfl, rfl⟩ ?_
  rintro k f h ⟨i, hi, rfl, rfl, rfl⟩
  rcases body i hi with ⟨s', h1, h2, h3⟩ | ⟨x, fr', h', h1, h2, h3⟩
  · refine h3.mono ?_
    rintro y f k ⟨rfl, hw⟩
    exact ⟨μ s', _, _, h2, ⟨s', h1, rfl, rfl, rfl⟩, hw⟩
  · refine h2.mono ?_
    rintro y f k hw
    obtain rfl := hw.1
    have := h3 f k hw
    cases y with
    | normal => exact (h1 rfl).elim
    | exit _ => exact this
    | ret => exact this
    | pan _ => exact this
end

theorem wrapI_in {x : Int} (h1 : -9223372036854775808 ≤ x) (h2 : x < 9223372036854775808) : wrapI .i64 x = x := by
  unfold wrapI
  simp only [IntKind.wrap]
  simp [IntKind.signed, IntKind.bits]
  omega
theorem wrapI_nat {n : Nat} (h : n < 9223372036854775808) : wrapI .i64 (n : Int) = n := wrapI_in (by omega) (by omega)
theorem tdiv_nat (a b : Nat) : Int.tdiv (a : Int) (b : Int) = ((a / b : Nat) : Int) := rfl
theorem tmod_nat (a b : Nat) : Int.tmod (a : Int) (b : Int) = ((a % b : Nat) : Int) := rfl
theorem tdiv_lit (a b : Nat) : Int.tdiv (a : Int) (no_index (OfNat.ofNat b)) = ((a / OfNat.ofNat b : Nat) : Int) := rfl
theorem tmod_lit (a b : Nat) : Int.tmod (a : Int) (no_index (OfNat.ofNat b)) = ((a % OfNat.ofNat b : Nat) : Int) := rfl
theorem mul_lit (a b : Nat) : (a : Int) * (no_index (OfNat.ofNat b)) = ((a * OfNat.ofNat b : Nat) : Int) := by simp
theorem add_lit (a b : Nat) : (a : Int) + (no_index (OfNat.ofNat b)) = ((a + OfNat.ofNat b : Nat) : Int) := by simp
end Go.Lh
end
section
namespace Go.Lh
/-- all that was there stands still -/
def Old (w : World) : Nat → Prop := fun b => b < w.heap.size
theorem LFn.law {P : Program} {f : FuncId} {args : List V} {args' : Array Value} {h' : Heap} (H : LFn P f args [] (.ret (.bool true)) h') (w : World) (ha : VsRel (Old w) w (fun _ => none) args args'.toList) :
    Calls P f args' w fun e w' => e = .returned (.bool true) ∧ Go.RowKit.Below w.heap.size w w' := by
  have R : Rel (fun _ => none) (Old w) w [] (fun i => ([] : Heap).length ≤ i) :=
    ⟨fun i b hb _ => by simp at hb, fun _ _ => rfl, fun _ _ => rfl, fun i j x y l l' _ hx => by simp at hx, fun b hb => hb⟩
  refine (H _ _ w args'.toList R ha).mono ?_
  rintro e w' ⟨ρ', I', _, W, v', rfl, hv⟩
  cases hv
  exact ⟨rfl, W.os, W.tape, W.output, W.size, fun k hk => W.keep k hk (by rintro ⟨i, x, l, hx, _⟩; simp at hx)⟩
end Go.Lh
end
section
namespace Go.Lh

abbrev Known := List (FuncId × (List V → Heap → Option (Bool × Fin × Heap)))
def lookK : Known → FuncId → Option (List V → Heap → Option (Bool × Fin × Heap))
  | [], _ => none
  | (i, g) :: r, f => if Nat.beq i f then some g else lookK r f

def KOk (P : Program) (K : Known) : Prop := ∀ f g, lookK K f = some g → Enters P f ∧ ∀ args h fin h', g args h = some (true, fin, h') → LFn P f args h fin h'

theorem KOk.nil {P : Program} : KOk P [] := fun f g h => by simp [lookK] at h
theorem KOk.cons {P : Program} {K : Known} {i : FuncId} {g : List V → Heap → Option (Bool × Fin × Heap)} (he : Enters P i) (hg : ∀ args h fin h', g args h = some (true, fin, h') → LFn P i args h fin h') (hK : KOk P K) : KOk P ((i, g) :: K) := by
  intro f g' h
  simp only [lookK] at h
  split at h
  · rename_i e
    have := Nat.eq_of_beq_eq_true e
    subst this
    cases h
    exact ⟨he, hg⟩
  · exact hK f g' h

theorem Enters.of {P : Program} {i : FuncId} {fn : Func} (hf : P.funcs[i]? = some fn) (h : (!fn.body.isNone && !(fn.name == "runtime.NumGoroutine")) = true) : Enters P i := by
  simp only [Bool.and_eq_true, Bool.not_eq_true'] at h
  exact ⟨fn, hf, h.1, h.2⟩

/-- may these functions be walked in place? -/
def insOk (P : Program) : List FuncId → Bool
  | [] => true
  | f :: r => (match P.funcs[f]? with | some fn => !fn.body.isNone && !(fn.name == "runtime.NumGoroutine") | none => false) && insOk P r

theorem insOk_iff {P : Program} : ∀ {ins : List FuncId}, insOk P ins = true → ∀ f, f ∈ ins → Enters P f
  | [], _, f, hf => by simp at hf
  | i :: r, h, f, hf => by
    simp only [insOk, Bool.and_eq_true] at h
    rcases List.mem_cons.1 hf with rfl | hf
    · have h1 := h.1
      split at h1
      · rename_i fn e
        exact Enters.of e h1
      · cases h1
    · exact insOk_iff h.2 f hf

/-- what is known of functions, and the others that are walked in place -/
def auto (P : Program) (ext : FuncId → List V → Option (Bool × V)) (K : Known) (ins : List FuncId) : Nat → Orc
  | 0 => { fn := fun _ _ _ => none, ext := ext }
  | d + 1 => { fn := fun f args h => match lookK K f with
      | some g => g args h
      | none => if memN f ins then (match P.funcs[f]? with | some fn => execF P (auto P ext K ins d) noLoops 1000 fn args h | none => none) else none, ext := ext }

def ExtOk (P : Program) (ext : FuncId → List V → Option (Bool × V)) : Prop := ∀ f args v, ext f args = some (true, v) → ∀ (I : Nat → Prop) (w : World) (ρ : Ren) (args' : List Value), VsRel I w ρ args args' →
    ∃ v', (callFunc f ⟨args'⟩).run P w = .ok (.value v') w ∧ VRel I w ρ v v'
def noExt : FuncId → List V → Option (Bool × V) := fun _ _ => none
theorem noExt_ok {P : Program} : ExtOk P noExt := fun _ _ _ h => by simp [noExt] at h

theorem auto_sound {P : Program} {ext : FuncId → List V → Option (Bool × V)} {K : Known} {ins : List FuncId} (hm : P.follows .mixedOrders = true) (hx : ExtOk P ext) (hK : KOk P K) (hi : insOk P ins = true) : ∀ d, OrcSound P (auto P ext K ins d)
  | 0 => ⟨fun _ _ _ _ _ h => by simp [auto] at h, fun _ _ _ _ h => by simp [auto] at h, hx⟩
  | d + 1 => by
    have ih := auto_sound hm hx hK hi d
    refine ⟨fun f args h fin h' hg => ?_, fun f args h r hg => ?_, hx⟩
    · simp only [auto] at hg
      split at hg
      · rename_i g e
        exact (hK f g e).2 _ _ _ _ hg
      · split at hg <;> try simp only [reduceCtorEq] at hg
        split at hg <;> try simp only [reduceCtorEq] at hg
        rename_i fn e
        exact execF_sound ih hm e (fun _ _ _ _ => LoopOk.none) hg
    · simp only [auto] at hg
      split at hg
      · rename_i g e
        exact (hK f g e).1
      · split at hg <;> try simp only [reduceCtorEq] at hg
        rename_i e
        exact insOk_iff hi f ((memN_iff _ _).1 e)

/-- a contract, by a reading of the arguments -/
def ct {α : Type} (read : List V → Heap → Option α) (ok : α → Bool) (fin : α → Fin) (h' : α → Heap) : List V → Heap → Option (Bool × Fin × Heap) :=
  fun args h => match read args h with | some a => some (ok a, fin a, h' a) | none => none

theorem ct_ok {P : Program} {i : FuncId} {α : Type} {read : List V → Heap → Option α} {ok : α → Bool} {fin : α → Fin} {h' : α → Heap} (A : α → List V) (H : α → Heap)
    (hr : ∀ args h a, read args h = some a → args = A a ∧ h = H a) (hf : ∀ a, ok a = true → LFn P i (A a) (H a) (fin a) (h' a)) :
    ∀ args h fin2 h2, ct read ok fin h' args h = some (true, fin2, h2) → LFn P i args h fin2 h2 := by
  intro args h fin2 h2 e
  simp only [ct] at e
  split at e <;> simp only [Option.some.injEq, Prod.mk.injEq, reduceCtorEq] at e
  rename_i a ha
  obtain ⟨h1, rfl, rfl⟩ := e
  obtain ⟨rfl, rfl⟩ := hr _ _ _ ha
  exact hf a h1

/-! ### loops -/

/-- the blocks that count, behind the first n0: those that the slots, or the first ones, come to -/
def rdOf (n0 : Nat) (fr : Fr) (h : Heap) (slots : List Nat) : List Nat := reach h 300 (rootsOf fr slots ++ refsUpto h n0) (upto n0)
def tellN (n0 : Nat) (slots : List Nat) (fr : Fr) (h : Heap) : Option (Fr × Heap) := tell n0 (rdOf n0 fr h slots) slots fr h

/-- code, and its end told by slots -/
def execN (P : Program) (O : Orc) (L : Loops) (dec : List (Nat × Bool)) (fuel : Nat) (n0 : Nat) (slots : List Nat) (c : Code) (fr : Fr) (h : Heap) : Option (Bool × X × Fr × Heap) :=
  match execD P O L dec fuel c fr h with
  | some (k, x, fr', h') => (match tellN n0 slots fr' h' with
    | some (f, g) => some (k, x, f, g)
    | none => none)
  | none => none

theorem execN_sound {P : Program} {O : Orc} {N n0 : Nat} {fr : Fr} {h : Heap} (hO : OrcSound P O) (hm : P.follows .mixedOrders = true) {L : Loops} {dec : List (Nat × Bool)} {fuel : Nat} {ts : List Nat} {c : Code} {x : X} {fr' : Fr} {h' : Heap}
    (hL : ∀ d, d ∈ loopsOf c → LoopOk P N n0 L d) (hd : dstsIn N c = true) (hp : ∀ v, x ≠ .pan v)
    (hx : execN P O L dec fuel n0 ts c fr h = some (true, x, fr', h')) : Runs P N n0 c fr h (EndW N n0 x fr' h') := by
  unfold execN at hx
  split at hx <;> try simp only [reduceCtorEq] at hx
  rename_i k y f g he
  split at hx <;> simp only [Option.some.injEq, Prod.mk.injEq, reduceCtorEq] at hx
  rename_i f2 g2 ht
  obtain ⟨rfl, rfl, rfl, rfl⟩ := hx
  refine (execD_sound hO hm c hL _ _ _ _ _ hd he).mono ?_
  rintro z f k ⟨rfl, hw⟩
  refine ⟨rfl, ?_⟩
  cases z with
  | pan _ => exact (hp _ rfl).elim
  | _ => exact Weaker.trans hw (tell_weaker ht)

def loopBody (fn : Func) (k : Nat) : Code := (loopsOf (fn.body.getD .skip)).getD k .skip

/-- what is known of a loop: its first region's number; the slots that count; what it comes to -/
structure Sm where
  id : Nat
  slots : List Nat
  f : Fr → Heap → Option (Bool × X × Fr × Heap)

def smL (n0 : Nat) : List Sm → Loops
  | [] => noLoops
  | s :: r => fun n fr h => if Nat.beq n s.id then (match tellN n0 s.slots fr h with | some (f, k) => s.f f k | none => none) else smL n0 r n fr h

def SmAt (P : Program) (fn : Func) (n0 : Nat) (s : Sm) (k : Nat) : Prop :=
  headNo (loopBody fn k) = s.id ∧ k < (loopsOf (fn.body.getD .skip)).length ∧ ∀ fr h x fr' h', s.f fr h = some (true, x, fr', h') → Runs P fn.ntmps n0 (.loop (loopBody fn k)) fr h (EndW fn.ntmps n0 x fr' h')

def LoopsOk (P : Program) (fn : Func) (n0 : Nat) (L : Loops) : Prop := ∀ c, fn.body = some c → ∀ d, d ∈ loopsOf c → LoopOk P fn.ntmps n0 L d
theorem LoopsOk.none {P : Program} {fn : Func} {n0 : Nat} : LoopsOk P fn n0 noLoops := fun _ _ _ _ => LoopOk.none

theorem smL_at {P : Program} {fn : Func} {n0 : Nat} (hnd : nodupN ((loopsOf (fn.body.getD .skip)).map headNo) = true) : ∀ {l : List (Sm × Nat)}, (∀ p, p ∈ l → SmAt P fn n0 p.1 p.2) → ∀ d, d ∈ loopsOf (fn.body.getD .skip) → LoopOk P fn.ntmps n0 (smL n0 (l.map (·.1))) d
  | [], _, d, _ => LoopOk.none
  | (s, k) :: r, H, d, hd => by
    intro fr h x fr' h' e
    simp only [List.map_cons, smL] at e
    split at e
    · rename_i hid
      have hid := Nat.eq_of_beq_eq_true hid
      obtain ⟨h1, h2, h3⟩ := H (s, k) (by simp)
      split at e <;> try simp only [reduceCtorEq] at e
      rename_i f g ht
      obtain ⟨j, hj, hjd⟩ := List.mem_iff_getElem.1 hd
      have hjk : j = k := by
        have hn := nodupN_iff hnd
        refine nodup_inj (x := s.id) hn ?_ ?_
        · rw [List.getElem?_map, List.getElem?_eq_getElem hj, hjd]; simp [hid]
        · have : loopBody fn k = (loopsOf (fn.body.getD .skip))[k] := by simp [loopBody, List.getD_eq_getElem?_getD, List.getElem?_eq_getElem h2]
          rw [List.getElem?_map, List.getElem?_eq_getElem h2, ← this]; simp only at h1; simp [h1]
      subst hjk
      have : loopBody fn j = d := by simp [loopBody, List.getD_eq_getElem?_getD, List.getElem?_eq_getElem h2, hjd]
      subst this
      exact Runs.weaken (tell_weaker ht) (h3 _ _ _ _ _ e)
    · exact smL_at hnd (fun p hp => H p (by simp [hp])) d hd fr h x fr' h' e

theorem LoopsOk.of {P : Program} {fn : Func} {n0 : Nat} (l : List (Sm × Nat)) (hnd : nodupN ((loopsOf (fn.body.getD .skip)).map headNo) = true) (H : ∀ p, p ∈ l → SmAt P fn n0 p.1 p.2) : LoopsOk P fn n0 (smL n0 (l.map (·.1))) := by
  intro c hc d hd
  have : fn.body.getD .skip = c := by rw [hc]; rfl
  rw [← this] at hd
  exact smL_at hnd H d hd

/-- the loops in a loop -/
theorem LoopsOk.inner {P : Program} {fn : Func} {n0 : Nat} {L : Loops} (H : LoopsOk P fn n0 L) {c : Code} (hs : ∀ d, d ∈ loopsOf c → d ∈ loopsOf (fn.body.getD .skip)) : ∀ d, d ∈ loopsOf c → LoopOk P fn.ntmps n0 L d := by
  intro d hd
  cases hb : fn.body with
  | none =>
    have := hs d hd
    rw [hb] at this
    simp [loopsOf] at this
  | some b => exact H b hb d (by have := hs d hd; rw [hb] at this; exact this)

def whS {α : Type} (id : Nat) (slots : List Nat) (read : Fr → Heap → Option α) (ok : α → Bool) (E : α → X × Fr × Heap) : Sm :=
  ⟨id, slots, fun fr h => match read fr h with | some a => some (ok a, E a) | none => none⟩

/-- a loop that goes from state to state -/
theorem whS_at {P : Program} {fn : Func} {n0 : Nat} {α : Type} {id : Nat} {slots : List Nat} {read : Fr → Heap → Option α} {ok : α → Bool} {E : α → X × Fr × Heap} {k : Nat} (S : α → Fr × Heap) (μ : α → Nat)
    (hid : headNo (loopBody fn k) = id) (hk : Nat.blt k (loopsOf (fn.body.getD .skip)).length = true) (hr : ∀ f g a, read f g = some a → (f, g) = S a)
    (round : ∀ a, ok a = true → (∃ a', ok a' = true ∧ μ a' < μ a ∧ E a' = E a ∧ Runs P fn.ntmps n0 (loopBody fn k) (S a).1 (S a).2 (EndW fn.ntmps n0 .normal (S a').1 (S a').2)) ∨
      ((E a).1 ≠ .normal ∧ Runs P fn.ntmps n0 (loopBody fn k) (S a).1 (S a).2 (EndW fn.ntmps n0 (E a).1 (E a).2.1 (E a).2.2))) : SmAt P fn n0 (whS id slots read ok E) k := by
  refine ⟨hid, Nat.le_of_ble_eq_true hk, ?_⟩
  intro fr h x fr' h' e
  simp only [whS] at e
  split at e <;> simp only [Option.some.injEq, Prod.mk.injEq, reduceCtorEq] at e
  rename_i a ha
  obtain ⟨h1, h2⟩ := e
  have hS := hr _ _ _ ha
  obtain ⟨e1, e2⟩ : fr = (S a).1 ∧ h = (S a).2 := by rw [← hS]; exact ⟨rfl, rfl⟩
  subst e1; subst e2
  refine Runs.rounds (fun a => S a) (fun b => ok b = true ∧ E b = E a) μ a ⟨h1, rfl⟩ ?_
  rintro b ⟨hb, hE⟩
  rcases round b hb with ⟨a', q1, q2, q3, q4⟩ | ⟨q1, q2⟩
  · exact .inl ⟨a', ⟨q1, q3.trans hE⟩, q2, q4⟩
  · refine .inr ⟨_, _, _, q1, q2, ?_⟩
    intro f g hw
    rw [hE, h2] at hw
    rw [hE, h2]
    exact hw

/-- a loop that counts -/
theorem cnt_at {P : Program} {fn : Func} {n0 : Nat} {α : Type} {id : Nat} {slots : List Nat} {read : Fr → Heap → Option α} {ok : α → Bool} {E : α → X × Fr × Heap} {k : Nat} (S : α → Nat → Fr × Heap) (m : α → Nat)
    (hid : headNo (loopBody fn k) = id) (hk : Nat.blt k (loopsOf (fn.body.getD .skip)).length = true) (hr : ∀ f g a, read f g = some a → (f, g) = S a 0) (hx : ∀ a, (E a).1 ≠ .normal)
    (body : ∀ a, ok a = true → ∀ n, n < m a → Runs P fn.ntmps n0 (loopBody fn k) (S a n).1 (S a n).2 (EndW fn.ntmps n0 .normal (S a (n + 1)).1 (S a (n + 1)).2))
    (last : ∀ a, ok a = true → Runs P fn.ntmps n0 (loopBody fn k) (S a (m a)).1 (S a (m a)).2 (EndW fn.ntmps n0 (E a).1 (E a).2.1 (E a).2.2)) : SmAt P fn n0 (whS id slots read ok E) k := by
  refine ⟨hid, Nat.le_of_ble_eq_true hk, ?_⟩
  intro fr h x fr' h' e
  simp only [whS] at e
  split at e <;> simp only [Option.some.injEq, Prod.mk.injEq, reduceCtorEq] at e
  rename_i a ha
  obtain ⟨h1, h2⟩ := e
  have hS := hr _ _ _ ha
  obtain ⟨e1, e2⟩ : fr = (S a 0).1 ∧ h = (S a 0).2 := by rw [← hS]; exact ⟨rfl, rfl⟩
  subst e1; subst e2
  have e3 : x = (E a).1 ∧ fr' = (E a).2.1 ∧ h' = (E a).2.2 := by rw [h2]; exact ⟨rfl, rfl, rfl⟩
  obtain ⟨rfl, rfl, rfl⟩ := e3
  exact Runs.count (S a) (m a) (hx a) (body a h1) (last a h1)

theorem loopsOf_trans {c d : Code} : ∀ {b : Code}, c ∈ loopsOf b → d ∈ loopsOf c → d ∈ loopsOf b := by
  intro b
  induction b with
  | seq x y ihx ihy => intro h hd; simp only [loopsOf, List.mem_append] at h ⊢; exact h.elim (fun h => .inl (ihx h hd)) (fun h => .inr (ihy h hd))
  | cond o x y ihx ihy => intro h hd; simp only [loopsOf, List.mem_append] at h ⊢; exact h.elim (fun h => .inl (ihx h hd)) (fun h => .inr (ihy h hd))
  | block i x ih => intro h hd; simp only [loopsOf] at h ⊢; exact ih h hd
  | loop x ih => intro h hd; simp only [loopsOf, List.mem_cons] at h ⊢; rcases h with rfl | h; exact .inr hd; exact .inr (ih h hd)
  | _ => intro h _; simp [loopsOf] at h

/-- the loops in a loop -/
theorem LoopsOk.innerAt {P : Program} {fn : Func} {n0 : Nat} {L : Loops} (H : LoopsOk P fn n0 L) (k : Nat) : ∀ d, d ∈ loopsOf (loopBody fn k) → LoopOk P fn.ntmps n0 L d := by
  refine LoopsOk.inner H fun d hd => ?_
  by_cases hk : k < (loopsOf (fn.body.getD .skip)).length
  · have : loopBody fn k ∈ loopsOf (fn.body.getD .skip) := by
      have e : loopBody fn k = (loopsOf (fn.body.getD .skip))[k] := by simp [loopBody, List.getD_eq_getElem?_getD, List.getElem?_eq_getElem hk]
      rw [e]; exact List.getElem_mem hk
    exact loopsOf_trans this hd
  · have : loopBody fn k = .skip := by simp [loopBody, List.getD_eq_getElem?_getD, List.getElem?_eq_none (Nat.le_of_not_lt hk)]
    rw [this] at hd
    simp [loopsOf] at hd

theorem stX {k : Bool} {x : X} {f f' : Fr} {h h' : Heap} (hk : k = true) (hf : f = f') (hh : h = h') : some (k, x, f, h) = some (true, x, f', h') := by rw [hk, hf, hh]
theorem stF {k : Bool} {f f' : Fin} {h h' : Heap} (hk : k = true) (hf : f = f') (hh : h = h') : some (k, f, h) = some (true, f', h') := by rw [hk, hf, hh]

theorem lit_mul (a b : Nat) : (no_index (OfNat.ofNat a) : Int) * (b : Int) = ((OfNat.ofNat a * b : Nat) : Int) := by simp
theorem lit_add (a b : Nat) : (no_index (OfNat.ofNat a) : Int) + (b : Int) = ((OfNat.ofNat a + b : Nat) : Int) := by simp
theorem add_nat (a b : Nat) : (a : Int) + (b : Int) = ((a + b : Nat) : Int) := by simp
theorem mul_nat (a b : Nat) : (a : Int) * (b : Int) = ((a * b : Nat) : Int) := by simp
theorem sub_lit (a b : Nat) (h : OfNat.ofNat b ≤ a) : (a : Int) - (no_index (OfNat.ofNat b)) = ((a - OfNat.ofNat b : Nat) : Int) := by
  have : (OfNat.ofNat b : Int) = ((OfNat.ofNat b : Nat) : Int) := rfl
  rw [this]; omega
theorem lit_sub (a b : Nat) (h : b ≤ OfNat.ofNat a) : (no_index (OfNat.ofNat a) : Int) - (b : Int) = ((OfNat.ofNat a - b : Nat) : Int) := by
  have : (OfNat.ofNat a : Int) = ((OfNat.ofNat a : Nat) : Int) := rfl
  rw [this]; omega
theorem sub_nat (a b : Nat) (h : b ≤ a) : (a : Int) - (b : Int) = ((a - b : Nat) : Int) := by omega
theorem toNat_lit (a : Nat) : (no_index (OfNat.ofNat a) : Int).toNat = OfNat.ofNat a := rfl
/-- functions of which one knows that they leave the heap as it was -/
def withRo (base : Orc) (l : List FuncId) (h : ∀ f, memN f l = true → ∀ args h r, base.fn f args h = some r → r.2.2 = h) : Orc := { fn := base.fn, ext := base.ext, asm := base.asm, ro := fun f => memN f l, roOk := h }
theorem withRo_sound {P : Program} {base : Orc} {l : List FuncId} {hl : ∀ f, memN f l = true → ∀ args h r, base.fn f args h = some r → r.2.2 = h} (h : OrcSound P base) : OrcSound P (withRo base l hl) := ⟨h.fn, h.enters, h.ext⟩
end Go.Lh
end
section
namespace Go.Lh
theorem slice_spot {P : Program} {w : World} {r : Reach} {base : Nat} {t e : TypeId} {a : Addr} {len cap : Nat} (ht : P.underlying t = some (.slice e)) (h : Value.okWide P w r base t (.slice (some a) len cap)) : a.spot = none := by
  simp only [Value.okWide, ht, Cell.okWide, Cell.ok] at h
  exact h.2.2.2.1
theorem isl_u64 {w : World} {x : Addr} {len cap : Nat} {zs : List Int} (hs : x.spot = none) (hb : x.block < w.heap.size) (hl : len ≤ cap) (hz : zs.length = cap)
    (hc : ∀ i, i < zs.length → w.cell? (x.add i) = some (.int .u64 (zs.getD i 0))) (hw : ∀ n ∈ zs, (Lit.int .u64 n).wf = true) (ρ : Ren) :
    VRel (Old w) w ρ (.isl 1 len (fun i _ => .u64 (BitVec.ofInt 64 (zs.getD i 0)))) (.slice (some x) len cap) := by
  obtain ⟨b, o, sp⟩ := x
  simp only at hs hb
  subst hs
  refine .isl ρ 1 len _ b o cap (fun i _ => .int .u64 (zs.getD i 0)) hb hl ?_ ?_
  · intro i j hi hj
    have := hc i (by omega)
    rw [add_eq] at this
    rw [show o + i * 1 + j = o + i by omega]
    exact this
  · intro i j hi hj
    have hm : zs.getD i 0 ∈ zs := by
      rw [List.getD_eq_getElem?_getD, List.getElem?_eq_getElem (by omega)]
      exact List.getElem_mem _
    have := hw _ hm
    have h2 : 0 ≤ zs.getD i 0 ∧ zs.getD i 0 < 18446744073709551616 := by
      simp only [Lit.wf, IntKind.min, IntKind.max, IntKind.signed, IntKind.bits, Bool.and_eq_true, decide_eq_true_eq] at this
      simp at this
      simp only [List.getD_eq_getElem?_getD]
      omega
    have e : zs.getD i 0 = ((BitVec.ofInt 64 (zs.getD i 0)).toNat : Int) := by
      rw [BitVec.toNat_ofInt]
      have : (zs.getD i 0 % ((2 ^ 64 : Nat) : Int)) = zs.getD i 0 := Int.emod_eq_of_lt h2.1 (by have := h2.2; simpa using this)
      rw [this]; omega
    have r := VRel.u64 (I := Old w) (w := w) (fun _ => none) (BitVec.ofInt 64 (zs.getD i 0))
    rw [← e] at r
    exact r

theorem vu8 {I : Nat → Prop} {w : World} {ρ : Ren} {n : Int} (h : (Lit.int .u8 n).wf = true) : VRel I w ρ (.u8 (BitVec.ofInt 8 n)) (.int .u8 n) := by
  simp only [Lit.wf, IntKind.min, IntKind.max, IntKind.signed, IntKind.bits, Bool.and_eq_true, decide_eq_true_eq] at h
  simp at h
  have e : n = ((BitVec.ofInt 8 n).toNat : Int) := by
    rw [BitVec.toNat_ofInt, Int.toNat_of_nonneg (Int.emod_nonneg _ (by decide))]
    exact (Int.emod_eq_of_lt h.1 (by simp; omega)).symm
  have r := VRel.u8 (I := I) (w := w) ρ (BitVec.ofInt 8 n)
  rw [← e] at r
  exact r
theorem vu16 {I : Nat → Prop} {w : World} {ρ : Ren} {n : Int} (h : (Lit.int .u16 n).wf = true) : VRel I w ρ (.u16 (BitVec.ofInt 16 n)) (.int .u16 n) := by
  simp only [Lit.wf, IntKind.min, IntKind.max, IntKind.signed, IntKind.bits, Bool.and_eq_true, decide_eq_true_eq] at h
  simp at h
  have e : n = ((BitVec.ofInt 16 n).toNat : Int) := by
    rw [BitVec.toNat_ofInt, Int.toNat_of_nonneg (Int.emod_nonneg _ (by decide))]
    exact (Int.emod_eq_of_lt h.1 (by simp; omega)).symm
  have r := VRel.u16 (I := I) (w := w) ρ (BitVec.ofInt 16 n)
  rw [← e] at r
  exact r
theorem vu32 {I : Nat → Prop} {w : World} {ρ : Ren} {n : Int} (h : (Lit.int .u32 n).wf = true) : VRel I w ρ (.u32 (BitVec.ofInt 32 n)) (.int .u32 n) := by
  simp only [Lit.wf, IntKind.min, IntKind.max, IntKind.signed, IntKind.bits, Bool.and_eq_true, decide_eq_true_eq] at h
  simp at h
  have e : n = ((BitVec.ofInt 32 n).toNat : Int) := by
    rw [BitVec.toNat_ofInt, Int.toNat_of_nonneg (Int.emod_nonneg _ (by decide))]
    exact (Int.emod_eq_of_lt h.1 (by simp; omega)).symm
  have r := VRel.u32 (I := I) (w := w) ρ (BitVec.ofInt 32 n)
  rw [← e] at r
  exact r
theorem vu64 {I : Nat → Prop} {w : World} {ρ : Ren} {n : Int} (h : (Lit.int .u64 n).wf = true) : VRel I w ρ (.u64 (BitVec.ofInt 64 n)) (.int .u64 n) := by
  simp only [Lit.wf, IntKind.min, IntKind.max, IntKind.signed, IntKind.bits, Bool.and_eq_true, decide_eq_true_eq] at h
  simp at h
  have e : n = ((BitVec.ofInt 64 n).toNat : Int) := by
    rw [BitVec.toNat_ofInt, Int.toNat_of_nonneg (Int.emod_nonneg _ (by decide))]
    exact (Int.emod_eq_of_lt h.1 (by simp; omega)).symm
  have r := VRel.u64 (I := I) (w := w) ρ (BitVec.ofInt 64 n)
  rw [← e] at r
  exact r
theorem slice_block {P : Program} {w : World} {r : Reach} {base : Nat} {t e : TypeId} {a : Addr} {len cap : Nat} (ht : P.underlying t = some (.slice e)) (h : Value.okWide P w r base t (.slice (some a) len cap)) : a.block < w.heap.size := by
  simp only [Value.okWide, ht, Cell.okWide, Cell.ok] at h
  obtain ⟨_, _, _, _, row, cells, hs, _⟩ := h
  unfold World.shape? at hs
  split at hs
  · rename_i e; exact (Array.getElem?_eq_some_iff.1 e).1
  · cases hs
theorem slice_at {P : Program} {w : World} {r : Reach} {base : Nat} {t e : TypeId} {a : Option Addr} {len cap : Nat} (ht : P.underlying t = some (.slice e)) (h : Value.okWide P w r base t (.slice a len cap)) : ∀ x, a = some x → x.spot = none ∧ x.block < w.heap.size := by
  rintro x rfl
  exact ⟨slice_spot ht h, slice_block ht h⟩
theorem int_lt {n : Int} (h : (Lit.int .i64 n).wf = true) : n < 9223372036854775808 := by
  simp only [Lit.wf, IntKind.min, IntKind.max, IntKind.signed, IntKind.bits, Bool.and_eq_true, decide_eq_true_eq] at h
  simp at h
  omega
theorem int_ge {n : Int} (h : (Lit.int .i64 n).wf = true) : -9223372036854775808 ≤ n := by
  simp only [Lit.wf, IntKind.min, IntKind.max, IntKind.signed, IntKind.bits, Bool.and_eq_true, decide_eq_true_eq] at h
  simp at h
  omega
end Go.Lh
end
section
namespace Go.Lh

structure W4 where
  a : BitVec 64
  b : BitVec 64
  c : BitVec 64
  d : BitVec 64
  deriving DecidableEq

namespace W4
def v (x : W4) : V := .agg [.u64 x.a, .u64 x.b, .u64 x.c, .u64 x.d]
def n (x : W4) : Nat := 2 ^ 192 * x.a.toNat + (2 ^ 128 * x.b.toNat + (2 ^ 64 * x.c.toNat + x.d.toNat))
def bv (x : W4) : BitVec 256 := BitVec.ofNat 256 x.n
def of (y : BitVec 256) : W4 := ⟨y.extractLsb' 192 64, y.extractLsb' 128 64, y.extractLsb' 64 64, y.extractLsb' 0 64⟩

theorem n_lt (x : W4) : x.n < 2 ^ 256 := by
  have := x.a.isLt; have := x.b.isLt; have := x.c.isLt; have := x.d.isLt
  unfold n; omega
theorem bv_toNat (x : W4) : x.bv.toNat = x.n := by
  unfold bv; rw [BitVec.toNat_ofNat, Nat.mod_eq_of_lt x.n_lt]
theorem ext_n {x y : W4} (h : x.n = y.n) : x = y := by
  have := x.a.isLt; have := x.b.isLt; have := x.c.isLt; have := x.d.isLt
  have := y.a.isLt; have := y.b.isLt; have := y.c.isLt; have := y.d.isLt
  cases x; cases y
  simp only [n] at h
  simp only [mk.injEq]
  refine ⟨?_, ?_, ?_, ?_⟩ <;> apply BitVec.eq_of_toNat_eq <;> simp only at * <;> omega
theorem ext_bv {x y : W4} (h : x.bv = y.bv) : x = y := ext_n (by rw [← bv_toNat, ← bv_toNat, h])
theorem of_toNat (y : BitVec 256) : (of y).n = y.toNat := by
  have := y.isLt
  simp only [n, of, BitVec.extractLsb'_toNat, Nat.shiftRight_eq_div_pow]
  omega
theorem bv_of (y : BitVec 256) : (of y).bv = y := BitVec.eq_of_toNat_eq (by rw [bv_toNat, of_toNat])
theorem of_bv (x : W4) : of x.bv = x := ext_bv (bv_of _)
theorem bv_inj {x y : W4} : x.bv = y.bv ↔ x = y := ⟨ext_bv, fun h => by rw [h]⟩
theorem of_inj {x y : BitVec 256} : of x = of y ↔ x = y := ⟨fun h => by rw [← bv_of x, h, bv_of], fun h => by rw [h]⟩
theorem of_eq {x : BitVec 256} {y : W4} (h : y.bv = x) : of x = y := by rw [← h, of_bv]
theorem eq_of {x : BitVec 256} {y : W4} (h : y.bv = x) : y = of x := (of_eq h).symm

/-- one of four, by the place -/
def sel (i : Nat) (d c b a : Nat → Bool) : Bool := if i < 64 then d i else if i < 128 then c (i - 64) else if i < 192 then b (i - 128) else a (i - 192)
theorem sel_congr {i : Nat} (hi : i < 256) {d c b a d' c' b' a' : Nat → Bool} (hd : ∀ j, j < 64 → d j = d' j) (hc : ∀ j, j < 64 → c j = c' j) (hb : ∀ j, j < 64 → b j = b' j) (ha : ∀ j, j < 64 → a j = a' j) : sel i d c b a = sel i d' c' b' a' := by
  unfold sel
  by_cases h1 : i < 64
  · rw [if_pos h1, if_pos h1, hd _ h1]
  · rw [if_neg h1, if_neg h1]
    by_cases h2 : i < 128
    · rw [if_pos h2, if_pos h2, hc _ (by omega)]
    · rw [if_neg h2, if_neg h2]
      by_cases h3 : i < 192
      · rw [if_pos h3, if_pos h3, hb _ (by omega)]
      · rw [if_neg h3, if_neg h3, ha _ (by omega)]
theorem sel_two (f : Bool → Bool → Bool) (i : Nat) (d c b a d' c' b' a' : Nat → Bool) : f (sel i d c b a) (sel i d' c' b' a') = sel i (fun j => f (d j) (d' j)) (fun j => f (c j) (c' j)) (fun j => f (b j) (b' j)) (fun j => f (a j) (a' j)) := by
  unfold sel
  by_cases h1 : i < 64
  · rw [if_pos h1, if_pos h1, if_pos h1]
  · rw [if_neg h1, if_neg h1, if_neg h1]
    by_cases h2 : i < 128
    · rw [if_pos h2, if_pos h2, if_pos h2]
    · rw [if_neg h2, if_neg h2, if_neg h2]
      by_cases h3 : i < 192
      · rw [if_pos h3, if_pos h3, if_pos h3]
      · rw [if_neg h3, if_neg h3, if_neg h3]
theorem bit (x : W4) (i : Nat) : x.bv.getLsbD i = sel i x.d.getLsbD x.c.getLsbD x.b.getLsbD x.a.getLsbD := by
  have ha := x.a.isLt; have hb := x.b.isLt; have hc := x.c.isLt; have hd := x.d.isLt
  have e : x.bv.getLsbD i = x.n.testBit i := by rw [← bv_toNat]; rfl
  rw [e]
  unfold n sel
  rw [Nat.testBit_two_pow_mul_add _ (by omega), Nat.testBit_two_pow_mul_add _ (by omega), Nat.testBit_two_pow_mul_add _ hd]
  simp only [BitVec.getLsbD]
  by_cases h1 : i < 64
  · rw [if_pos (by omega), if_pos (by omega), if_pos h1, if_pos h1]
  · by_cases h2 : i < 128
    · rw [if_pos (by omega), if_pos h2, if_neg h1, if_neg h1, if_pos h2]
    · by_cases h3 : i < 192
      · rw [if_pos h3, if_neg h2, if_neg h1, if_neg h2, if_pos h3]
      · rw [if_neg h3, if_neg h1, if_neg h2, if_neg h3]

def zero : W4 := ⟨0, 0, 0, 0⟩
def small (n : BitVec 64) : W4 := ⟨0, 0, 0, n⟩
theorem zero_bv : zero.bv = 0 := rfl
theorem small_n (m : BitVec 64) : (small m).n = m.toNat := by simp [small, n]
theorem small_bv (m : BitVec 64) : (small m).bv = m.setWidth 256 := by
  apply BitVec.eq_of_toNat_eq
  rw [bv_toNat, small_n, BitVec.toNat_setWidth]
  have := m.isLt
  omega

/-- part by part -/
def map2 (f : BitVec 64 → BitVec 64 → BitVec 64) (x y : W4) : W4 := ⟨f x.a y.a, f x.b y.b, f x.c y.c, f x.d y.d⟩
def andW (x y : W4) : W4 := ⟨x.a &&& y.a, x.b &&& y.b, x.c &&& y.c, x.d &&& y.d⟩
def orW (x y : W4) : W4 := ⟨x.a ||| y.a, x.b ||| y.b, x.c ||| y.c, x.d ||| y.d⟩
def xorW (x y : W4) : W4 := ⟨x.a ^^^ y.a, x.b ^^^ y.b, x.c ^^^ y.c, x.d ^^^ y.d⟩
def notW (x : W4) : W4 := ⟨~~~x.a, ~~~x.b, ~~~x.c, ~~~x.d⟩
theorem andW_bv (x y : W4) : (andW x y).bv = x.bv &&& y.bv := by
  apply BitVec.eq_of_getLsbD_eq; intro i hi
  rw [BitVec.getLsbD_and, bit, bit, bit]
  refine Eq.trans ?_ (sel_two Bool.and i _ _ _ _ _ _ _ _).symm
  refine sel_congr hi ?_ ?_ ?_ ?_ <;> intro j hj <;> exact BitVec.getLsbD_and
theorem orW_bv (x y : W4) : (orW x y).bv = x.bv ||| y.bv := by
  apply BitVec.eq_of_getLsbD_eq; intro i hi
  rw [BitVec.getLsbD_or, bit, bit, bit]
  refine Eq.trans ?_ (sel_two Bool.or i _ _ _ _ _ _ _ _).symm
  refine sel_congr hi ?_ ?_ ?_ ?_ <;> intro j hj <;> exact BitVec.getLsbD_or
theorem xorW_bv (x y : W4) : (xorW x y).bv = x.bv ^^^ y.bv := by
  apply BitVec.eq_of_getLsbD_eq; intro i hi
  rw [BitVec.getLsbD_xor, bit, bit, bit]
  refine Eq.trans ?_ (sel_two Bool.xor i _ _ _ _ _ _ _ _).symm
  refine sel_congr hi ?_ ?_ ?_ ?_ <;> intro j hj <;> exact BitVec.getLsbD_xor
theorem notW_bv (x : W4) : (notW x).bv = ~~~x.bv := by
  apply BitVec.eq_of_getLsbD_eq; intro i hi
  rw [BitVec.getLsbD_not, bit, bit, decide_eq_true hi, Bool.true_and]
  refine Eq.trans ?_ (sel_two (fun p _ => !p) i _ _ _ _ x.d.getLsbD x.c.getLsbD x.b.getLsbD x.a.getLsbD).symm
  refine sel_congr hi ?_ ?_ ?_ ?_ <;> intro j hj <;> (refine (BitVec.getLsbD_not).trans ?_) <;> rw [decide_eq_true hj, Bool.true_and]

def add (x y : W4) : W4 := of (x.bv + y.bv)
def sub (x y : W4) : W4 := of (x.bv - y.bv)
def mul (x y : W4) : W4 := of (x.bv * y.bv)
def lt (x y : W4) : Bool := decide (x.n < y.n)

theorem beq (x y : W4) : (x == y) = (x.a == y.a && (x.b == y.b && (x.c == y.c && x.d == y.d))) := by
  rw [Bool.eq_iff_iff]
  cases x; cases y
  simp
end W4

/-! ### with a carry -/
def sumC (x y c : BitVec 64) : BitVec 64 := x + y + c
def outC (x y c : BitVec 64) : BitVec 64 := ((x &&& y) ||| ((x ||| y) &&& ~~~(x + y + c))) >>> 63
def difB (x y c : BitVec 64) : BitVec 64 := x - y - c
def outB (x y c : BitVec 64) : BitVec 64 := ((~~~x &&& y) ||| (~~~(x ^^^ y) &&& (x - y - c))) >>> 63

theorem top_bit (x : BitVec 64) : (x >>> 63).toNat = if x.msb then 1 else 0 := by
  have := x.isLt
  rw [BitVec.toNat_ushiftRight, Nat.shiftRight_eq_div_pow, BitVec.msb_eq_decide]
  simp only [decide_eq_true_eq]
  split <;> omega
theorem msb_iff (x : BitVec 64) : x.msb = decide (9223372036854775808 ≤ x.toNat) := by rw [BitVec.msb_eq_decide]

theorem outC_toNat (x y c : BitVec 64) (hc : c.toNat ≤ 1) : (outC x y c).toNat = (x.toNat + y.toNat + c.toNat) / 2 ^ 64 := by
  have hx := x.isLt; have hy := y.isLt
  unfold outC
  rw [top_bit]
  have hs : (x + y + c).toNat = (x.toNat + y.toNat + c.toNat) % 2 ^ 64 := by
    rw [BitVec.toNat_add, BitVec.toNat_add]; omega
  have h1 := msb_iff x; have h2 := msb_iff y; have h3 := msb_iff (x + y + c)
  rw [hs] at h3
  have e : ((x &&& y) ||| ((x ||| y) &&& ~~~(x + y + c))).msb = ((x.msb && y.msb) || ((x.msb || y.msb) && !(x + y + c).msb)) := by
    simp [BitVec.msb_or, BitVec.msb_and, BitVec.msb_not]
  rw [e, h1, h2, h3]
  by_cases a : 9223372036854775808 ≤ x.toNat <;> by_cases b : 9223372036854775808 ≤ y.toNat <;> by_cases d : 9223372036854775808 ≤ (x.toNat + y.toNat + c.toNat) % 2 ^ 64 <;> simp [a, b, d] <;> try omega
theorem sumC_toNat (x y c : BitVec 64) : (sumC x y c).toNat = (x.toNat + y.toNat + c.toNat) % 2 ^ 64 := by
  unfold sumC; rw [BitVec.toNat_add, BitVec.toNat_add]; omega
theorem outC_le (x y c : BitVec 64) (hc : c.toNat ≤ 1) : (outC x y c).toNat ≤ 1 := by
  rw [outC_toNat x y c hc]
  have hx := x.isLt; have hy := y.isLt; omega

theorem difB_toNat (x y c : BitVec 64) (hc : c.toNat ≤ 1) : (difB x y c).toNat = (x.toNat + 2 ^ 65 - y.toNat - c.toNat) % 2 ^ 64 := by
  have hx := x.isLt; have hy := y.isLt
  unfold difB; rw [BitVec.toNat_sub, BitVec.toNat_sub]; omega
theorem outB_toNat (x y c : BitVec 64) (hc : c.toNat ≤ 1) : (outB x y c).toNat = if x.toNat < y.toNat + c.toNat then 1 else 0 := by
  have hx := x.isLt; have hy := y.isLt
  unfold outB
  rw [top_bit]
  have hs := difB_toNat x y c hc
  unfold difB at hs
  have h1 := msb_iff x; have h2 := msb_iff y; have h3 := msb_iff (x - y - c)
  rw [hs] at h3
  have e : ((~~~x &&& y) ||| (~~~(x ^^^ y) &&& (x - y - c))).msb = ((!x.msb && y.msb) || (!(x.msb ^^ y.msb) && (x - y - c).msb)) := by
    simp [BitVec.msb_or, BitVec.msb_and, BitVec.msb_not, BitVec.msb_xor]
  rw [e, h1, h2, h3]
  by_cases a : 9223372036854775808 ≤ x.toNat <;> by_cases b : 9223372036854775808 ≤ y.toNat <;> by_cases d : 9223372036854775808 ≤ (x.toNat + 2 ^ 65 - y.toNat - c.toNat) % 2 ^ 64 <;> simp [a, b, d] <;> try omega
theorem outB_le (x y c : BitVec 64) (hc : c.toNat ≤ 1) : (outB x y c).toNat ≤ 1 := by
  rw [outB_toNat x y c hc]; split <;> omega

namespace W4
/-- the sum, part by part -/
def addP (x y : W4) : W4 :=
  ⟨sumC x.a y.a (outC x.b y.b (outC x.c y.c (outC x.d y.d 0))), sumC x.b y.b (outC x.c y.c (outC x.d y.d 0)), sumC x.c y.c (outC x.d y.d 0), sumC x.d y.d 0⟩
theorem addP_eq (x y : W4) : addP x y = add x y := by
  apply ext_n
  unfold add
  rw [of_toNat, BitVec.toNat_add, bv_toNat, bv_toNat]
  have h0 : (0 : BitVec 64).toNat ≤ 1 := by decide
  have e1 := outC_toNat x.d y.d 0 h0
  have l1 := outC_le x.d y.d 0 h0
  have e2 := outC_toNat x.c y.c _ l1
  have l2 := outC_le x.c y.c _ l1
  have e3 := outC_toNat x.b y.b _ l2
  have l3 := outC_le x.b y.b _ l2
  have s0 := sumC_toNat x.d y.d 0
  have s1 := sumC_toNat x.c y.c (outC x.d y.d 0)
  have s2 := sumC_toNat x.b y.b (outC x.c y.c (outC x.d y.d 0))
  have s3 := sumC_toNat x.a y.a (outC x.b y.b (outC x.c y.c (outC x.d y.d 0)))
  have z : (0 : BitVec 64).toNat = 0 := rfl
  rw [z] at e1 s0
  have := x.a.isLt; have := x.b.isLt; have := x.c.isLt; have := x.d.isLt
  have := y.a.isLt; have := y.b.isLt; have := y.c.isLt; have := y.d.isLt
  simp only [n, addP]
  omega
def subP (x y : W4) : W4 :=
  ⟨difB x.a y.a (outB x.b y.b (outB x.c y.c (outB x.d y.d 0))), difB x.b y.b (outB x.c y.c (outB x.d y.d 0)), difB x.c y.c (outB x.d y.d 0), difB x.d y.d 0⟩
def ltP (x y : W4) : BitVec 64 := outB x.a y.a (outB x.b y.b (outB x.c y.c (outB x.d y.d 0)))
theorem subP_eq (x y : W4) : subP x y = sub x y := by
  apply ext_n
  unfold sub
  rw [of_toNat, BitVec.toNat_sub, bv_toNat, bv_toNat]
  have h0 : (0 : BitVec 64).toNat ≤ 1 := by decide
  have e1 := outB_toNat x.d y.d 0 h0
  have l1 := outB_le x.d y.d 0 h0
  have e2 := outB_toNat x.c y.c _ l1
  have l2 := outB_le x.c y.c _ l1
  have e3 := outB_toNat x.b y.b _ l2
  have l3 := outB_le x.b y.b _ l2
  have s0 := difB_toNat x.d y.d 0 h0
  have s1 := difB_toNat x.c y.c (outB x.d y.d 0) l1
  have s2 := difB_toNat x.b y.b (outB x.c y.c (outB x.d y.d 0)) l2
  have s3 := difB_toNat x.a y.a (outB x.b y.b (outB x.c y.c (outB x.d y.d 0))) l3
  have z : (0 : BitVec 64).toNat = 0 := rfl
  rw [z] at e1 s0
  have := x.a.isLt; have := x.b.isLt; have := x.c.isLt; have := x.d.isLt
  have := y.a.isLt; have := y.b.isLt; have := y.c.isLt; have := y.d.isLt
  simp only [n, subP]
  generalize outB x.d y.d 0 = c1 at *
  generalize outB x.c y.c c1 = c2 at *
  generalize outB x.b y.b c2 = c3 at *
  split at e1 <;> split at e2 <;> split at e3 <;> omega
theorem ltP_eq (x y : W4) : (ltP x y == 1) = lt x y := by
  have h0 : (0 : BitVec 64).toNat ≤ 1 := by decide
  have e1 := outB_toNat x.d y.d 0 h0
  have l1 := outB_le x.d y.d 0 h0
  have e2 := outB_toNat x.c y.c _ l1
  have l2 := outB_le x.c y.c _ l1
  have e3 := outB_toNat x.b y.b _ l2
  have l3 := outB_le x.b y.b _ l2
  have e4 := outB_toNat x.a y.a _ l3
  have z : (0 : BitVec 64).toNat = 0 := rfl
  rw [z] at e1
  have := x.a.isLt; have := x.b.isLt; have := x.c.isLt; have := x.d.isLt
  have := y.a.isLt; have := y.b.isLt; have := y.c.isLt; have := y.d.isLt
  have k : (ltP x y == 1) = decide ((ltP x y).toNat = 1) := by
    rw [Bool.eq_iff_iff]; simp only [beq_iff_eq, decide_eq_true_eq]; rw [← BitVec.toNat_inj]; rfl
  rw [k]
  unfold lt ltP n
  generalize outB x.d y.d 0 = c1 at *
  generalize outB x.c y.c c1 = c2 at *
  generalize outB x.b y.b c2 = c3 at *
  generalize outB x.a y.a c3 = c4 at *
  rw [Bool.eq_iff_iff]; simp only [decide_eq_true_eq]
  split at e1 <;> split at e2 <;> split at e3 <;> split at e4 <;> constructor <;> intro h <;> omega
end W4

/-! ### products -/
def lo32 (x : BitVec 64) : BitVec 64 := x &&& 4294967295#64
def mulHi (x y : BitVec 64) : BitVec 64 :=
  (x >>> 32) * (y >>> 32) + ((x >>> 32) * lo32 y + (lo32 x * lo32 y) >>> 32) >>> 32 + (lo32 ((x >>> 32) * lo32 y + (lo32 x * lo32 y) >>> 32) + lo32 x * (y >>> 32)) >>> 32
theorem lo32_toNat (x : BitVec 64) : (lo32 x).toNat = x.toNat % 2 ^ 32 := by
  unfold lo32
  rw [BitVec.toNat_and]
  exact Nat.and_two_pow_sub_one_eq_mod x.toNat 32
theorem shr32_toNat (x : BitVec 64) : (x >>> 32).toNat = x.toNat / 2 ^ 32 := by
  rw [BitVec.toNat_ushiftRight, Nat.shiftRight_eq_div_pow]
theorem mulHi_toNat (x y : BitVec 64) : (mulHi x y).toNat = x.toNat * y.toNat / 2 ^ 64 := by
  have hx := x.isLt; have hy := y.isLt
  have x0 : x.toNat % 2 ^ 32 ≤ 4294967295 := by omega
  have x1 : x.toNat / 2 ^ 32 ≤ 4294967295 := by omega
  have y0 : y.toNat % 2 ^ 32 ≤ 4294967295 := by omega
  have y1 : y.toNat / 2 ^ 32 ≤ 4294967295 := by omega
  have p00 := Nat.mul_le_mul x0 y0
  have p01 := Nat.mul_le_mul x0 y1
  have p10 := Nat.mul_le_mul x1 y0
  have p11 := Nat.mul_le_mul x1 y1
  have hxy : x.toNat * y.toNat = (x.toNat / 2 ^ 32) * (y.toNat / 2 ^ 32) * 2 ^ 64 + (x.toNat / 2 ^ 32) * (y.toNat % 2 ^ 32) * 2 ^ 32 + (x.toNat % 2 ^ 32) * (y.toNat / 2 ^ 32) * 2 ^ 32 + (x.toNat % 2 ^ 32) * (y.toNat % 2 ^ 32) := by
    have ex : x.toNat = (x.toNat / 2 ^ 32) * 2 ^ 32 + x.toNat % 2 ^ 32 := by omega
    have ey : y.toNat = (y.toNat / 2 ^ 32) * 2 ^ 32 + y.toNat % 2 ^ 32 := by omega
    generalize x.toNat / 2 ^ 32 = a at *
    generalize x.toNat % 2 ^ 32 = b at *
    generalize y.toNat / 2 ^ 32 = c at *
    generalize y.toNat % 2 ^ 32 = d at *
    rw [ex, ey, Nat.add_mul, Nat.mul_add, Nat.mul_add]
    have q1 : a * 2 ^ 32 * (c * 2 ^ 32) = a * c * 2 ^ 64 := by rw [Nat.mul_mul_mul_comm]
    have q2 : a * 2 ^ 32 * d = a * d * 2 ^ 32 := by rw [Nat.mul_right_comm]
    have q3 : b * (c * 2 ^ 32) = b * c * 2 ^ 32 := by rw [Nat.mul_assoc]
    rw [q1, q2, q3]; omega
  rw [hxy]
  unfold mulHi
  simp only [BitVec.toNat_add, BitVec.toNat_mul, lo32_toNat, shr32_toNat]
  generalize (x.toNat / 2 ^ 32) * (y.toNat / 2 ^ 32) = p11' at *
  generalize (x.toNat / 2 ^ 32) * (y.toNat % 2 ^ 32) = p10' at *
  generalize (x.toNat % 2 ^ 32) * (y.toNat / 2 ^ 32) = p01' at *
  generalize (x.toNat % 2 ^ 32) * (y.toNat % 2 ^ 32) = p00' at *
  omega
end Go.Lh
end
section
namespace Go.Lh
def macLo (l m o c : BitVec 64) : BitVec 64 := sumC (sumC (l * m) o 0) c 0
def macHi (l m o c : BitVec 64) : BitVec 64 := mulHi l m + outC (l * m) o 0 + outC (sumC (l * m) o 0) c 0
theorem mac_eq (l m o c : BitVec 64) : (macLo l m o c).toNat + 2 ^ 64 * (macHi l m o c).toNat = l.toNat * m.toNat + o.toNat + c.toNat := by
  have hl := l.isLt; have hm := m.isLt; have ho := o.isLt; have hc := c.isLt
  have h0 : (0 : BitVec 64).toNat ≤ 1 := by decide
  have e1 := outC_toNat (l * m) o 0 h0
  have e2 := outC_toNat (sumC (l * m) o 0) c 0 h0
  have s1 := sumC_toNat (l * m) o 0
  have s2 := sumC_toNat (sumC (l * m) o 0) c 0
  have hh := mulHi_toNat l m
  have hlo : (l * m).toNat = l.toNat * m.toNat % 2 ^ 64 := BitVec.toNat_mul _ _
  have z : (0 : BitVec 64).toNat = 0 := rfl
  rw [z] at e1 e2 s1 s2
  have hb : l.toNat * m.toNat ≤ 18446744073709551615 * 18446744073709551615 := Nat.mul_le_mul (by omega) (by omega)
  unfold macLo macHi
  rw [BitVec.toNat_add, BitVec.toNat_add, hh, e1, e2, s2, s1, hlo]
  generalize l.toNat * m.toNat = p at *
  omega
namespace W4
theorem mul4 (l a b c d : Nat) : l * (2 ^ 192 * a + (2 ^ 128 * b + (2 ^ 64 * c + d))) = 2 ^ 192 * (l * a) + (2 ^ 128 * (l * b) + (2 ^ 64 * (l * c) + l * d)) := by
  rw [Nat.mul_add, Nat.mul_add, Nat.mul_add, Nat.mul_left_comm l, Nat.mul_left_comm l, Nat.mul_left_comm l]
theorem mul4r (a b c d y : Nat) : (2 ^ 192 * a + (2 ^ 128 * b + (2 ^ 64 * c + d))) * y = 2 ^ 192 * (a * y) + (2 ^ 128 * (b * y) + (2 ^ 64 * (c * y) + d * y)) := by
  rw [Nat.add_mul, Nat.add_mul, Nat.add_mul, Nat.mul_assoc, Nat.mul_assoc, Nat.mul_assoc]
/-- the product, part by part -/
def mulP (x y : W4) : W4 :=
  let o0 := macLo x.d y.d 0 0
  let c0 := macHi x.d y.d 0 0
  let o1 := macLo x.d y.c 0 c0
  let c1 := macHi x.d y.c 0 c0
  let o2 := macLo x.d y.b 0 c1
  let c2 := macHi x.d y.b 0 c1
  let o3 := macLo x.d y.a 0 c2
  let p1 := macLo x.c y.d o1 0
  let d1 := macHi x.c y.d o1 0
  let p2 := macLo x.c y.c o2 d1
  let d2 := macHi x.c y.c o2 d1
  let p3 := macLo x.c y.b o3 d2
  let q2 := macLo x.b y.d p2 0
  let e2 := macHi x.b y.d p2 0
  let q3 := macLo x.b y.c p3 e2
  ⟨macLo x.a y.d q3 0, q2, p1, o0⟩
theorem mulP_eq (x y : W4) : mulP x y = mul x y := by
  apply ext_n
  unfold mul
  rw [of_toNat, BitVec.toNat_mul, bv_toNat, bv_toNat]
  have z : (0 : BitVec 64).toNat = 0 := rfl
  have m0 := mac_eq x.d y.d 0 0
  have m1 := mac_eq x.d y.c 0 (macHi x.d y.d 0 0)
  have m2 := mac_eq x.d y.b 0 (macHi x.d y.c 0 (macHi x.d y.d 0 0))
  have m3 := mac_eq x.d y.a 0 (macHi x.d y.b 0 (macHi x.d y.c 0 (macHi x.d y.d 0 0)))
  simp only [mulP]
  generalize macLo x.d y.d 0 0 = o0 at *
  generalize macHi x.d y.d 0 0 = c0 at *
  generalize macLo x.d y.c 0 c0 = o1 at *
  generalize macHi x.d y.c 0 c0 = c1 at *
  generalize macLo x.d y.b 0 c1 = o2 at *
  generalize macHi x.d y.b 0 c1 = c2 at *
  generalize macLo x.d y.a 0 c2 = o3 at *
  generalize macHi x.d y.a 0 c2 = c3 at *
  have n1 := mac_eq x.c y.d o1 0
  have n2 := mac_eq x.c y.c o2 (macHi x.c y.d o1 0)
  have n3 := mac_eq x.c y.b o3 (macHi x.c y.c o2 (macHi x.c y.d o1 0))
  generalize macLo x.c y.d o1 0 = p1 at *
  generalize macHi x.c y.d o1 0 = d1 at *
  generalize macLo x.c y.c o2 d1 = p2 at *
  generalize macHi x.c y.c o2 d1 = d2 at *
  generalize macLo x.c y.b o3 d2 = p3 at *
  generalize macHi x.c y.b o3 d2 = d3 at *
  have k2 := mac_eq x.b y.d p2 0
  have k3 := mac_eq x.b y.c p3 (macHi x.b y.d p2 0)
  generalize macLo x.b y.d p2 0 = q2 at *
  generalize macHi x.b y.d p2 0 = e2 at *
  generalize macLo x.b y.c p3 e2 = q3 at *
  generalize macHi x.b y.c p3 e2 = e3 at *
  have l3 := mac_eq x.a y.d q3 0
  generalize macLo x.a y.d q3 0 = r3 at *
  generalize macHi x.a y.d q3 0 = f3 at *
  rw [z] at m0 m1 m2 m3 n1 k2 l3
  have hx : x.n * y.n = 2 ^ 192 * (x.a.toNat * y.n) + (2 ^ 128 * (x.b.toNat * y.n) + (2 ^ 64 * (x.c.toNat * y.n) + x.d.toNat * y.n)) := by
    conv => lhs; rw [show x.n = 2 ^ 192 * x.a.toNat + (2 ^ 128 * x.b.toNat + (2 ^ 64 * x.c.toNat + x.d.toNat)) from rfl]
    rw [mul4r]
  have ea : x.a.toNat * y.n = _ := mul4 x.a.toNat y.a.toNat y.b.toNat y.c.toNat y.d.toNat
  have eb : x.b.toNat * y.n = _ := mul4 x.b.toNat y.a.toNat y.b.toNat y.c.toNat y.d.toNat
  have ec : x.c.toNat * y.n = _ := mul4 x.c.toNat y.a.toNat y.b.toNat y.c.toNat y.d.toNat
  have ed : x.d.toNat * y.n = _ := mul4 x.d.toNat y.a.toNat y.b.toNat y.c.toNat y.d.toNat
  rw [hx, ea, eb, ec, ed]
  have g : ∀ (u v : Nat), (⟨r3, q2, p1, o0⟩ : W4).n = u → u % 2 ^ 256 = v % 2 ^ 256 → (⟨r3, q2, p1, o0⟩ : W4).n = v % 2 ^ 256 := by
    intro u v h1 h2
    have := n_lt ⟨r3, q2, p1, o0⟩
    rw [← h2, ← h1, Nat.mod_eq_of_lt this]
  refine g _ _ rfl ?_
  simp only [n]
  generalize x.a.toNat * y.a.toNat = t33 at *
  generalize x.a.toNat * y.b.toNat = t32 at *
  generalize x.a.toNat * y.c.toNat = t31 at *
  generalize x.a.toNat * y.d.toNat = t30 at *
  generalize x.b.toNat * y.a.toNat = t23 at *
  generalize x.b.toNat * y.b.toNat = t22 at *
  generalize x.b.toNat * y.c.toNat = t21 at *
  generalize x.b.toNat * y.d.toNat = t20 at *
  generalize x.c.toNat * y.a.toNat = t13 at *
  generalize x.c.toNat * y.b.toNat = t12 at *
  generalize x.c.toNat * y.c.toNat = t11 at *
  generalize x.c.toNat * y.d.toNat = t10 at *
  generalize x.d.toNat * y.a.toNat = t03 at *
  generalize x.d.toNat * y.b.toNat = t02 at *
  generalize x.d.toNat * y.c.toNat = t01 at *
  generalize x.d.toNat * y.d.toNat = t00 at *
  clear hx ea eb ec ed g
  omega
end W4

/-! ### quotients -/
theorem div_two {a B : Nat} (hB : 0 < B) : a / B = 2 * (a / (2 * B)) + (if B ≤ a % (2 * B) then 1 else 0) ∧ a % B = a % (2 * B) - (if B ≤ a % (2 * B) then B else 0) := by
  have e := Nat.div_add_mod a (2 * B)
  have hr : a % (2 * B) < 2 * B := Nat.mod_lt _ (by omega)
  generalize a / (2 * B) = q at *
  generalize a % (2 * B) = r at *
  have : a = B * (2 * q + (if B ≤ r then 1 else 0)) + (r - (if B ≤ r then B else 0)) := by
    rw [← e, Nat.mul_add, ← Nat.mul_assoc, Nat.mul_comm B 2]
    split <;> omega
  have hlt : r - (if B ≤ r then B else 0) < B := by split <;> omega
  exact (Nat.div_mod_unique hB).2 ⟨by rw [Nat.add_comm]; exact this.symm, hlt⟩
end Go.Lh
end
section
namespace Go.Lh
section
variable {P : Program}
theorem callFunc_extern {f : FuncId} {fn : Func} {e : Array Value → Sem Value} (hf : P.funcs[f]? = some fn) (hname : (fn.name == "runtime.NumGoroutine") = false) (hb : fn.body.isNone = true) (hn : Extern.findNext fn = none) (he : Extern.find fn = some e)
    {args : Array Value} {w w' : World} {v : Value} (hr : (e args).run P w = .ok v w') : (callFunc f args).run P w = .ok (.value v) w' := by
  simp only [callFunc, Sem.run_bind, run_program, Result.andThen_ok, hf, hname, Bool.false_eq_true, if_false, hb, if_true, run_mark, hn, he, hr, Sem.run_pure]

/-- one entry of an oracle for such functions -/
structure ExtAt (P : Program) (f : FuncId) (g : List V → Option (Bool × V)) : Prop where
  ok : ∀ args v, g args = some (true, v) → ∀ (I : Nat → Prop) (w : World) (ρ : Ren) (args' : List Value), VsRel I w ρ args args' → ∃ v', (callFunc f ⟨args'⟩).run P w = .ok (.value v') w ∧ VRel I w ρ v v'

def extL : List (FuncId × (List V → Option (Bool × V))) → FuncId → List V → Option (Bool × V)
  | [], _, _ => none
  | (i, g) :: r, f, args => if Nat.beq i f then g args else extL r f args
theorem extL_nil : ExtOk P (extL []) := fun f args v h => by simp [extL] at h
theorem extL_cons {i : FuncId} {g : List V → Option (Bool × V)} {r : List (FuncId × (List V → Option (Bool × V)))} (h : ExtAt P i g) (hr : ExtOk P (extL r)) : ExtOk P (extL ((i, g) :: r)) := by
  intro f args v hx
  simp only [extL] at hx
  split at hx
  · rename_i e
    have := Nat.eq_of_beq_eq_true e
    subst this
    exact h.ok args v hx
  · exact hr f args v hx

def addX : List V → Option (Bool × V)
  | [.u64 x, .u64 y, .u64 c] => some (decide (c.toNat ≤ 1), .tup [.u64 (sumC x y c), .u64 (outC x y c)])
  | _ => none
def subX : List V → Option (Bool × V)
  | [.u64 x, .u64 y, .u64 c] => some (decide (c.toNat ≤ 1), .tup [.u64 (difB x y c), .u64 (outB x y c)])
  | _ => none
def cntX : List V → Option (Bool × V)
  | [.str s, .u8 c] => some (true, .int .i64 (s.count c : Nat))
  | _ => none

theorem three_u64 {args' : List Value} {I : Nat → Prop} {w : World} {ρ : Ren} {x y c : BitVec 64} (h : VsRel I w ρ [.u64 x, .u64 y, .u64 c] args') : args' = [.int .u64 x.toNat, .int .u64 y.toNat, .int .u64 c.toNat] := by
  cases h with
  | cons _ _ _ _ _ h1 r =>
    cases h1
    cases r with
    | cons _ _ _ _ _ h2 r =>
      cases h2
      cases r with
      | cons _ _ _ _ _ h3 r => cases h3; cases r; rfl

theorem run_three {w : World} (nm : String) (x y c : Nat) (hc : c ≤ 1) : (Extern.MathBitsCarry.three nm ⟨[.int .u64 x, .int .u64 y, .int .u64 c]⟩).run P w = .ok (x, y, c) w := by
  have h1 : ¬ 1 < c := by omega
  change Sem.run P (do
    let c := (← asInt (.int .u64 c)).toNat
    if c > 1 then unsupported (.noEntry ("extern/math/bits." ++ nm ++ ": a carry that is neither 0 nor 1"))
    pure ((← asInt (.int .u64 x)).toNat, (← asInt (.int .u64 y)).toNat, c)) w = _
  simp [asInt, asIntOf]
  omega
theorem addX_at {f : FuncId} {fn : Func} (hf : P.funcs[f]? = some fn) (hname : (fn.name == "runtime.NumGoroutine") = false) (hb : fn.body.isNone = true) (hn : Extern.findNext fn = none)
    (he : Extern.find fn = some (fun args => do let (x, y, c) ← Extern.MathBitsCarry.three "Add64" args; pure (Extern.MathBitsCarry.pair ((x + y + c) % Extern.MathBitsCarry.m64) ((x + y + c) / Extern.MathBitsCarry.m64)))) : ExtAt P f addX := by
  refine ⟨fun args v hx I w ρ args' ha => ?_⟩
  unfold addX at hx
  split at hx <;> simp only [Option.some.injEq, Prod.mk.injEq, decide_eq_true_eq, reduceCtorEq] at hx
  rename_i x y c
  obtain ⟨hc, rfl⟩ := hx
  rw [three_u64 ha]
  refine ⟨.tuple #[.int .u64 (sumC x y c).toNat, .int .u64 (outC x y c).toNat], callFunc_extern hf hname hb hn he ?_, ?_⟩
  · rw [Sem.run_bind, run_three _ _ _ _ hc]
    simp [Extern.MathBitsCarry.pair, Extern.MathBitsCarry.m64, sumC_toNat, outC_toNat x y c hc]
  · exact .tup _ _ _ (.cons _ _ _ _ _ (.u64 _ _) (.cons _ _ _ _ _ (.u64 _ _) (.nil _)))
theorem subX_at {f : FuncId} {fn : Func} (hf : P.funcs[f]? = some fn) (hname : (fn.name == "runtime.NumGoroutine") = false) (hb : fn.body.isNone = true) (hn : Extern.findNext fn = none)
    (he : Extern.find fn = some (fun args => do let (x, y, b) ← Extern.MathBitsCarry.three "Sub64" args; pure (Extern.MathBitsCarry.pair ((x + Extern.MathBitsCarry.m64 - y - b) % Extern.MathBitsCarry.m64) (if x < y + b then 1 else 0)))) : ExtAt P f subX := by
  refine ⟨fun args v hx I w ρ args' ha => ?_⟩
  unfold subX at hx
  split at hx <;> simp only [Option.some.injEq, Prod.mk.injEq, decide_eq_true_eq, reduceCtorEq] at hx
  rename_i x y c
  obtain ⟨hc, rfl⟩ := hx
  rw [three_u64 ha]
  refine ⟨.tuple #[.int .u64 (difB x y c).toNat, .int .u64 (outB x y c).toNat], callFunc_extern hf hname hb hn he ?_, ?_⟩
  · have e : (x.toNat + 2 ^ 65 - y.toNat - c.toNat) % 2 ^ 64 = (x.toNat + 2 ^ 64 - y.toNat - c.toNat) % 2 ^ 64 := by have := x.isLt; have := y.isLt; omega
    rw [Sem.run_bind, run_three _ _ _ _ hc]
    simp only [Result.andThen_ok, Sem.run_pure, Extern.MathBitsCarry.pair, Extern.MathBitsCarry.m64, difB_toNat x y c hc, outB_toNat x y c hc, e]
    split <;> rfl
  · exact .tup _ _ _ (.cons _ _ _ _ _ (.u64 _ _) (.cons _ _ _ _ _ (.u64 _ _) (.nil _)))
theorem count_bytes (s : ByteArray) (c : BitVec 8) : (bytesOf s).count c = Lib.countByte s.data.toList (((c.toNat : Int).toNat).toUInt8) := by
  unfold bytesOf Lib.countByte
  rw [Int.toNat_natCast]
  have hc : c.toNat.toUInt8.toBitVec = c := by
    apply BitVec.eq_of_toNat_eq
    simp
  induction s.data.toList with
  | nil => rfl
  | cons b l ih =>
    rw [List.map_cons, List.count_cons, List.count_cons, ih]
    have : (b.toBitVec == c) = (b == c.toNat.toUInt8) := by
      rw [Bool.eq_iff_iff, beq_iff_eq, beq_iff_eq]
      constructor
      · intro h; apply UInt8.toBitVec_inj.1; rw [hc]; exact h
      · intro h; rw [h]; exact hc
    rw [this]
theorem cntX_at {f : FuncId} {fn : Func} (hf : P.funcs[f]? = some fn) (hname : (fn.name == "runtime.NumGoroutine") = false) (hb : fn.body.isNone = true) (hn : Extern.findNext fn = none)
    (he : Extern.find fn = some Extern.BytealgCount.count) : ExtAt P f cntX := by
  refine ⟨fun args v hx I w ρ args' ha => ?_⟩
  unfold cntX at hx
  split at hx <;> simp only [Option.some.injEq, Prod.mk.injEq, true_and, reduceCtorEq] at hx
  rename_i s c
  subst hx
  cases ha with
  | cons _ _ _ _ _ h1 r =>
    cases h1 with
    | str _ s =>
      cases r with
      | cons _ _ _ _ _ h2 r =>
        cases h2
        cases r
        refine ⟨_, callFunc_extern hf hname hb hn he (Lib.run_countString s _ w), ?_⟩
        rw [count_bytes]
        exact .int _ _ _ rfl
end
end Go.Lh
end
section
namespace Go.Lh
section
variable {P : Program} {w : World} {r : Reach} {base : Nat}
theorem cells_okWide {t : TypeId} {fs : Array Field} {ts : List TypeId} {v : Value} (hs : P.underlying t = some (.struct fs)) (hct : P.cellTypes P.depth t = some ts) (hn : P.cellsOf t = ts.length) (h : Value.okWide P w r base t v) :
    ∃ l : List Value, v = .agg ⟨l⟩ ∧ l.length = ts.length ∧ ∀ (i : Nat) (u : TypeId), ts[i]? = some u → ∃ c, l[i]? = some c ∧ Cell.okWide P w r base u c := by
  simp only [Value.okWide, hs] at h
  obtain ⟨⟨l⟩, rfl, hsz, ts', hts, _, hc⟩ := h
  rw [hct] at hts
  cases hts
  have hl : l.length = ts.length := by rw [← hn]; simpa using hsz
  refine ⟨l, rfl, hl, fun i u hu => ?_⟩
  have hi : i < ts.length := (List.getElem?_eq_some_iff.1 hu).1
  have hli : l[i]? = some l[i] := List.getElem?_eq_getElem (by omega)
  refine ⟨_, hli, ?_⟩
  obtain ⟨u', h1, h2⟩ := hc i l[i] (by simp [hli])
  rw [Nat.mod_eq_of_lt hi, hu] at h1
  cases h1
  exact h2

theorem cell_u64 {I : Nat → Prop} {ρ : Ren} {u : TypeId} {c : Value} (hu : P.underlying u = some (.int .u64)) (h : Cell.okWide P w r base u c) : ∃ x : BitVec 64, VRel I w ρ (.u64 x) c := by
  simp only [Cell.okWide, Cell.ok, hu] at h
  cases c <;> simp only at h
  all_goals first | exact h.elim | skip
  rename_i k n
  obtain ⟨rfl, h1, h2⟩ := h
  exact ⟨_, vu64 (n := n) (by simp only [Lit.wf, Bool.and_eq_true, decide_eq_true_eq]; exact ⟨h1, h2⟩)⟩
theorem cell_i64 {I : Nat → Prop} {ρ : Ren} {u : TypeId} {c : Value} (hu : P.underlying u = some (.int .i64)) (h : Cell.okWide P w r base u c) : ∃ x : Int, VRel I w ρ (.int .i64 x) c ∧ x < 9223372036854775808 ∧ -9223372036854775808 ≤ x := by
  simp only [Cell.okWide, Cell.ok, hu] at h
  cases c <;> simp only at h
  all_goals first | exact h.elim | skip
  rename_i k n
  obtain ⟨rfl, h1, h2⟩ := h
  have hw : (Lit.int .i64 n).wf = true := by simp only [Lit.wf, Bool.and_eq_true, decide_eq_true_eq]; exact ⟨h1, h2⟩
  exact ⟨_, .int _ _ n rfl, int_lt hw, int_ge hw⟩
theorem cell_str {I : Nat → Prop} {ρ : Ren} {u : TypeId} {c : Value} (hu : P.underlying u = some .string) (h : Cell.okWide P w r base u c) : ∃ s : List (BitVec 8), VRel I w ρ (.str s) c ∧ s.length < 9223372036854775808 := by
  simp only [Cell.okWide, Cell.ok, hu] at h
  cases c <;> simp only at h
  all_goals first | exact h.elim | skip
  rename_i s
  refine ⟨_, .str _ s, ?_⟩
  have : (bytesOf s).length = s.size := by unfold bytesOf; rw [List.length_map]; rfl
  rw [this]
  have e : IntKind.i64.max = 9223372036854775807 := by decide
  rw [e] at h
  omega
theorem cell_bool {I : Nat → Prop} {ρ : Ren} {u : TypeId} {c : Value} (hu : P.underlying u = some .bool) (h : Cell.okWide P w r base u c) : ∃ b : Bool, VRel I w ρ (.bool b) c := by
  simp only [Cell.okWide, Cell.ok, hu] at h
  cases c <;> simp only at h
  all_goals first | exact h.elim | skip
  exact ⟨_, .bool _ _⟩

theorem word_arg {I : Nat → Prop} {ρ : Ren} {t u : TypeId} {fs : Array Field} {v : Value} (hs : P.underlying t = some (.struct fs)) (hct : P.cellTypes P.depth t = some [u, u, u, u]) (hn : P.cellsOf t = 4) (hu : P.underlying u = some (.int .u64)) (h : Value.okWide P w r base t v) :
    ∃ x : W4, VRel I w ρ x.v v := by
  obtain ⟨l, rfl, hl, hc⟩ := cells_okWide hs hct hn h
  obtain ⟨c0, e0, k0⟩ := hc 0 u rfl
  obtain ⟨c1, e1, k1⟩ := hc 1 u rfl
  obtain ⟨c2, e2, k2⟩ := hc 2 u rfl
  obtain ⟨c3, e3, k3⟩ := hc 3 u rfl
  obtain ⟨x0, r0⟩ := cell_u64 (I := I) (ρ := ρ) hu k0
  obtain ⟨x1, r1⟩ := cell_u64 (I := I) (ρ := ρ) hu k1
  obtain ⟨x2, r2⟩ := cell_u64 (I := I) (ρ := ρ) hu k2
  obtain ⟨x3, r3⟩ := cell_u64 (I := I) (ρ := ρ) hu k3
  match l, hl with
  | [a, b, c, d], _ =>
    simp at e0 e1 e2 e3
    subst e0 e1 e2 e3
    exact ⟨⟨x0, x1, x2, x3⟩, .agg _ _ _ (.cons _ _ _ _ _ r0 (.cons _ _ _ _ _ r1 (.cons _ _ _ _ _ r2 (.cons _ _ _ _ _ r3 (.nil _)))))⟩
end
end Go.Lh
end
section
namespace Go.Lh
def readW : List V → Heap → Option W4 := fun args h => match args, h with
  | [.agg [.u64 a, .u64 b, .u64 c, .u64 d]], [] => some ⟨a, b, c, d⟩
  | _, _ => none
structure WW where
  x : W4
  y : W4
def readWW : List V → Heap → Option WW := fun args h => match args, h with
  | [.agg [.u64 a, .u64 b, .u64 c, .u64 d], .agg [.u64 e, .u64 f, .u64 g, .u64 i]], [] => some ⟨⟨a, b, c, d⟩, ⟨e, f, g, i⟩⟩
  | _, _ => none
structure WI where
  x : W4
  n : Int
def readWI : List V → Heap → Option WI := fun args h => match args, h with
  | [.agg [.u64 a, .u64 b, .u64 c, .u64 d], .int .i64 n], [] => some ⟨⟨a, b, c, d⟩, n⟩
  | _, _ => none
def readU : List V → Heap → Option (BitVec 64) := fun args h => match args, h with
  | [.u64 a], [] => some a
  | _, _ => none
structure UU where
  x : BitVec 64
  y : BitVec 64
def readUU : List V → Heap → Option UU := fun args h => match args, h with
  | [.u64 a, .u64 b], [] => some ⟨a, b⟩
  | _, _ => none
def always {α : Type} : α → Bool := fun _ => true
def noHeap {α : Type} : α → Heap := fun _ => []
section
variable {P : Program} {i : FuncId}
def ctW (f : W4 → V) := ct readW always (fun a => .ret (f a)) noHeap
theorem ctW_ok {f : W4 → V} (hf : ∀ x : W4, LFn P i [x.v] [] (.ret (f x)) []) : ∀ args h fin h', ctW f args h = some (true, fin, h') → LFn P i args h fin h' := by
  refine ct_ok (fun a => [a.v]) (fun _ => []) ?_ (fun a _ => hf a)
  intro args h a e
  unfold readW at e
  split at e <;> cases e
  exact ⟨rfl, rfl⟩
def ctWW (f : W4 → W4 → V) := ct readWW always (fun a => .ret (f a.x a.y)) noHeap
theorem ctWW_ok {f : W4 → W4 → V} (hf : ∀ x y : W4, LFn P i [x.v, y.v] [] (.ret (f x y)) []) : ∀ args h fin h', ctWW f args h = some (true, fin, h') → LFn P i args h fin h' := by
  refine ct_ok (fun a => [a.x.v, a.y.v]) (fun _ => []) ?_ (fun a _ => hf a.x a.y)
  intro args h a e
  unfold readWW at e
  split at e <;> cases e
  exact ⟨rfl, rfl⟩
def ctWI (ok : W4 → Int → Bool) (f : W4 → Int → V) := ct readWI (fun a => ok a.x a.n) (fun a => .ret (f a.x a.n)) noHeap
theorem ctWI_ok {ok : W4 → Int → Bool} {f : W4 → Int → V} (hf : ∀ (x : W4) (n : Int), ok x n = true → LFn P i [x.v, .int .i64 n] [] (.ret (f x n)) []) : ∀ args h fin h', ctWI ok f args h = some (true, fin, h') → LFn P i args h fin h' := by
  refine ct_ok (fun a => [a.x.v, .int .i64 a.n]) (fun _ => []) ?_ (fun a h => hf a.x a.n h)
  intro args h a e
  unfold readWI at e
  split at e <;> cases e
  exact ⟨rfl, rfl⟩
def ctU (f : BitVec 64 → V) := ct readU always (fun a => .ret (f a)) noHeap
theorem ctU_ok {f : BitVec 64 → V} (hf : ∀ x, LFn P i [.u64 x] [] (.ret (f x)) []) : ∀ args h fin h', ctU f args h = some (true, fin, h') → LFn P i args h fin h' := by
  refine ct_ok (fun a => [.u64 a]) (fun _ => []) ?_ (fun a _ => hf a)
  intro args h a e
  unfold readU at e
  split at e <;> cases e
  exact ⟨rfl, rfl⟩
def ctUU (f : BitVec 64 → BitVec 64 → V) := ct readUU always (fun a => .ret (f a.x a.y)) noHeap
theorem ctUU_ok {f : BitVec 64 → BitVec 64 → V} (hf : ∀ x y, LFn P i [.u64 x, .u64 y] [] (.ret (f x y)) []) : ∀ args h fin h', ctUU f args h = some (true, fin, h') → LFn P i args h fin h' := by
  refine ct_ok (fun a => [.u64 a.x, .u64 a.y]) (fun _ => []) ?_ (fun a _ => hf a.x a.y)
  intro args h a e
  unfold readUU at e
  split at e <;> cases e
  exact ⟨rfl, rfl⟩
end
/-- how many bits -/
def len64 (x : BitVec 64) : Nat := if x.toNat = 0 then 0 else Nat.log2 x.toNat + 1
end Go.Lh
end
section
namespace Go.Lh
theorem pow_split {r : Nat} (h : r ≤ 64) : 2 ^ (64 - r) * 2 ^ r = 2 ^ 64 := by rw [← Nat.pow_add]; congr 1; omega
theorem shl_toNat64 (a : BitVec 64) (r : Nat) : (a <<< r).toNat = a.toNat * 2 ^ r % 2 ^ 64 := by rw [BitVec.toNat_shiftLeft, Nat.shiftLeft_eq]
theorem shr_div (b r : Nat) (h : r ≤ 64) : b / 2 ^ (64 - r) = b * 2 ^ r / 2 ^ 64 := by
  rw [← pow_split h, Nat.mul_div_mul_right _ _ (Nat.two_pow_pos r)]
theorem shl_or (a b : BitVec 64) (r : Nat) (h : r < 64) : (a <<< r ||| b >>> (64 - r)).toNat = a.toNat * 2 ^ r % 2 ^ 64 + b.toNat * 2 ^ r / 2 ^ 64 := by
  have hb := b.isLt
  rw [BitVec.toNat_or, shl_toNat64, BitVec.toNat_ushiftRight, Nat.shiftRight_eq_div_pow, ← shr_div _ _ (by omega)]
  have e : a.toNat * 2 ^ r % 2 ^ 64 = 2 ^ r * (a.toNat % 2 ^ (64 - r)) := by
    rw [← pow_split (Nat.le_of_lt h), Nat.mul_mod_mul_right, Nat.mul_comm]
  have hlt : b.toNat / 2 ^ (64 - r) < 2 ^ r := by
    apply Nat.div_lt_of_lt_mul
    rw [pow_split (Nat.le_of_lt h)]; exact hb
  rw [e, ← Nat.two_pow_add_eq_or_of_lt hlt]
theorem shr_or (a b : BitVec 64) (r : Nat) (h0 : 0 < r) (h : r < 64) : (a >>> r ||| b <<< (64 - r)).toNat = a.toNat / 2 ^ r + (b.toNat % 2 ^ r) * 2 ^ (64 - r) := by
  have ha := a.isLt
  rw [BitVec.or_comm, BitVec.toNat_or, shl_toNat64, BitVec.toNat_ushiftRight, Nat.shiftRight_eq_div_pow]
  have p : 2 ^ r * 2 ^ (64 - r) = 2 ^ 64 := by rw [Nat.mul_comm]; exact pow_split (Nat.le_of_lt h)
  have e : b.toNat * 2 ^ (64 - r) % 2 ^ 64 = 2 ^ (64 - r) * (b.toNat % 2 ^ r) := by
    rw [← p, Nat.mul_mod_mul_right, Nat.mul_comm]
  have hlt : a.toNat / 2 ^ r < 2 ^ (64 - r) := by
    apply Nat.div_lt_of_lt_mul
    rw [p]; exact ha
  rw [e, ← Nat.two_pow_add_eq_or_of_lt hlt, Nat.add_comm, Nat.mul_comm (2 ^ (64 - r))]
namespace W4
/-- part k of a number's parts, the lowest first -/
def lo (x : W4) : Nat → BitVec 64
  | 0 => x.d
  | 1 => x.c
  | 2 => x.b
  | 3 => x.a
  | _ => 0
/-- moved left by 64 q + r: part i -/
def lP (x : W4) (q r i : Nat) : BitVec 64 := if i < q then 0 else if 0 < r ∧ 0 < i - q then x.lo (i - q) <<< r ||| x.lo (i - q - 1) >>> (64 - r) else x.lo (i - q) <<< r
def shlP (x : W4) (q r : Nat) : W4 := ⟨lP x q r 3, lP x q r 2, lP x q r 1, lP x q r 0⟩
def shl (x : W4) (n : Nat) : W4 := of (x.bv <<< n)
def shr (x : W4) (n : Nat) : W4 := of (x.bv >>> n)
theorem shl_n (x : W4) (n : Nat) : (shl x n).n = x.n * 2 ^ n % 2 ^ 256 := by
  unfold shl; rw [of_toNat, BitVec.toNat_shiftLeft, Nat.shiftLeft_eq, bv_toNat]
theorem shr_n (x : W4) (n : Nat) : (shr x n).n = x.n / 2 ^ n := by
  unfold shr; rw [of_toNat, BitVec.toNat_ushiftRight, Nat.shiftRight_eq_div_pow, bv_toNat]
theorem lP_nat (x : W4) (q r i : Nat) (hr : r < 64) (hi : i ≤ 3) : (lP x q r i).toNat = if i < q then 0 else if 0 < i - q then (x.lo (i - q)).toNat * 2 ^ r % 2 ^ 64 + (x.lo (i - q - 1)).toNat * 2 ^ r / 2 ^ 64 else (x.lo (i - q)).toNat * 2 ^ r % 2 ^ 64 := by
  unfold lP
  by_cases h1 : i < q
  · rw [if_pos h1, if_pos h1]; rfl
  · rw [if_neg h1, if_neg h1]
    by_cases h2 : 0 < i - q
    · rw [if_pos h2]
      by_cases h3 : 0 < r
      · rw [if_pos ⟨h3, h2⟩, shl_or _ _ _ hr]
      · have : r = 0 := by omega
        subst this
        have := (x.lo (i - q)).isLt
        have := (x.lo (i - q - 1)).isLt
        rw [if_neg (by omega), shl_toNat64]
        omega
    · rw [if_neg h2, if_neg (by omega), shl_toNat64]
theorem shlP_eq (x : W4) (q r : Nat) (hq : q < 4) (hr : r < 64) : shlP x q r = shl x (64 * q + r) := by
  apply ext_n
  rw [shl_n, Nat.pow_add, Nat.mul_comm (2 ^ (64 * q)), ← Nat.mul_assoc]
  have e : x.n * 2 ^ r = 2 ^ 192 * (x.a.toNat * 2 ^ r) + (2 ^ 128 * (x.b.toNat * 2 ^ r) + (2 ^ 64 * (x.c.toNat * 2 ^ r) + x.d.toNat * 2 ^ r)) := mul4r _ _ _ _ _
  rw [e]
  have m0 := lP_nat x q r 0 hr (by omega)
  have m1 := lP_nat x q r 1 hr (by omega)
  have m2 := lP_nat x q r 2 hr (by omega)
  have m3 := lP_nat x q r 3 hr (by omega)
  rw [← Nat.mod_eq_of_lt (n_lt (shlP x q r))]
  simp only [shlP, n, m0, m1, m2, m3]
  clear e m0 m1 m2 m3
  have h4 : q = 0 ∨ q = 1 ∨ q = 2 ∨ q = 3 := by omega
  rcases h4 with rfl | rfl | rfl | rfl
  all_goals
    simp only [lo, Nat.sub_zero, Nat.sub_self, Nat.reduceSub, Nat.reduceLT, Nat.lt_irrefl, if_true, if_false, Nat.not_lt_zero, Nat.reduceMul, Nat.reducePow, Nat.mul_one, Nat.add_zero, Nat.mul_zero]
    generalize x.a.toNat * 2 ^ r = A
    generalize x.b.toNat * 2 ^ r = B
    generalize x.c.toNat * 2 ^ r = C
    generalize x.d.toNat * 2 ^ r = D
    obtain ⟨A1, A0, hA, hA0⟩ : ∃ A1 A0, A = 2 ^ 64 * A1 + A0 ∧ A0 < 2 ^ 64 := ⟨A / 2 ^ 64, A % 2 ^ 64, by omega, by omega⟩
    obtain ⟨B1, B0, hB, hB0⟩ : ∃ B1 B0, B = 2 ^ 64 * B1 + B0 ∧ B0 < 2 ^ 64 := ⟨B / 2 ^ 64, B % 2 ^ 64, by omega, by omega⟩
    obtain ⟨C1, C0, hC, hC0⟩ : ∃ C1 C0, C = 2 ^ 64 * C1 + C0 ∧ C0 < 2 ^ 64 := ⟨C / 2 ^ 64, C % 2 ^ 64, by omega, by omega⟩
    obtain ⟨D1, D0, hD, hD0⟩ : ∃ D1 D0, D = 2 ^ 64 * D1 + D0 ∧ D0 < 2 ^ 64 := ⟨D / 2 ^ 64, D % 2 ^ 64, by omega, by omega⟩
    have a0 : A % 2 ^ 64 = A0 := by omega
    have b0 : B % 2 ^ 64 = B0 := by omega
    have c0 : C % 2 ^ 64 = C0 := by omega
    have d0 : D % 2 ^ 64 = D0 := by omega
    have b1 : B / 2 ^ 64 = B1 := by omega
    have c1 : C / 2 ^ 64 = C1 := by omega
    have d1 : D / 2 ^ 64 = D1 := by omega
    try rw [a0]
    try rw [b0]
    try rw [c0]
    try rw [d0]
    try rw [b1]
    try rw [c1]
    try rw [d1]
    subst hA hB hC hD
    clear a0 b0 c0 d0 b1 c1 d1
    omega
/-- moved right by 64 q + r: part j -/
def rP (x : W4) (q r j : Nat) : BitVec 64 := if 4 ≤ j + q then 0 else if 0 < r ∧ j + q + 1 < 4 then x.lo (j + q) >>> r ||| x.lo (j + q + 1) <<< (64 - r) else x.lo (j + q) >>> r
def shrP (x : W4) (q r : Nat) : W4 := ⟨rP x q r 3, rP x q r 2, rP x q r 1, rP x q r 0⟩
theorem rP_nat (x : W4) (q r j : Nat) (hr : r < 64) : (rP x q r j).toNat = if 4 ≤ j + q then 0 else if j + q + 1 < 4 then (x.lo (j + q)).toNat / 2 ^ r + ((x.lo (j + q + 1)).toNat % 2 ^ r) * 2 ^ (64 - r) else (x.lo (j + q)).toNat / 2 ^ r := by
  unfold rP
  by_cases h1 : 4 ≤ j + q
  · rw [if_pos h1, if_pos h1]; rfl
  · rw [if_neg h1, if_neg h1]
    by_cases h2 : j + q + 1 < 4
    · rw [if_pos h2]
      by_cases h3 : 0 < r
      · rw [if_pos ⟨h3, h2⟩, shr_or _ _ _ h3 hr]
      · have : r = 0 := by omega
        subst this
        rw [if_neg (by omega), BitVec.toNat_ushiftRight, Nat.shiftRight_eq_div_pow]
        simp [Nat.mod_one]
    · rw [if_neg h2, if_neg (by omega), BitVec.toNat_ushiftRight, Nat.shiftRight_eq_div_pow]
theorem shrP_eq (x : W4) (q r : Nat) (hq : q < 4) (hr : r < 64) : shrP x q r = shr x (64 * q + r) := by
  apply ext_n
  rw [shr_n, Nat.pow_add, ← Nat.div_div_eq_div_mul]
  have hp : 0 < 2 ^ r := Nat.two_pow_pos r
  have pp : 2 ^ r * 2 ^ (64 - r) = 2 ^ 64 := by rw [Nat.mul_comm]; exact pow_split (Nat.le_of_lt hr)
  have ua := Nat.div_add_mod x.a.toNat (2 ^ r)
  have ub := Nat.div_add_mod x.b.toNat (2 ^ r)
  have uc := Nat.div_add_mod x.c.toNat (2 ^ r)
  have ud := Nat.div_add_mod x.d.toNat (2 ^ r)
  have va := Nat.mod_lt x.a.toNat hp
  have vb := Nat.mod_lt x.b.toNat hp
  have vc := Nat.mod_lt x.c.toNat hp
  have vd := Nat.mod_lt x.d.toNat hp
  have wp : ∀ v, 2 ^ r * (v * 2 ^ (64 - r)) = v * 2 ^ 64 := by intro v; rw [Nat.mul_left_comm, pp]
  have wb := wp (x.b.toNat % 2 ^ r)
  have wc := wp (x.c.toNat % 2 ^ r)
  have wa := wp (x.a.toNat % 2 ^ r)
  have ha := x.a.isLt; have hb := x.b.isLt; have hc := x.c.isLt; have hd := x.d.isLt
  have m0 := rP_nat x q r 0 hr
  have m1 := rP_nat x q r 1 hr
  have m2 := rP_nat x q r 2 hr
  have m3 := rP_nat x q r 3 hr
  have fin : ∀ (R V X : Nat), V < 2 ^ r → 2 ^ r * R + V = X → R = X / 2 ^ r := fun R V X h1 h2 => by
    have := (Nat.div_mod_unique (d := R) (c := V) (a := X) hp).2 ⟨by omega, h1⟩
    exact this.1.symm
  have h4 : q = 0 ∨ q = 1 ∨ q = 2 ∨ q = 3 := by omega
  rcases h4 with rfl | rfl | rfl | rfl
  · refine fin _ _ _ vd ?_
    simp only [shrP, n, m0, m1, m2, m3, lo, Nat.reduceAdd, Nat.reduceLT, Nat.reduceLeDiff, if_true, if_false, Nat.reduceMul, Nat.reducePow, Nat.div_one, Nat.mul_add, Nat.zero_add, BitVec.toNat_ofNat]
    try simp only [Nat.mul_left_comm (2 ^ r), pp, Nat.mul_zero]
    clear fin wp m0 m1 m2 m3 pp hp wa wb wc
    generalize 2 ^ r * (x.a.toNat / 2 ^ r) = A at *
    generalize 2 ^ r * (x.b.toNat / 2 ^ r) = B at *
    generalize 2 ^ r * (x.c.toNat / 2 ^ r) = C at *
    generalize 2 ^ r * (x.d.toNat / 2 ^ r) = D at *
    generalize x.a.toNat % 2 ^ r = a1 at *
    generalize x.b.toNat % 2 ^ r = b1 at *
    generalize x.c.toNat % 2 ^ r = c1 at *
    generalize x.d.toNat % 2 ^ r = d1 at *
    omega
  · refine fin _ _ _ vc ?_
    simp only [shrP, n, m0, m1, m2, m3, lo, Nat.reduceAdd, Nat.reduceLT, Nat.reduceLeDiff, if_true, if_false, Nat.reduceMul, Nat.reducePow, Nat.div_one, Nat.mul_add, Nat.zero_add, BitVec.toNat_ofNat]
    try simp only [Nat.mul_left_comm (2 ^ r), pp, Nat.mul_zero]
    clear fin wp m0 m1 m2 m3 pp hp wa wb wc
    generalize 2 ^ r * (x.a.toNat / 2 ^ r) = A at *
    generalize 2 ^ r * (x.b.toNat / 2 ^ r) = B at *
    generalize 2 ^ r * (x.c.toNat / 2 ^ r) = C at *
    generalize 2 ^ r * (x.d.toNat / 2 ^ r) = D at *
    generalize x.a.toNat % 2 ^ r = a1 at *
    generalize x.b.toNat % 2 ^ r = b1 at *
    generalize x.c.toNat % 2 ^ r = c1 at *
    generalize x.d.toNat % 2 ^ r = d1 at *
    omega
  · refine fin _ _ _ vb ?_
    simp only [shrP, n, m0, m1, m2, m3, lo, Nat.reduceAdd, Nat.reduceLT, Nat.reduceLeDiff, if_true, if_false, Nat.reduceMul, Nat.reducePow, Nat.div_one, Nat.mul_add, Nat.zero_add, BitVec.toNat_ofNat]
    try simp only [Nat.mul_left_comm (2 ^ r), pp, Nat.mul_zero]
    clear fin wp m0 m1 m2 m3 pp hp wa wb wc
    generalize 2 ^ r * (x.a.toNat / 2 ^ r) = A at *
    generalize 2 ^ r * (x.b.toNat / 2 ^ r) = B at *
    generalize 2 ^ r * (x.c.toNat / 2 ^ r) = C at *
    generalize 2 ^ r * (x.d.toNat / 2 ^ r) = D at *
    generalize x.a.toNat % 2 ^ r = a1 at *
    generalize x.b.toNat % 2 ^ r = b1 at *
    generalize x.c.toNat % 2 ^ r = c1 at *
    generalize x.d.toNat % 2 ^ r = d1 at *
    omega
  · refine fin _ _ _ va ?_
    simp only [shrP, n, m0, m1, m2, m3, lo, Nat.reduceAdd, Nat.reduceLT, Nat.reduceLeDiff, if_true, if_false, Nat.reduceMul, Nat.reducePow, Nat.div_one, Nat.mul_add, Nat.zero_add, BitVec.toNat_ofNat]
    try simp only [Nat.mul_left_comm (2 ^ r), pp, Nat.mul_zero]
    clear fin wp m0 m1 m2 m3 pp hp wa wb wc
    generalize 2 ^ r * (x.a.toNat / 2 ^ r) = A at *
    generalize 2 ^ r * (x.b.toNat / 2 ^ r) = B at *
    generalize 2 ^ r * (x.c.toNat / 2 ^ r) = C at *
    generalize 2 ^ r * (x.d.toNat / 2 ^ r) = D at *
    generalize x.a.toNat % 2 ^ r = a1 at *
    generalize x.b.toNat % 2 ^ r = b1 at *
    generalize x.c.toNat % 2 ^ r = c1 at *
    generalize x.d.toNat % 2 ^ r = d1 at *
    omega
end W4
end Go.Lh
end
