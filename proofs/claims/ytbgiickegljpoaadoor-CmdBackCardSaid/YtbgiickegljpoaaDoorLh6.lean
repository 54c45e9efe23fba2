/- A reckoner for functions over a local heap: what each operation does, and that it is sound; numbers of 256 bits. -/
import Derived.Test.YtbgiickegljpoaaDoorLh5
set_option linter.unusedSimpArgs false
set_option linter.unusedVariables false
section
namespace Go.Lh
def renBC (cl : Bool) (τ : Nat → Option Nat) (b : Blk) : Option Blk := match cl, b with
  | true, .vals cs => some (.vals cs)
  | _, b => renB τ b
def subHeapC (h : Heap) (τ : Nat → Option Nat) (cl : List Nat) : List Nat → Option Heap
  | [] => some []
  | i :: r => match h[i]?, subHeapC h τ cl r with
    | some b, some l => (match renBC (memN i cl) τ b with | some b' => some (b' :: l) | none => none)
    | _, _ => none
theorem subHeapC_get {h : Heap} {τ : Nat → Option Nat} {cl : List Nat} : ∀ {rd : List Nat} {hs : Heap}, subHeapC h τ cl rd = some hs → hs.length = rd.length ∧
    ∀ (k i : Nat), rd[k]? = some i → ∃ b b', h[i]? = some b ∧ renBC (memN i cl) τ b = some b' ∧ hs[k]? = some b'
  | [], hs, e => by simp [subHeapC] at e; subst e; simp
  | i :: r, hs, e => by
    simp only [subHeapC] at e
    split at e <;> try simp only [reduceCtorEq] at e
    rename_i b l hb hl
    split at e <;> simp at e
    rename_i b' hb'
    subst e
    obtain ⟨h1, h2⟩ := subHeapC_get hl
    refine ⟨by simp [h1], fun k j hk => ?_⟩
    cases k with
    | zero => simp at hk; subst hk; exact ⟨b, b', hb, hb', rfl⟩
    | succ k => simpa using h2 k j (by simpa using hk)
theorem renBC_dead {cl : Bool} {τ : Nat → Option Nat} {b b' : Blk} (h : renBC cl τ b = some b') : b' = .dead ↔ b = .dead := by
  unfold renBC at h
  split at h
  · cases h; simp
  · exact (renB_at h).2.1
def closed (b : Blk) : Prop := ∀ cs, b = .vals cs → ∀ v, v ∈ cs → v.clo = true
theorem renBC_sound {I : Nat → Prop} {w : World} {cl : Bool} {τ : Nat → Option Nat} {ρ ρ₂ : Ren} (hτ : ∀ i k l, τ i = some k → ρ i = some l → ρ₂ k = some l) {b b' : Blk} {l : Loc} (h : renBC cl τ b = some b') (hc : cl = true → closed b) (hb : BRel I w ρ l b) : BRel I w ρ₂ l b' := by
  unfold renBC at h
  split at h
  · rename_i cs
    cases h
    have hc := hc rfl cs rfl
    obtain ⟨C, e, fz, m1, m2, m3, m4⟩ := hb.mem
    refine ⟨⟨C, e, fz, m1, m2, m3, fun o ho => ?_⟩, hb.fits, hb.ty⟩
    obtain ⟨c, hc1, hc2⟩ := m4 o ho
    refine ⟨c, hc1, ?_⟩
    have ho' : o < cs.length := ho
    have hat : (Blk.vals cs).at o = cs.getD o .any := rfl
    rw [hat] at hc2 ⊢
    have hmm : cs.getD o .any ∈ cs := by
      rw [List.getD_eq_getElem?_getD, List.getElem?_eq_getElem ho']; exact List.getElem_mem ho'
    exact hc2.clo (hc _ hmm)
  · exact renB_sound hτ h hb
section
variable {P : Program} {O : Orc} {N n0 : Nat} {fr : Fr} {h : Heap} {R R' : X → Fr → Heap → Prop} {I : Nat → Prop} {w : World} {ρ : Ren} {F : Nat → Prop}
theorem sub_relC {rd cl : List Nat} {hs2 : Heap} (hnd : rd.Nodup) (R : Rel ρ I w h F) (hcl : ∀ (k i : Nat) (b : Blk), rd[k]? = some i → memN i cl = true → h[i]? = some b → closed b) (hsub : subHeapC h (posOf rd) cl rd = some hs2) :
    (∀ i k q, posOf rd i = some k → ρ i = some q → subRen rd ρ k = some q) ∧ Rel (subRen rd ρ) I w hs2 (fun i => hs2.length ≤ i) ∧ ∀ b, Own (subRen rd ρ) hs2 b → Own ρ h b := by
  obtain ⟨sl, sg⟩ := subHeapC_get hsub
  have hτ : ∀ i k q, posOf rd i = some k → ρ i = some q → subRen rd ρ k = some q := by
    intro i k q hk hq
    simp only [subRen, posOf_get hk, hq]
  have rdloc : ∀ (k i : Nat) (x : Blk), rd[k]? = some i → hs2[k]? = some x → x ≠ .dead → ∃ (b : Blk) (q : Loc), h[i]? = some b ∧ b ≠ .dead ∧ ρ i = some q ∧ BRel I w ρ q b ∧ ¬ I q.b := by
    intro k i x hk hx hxd
    obtain ⟨b, b', hb, hr, hb'⟩ := sg k i hk
    rw [hx] at hb'; cases hb'
    have hne : b ≠ .dead := fun e => hxd ((renBC_dead hr).2 e)
    obtain ⟨q, h1, h2, h3⟩ := R.blk i b hb hne
    exact ⟨b, q, hb, hne, h1, h2, h3⟩
  refine ⟨hτ, ?_, ?_⟩
  · have hout : ∀ i, hs2.length ≤ i → subRen rd ρ i = none := by
      intro i hi
      simp only [subRen]
      rw [List.getElem?_eq_none (by omega)]
    refine ⟨?_, hout, hout, ?_, R.lt⟩
    · intro k b hb hne
      have hk : k < rd.length := by rw [← sl]; exact (List.getElem?_eq_some_iff.1 hb).1
      have hki : rd[k]? = some rd[k] := List.getElem?_eq_getElem hk
      obtain ⟨c, c', hc, hcr, hck⟩ := sg k _ hki
      rw [hb] at hck; cases hck
      have hne : c ≠ .dead := fun e => hne ((renBC_dead hcr).2 e)
      obtain ⟨q, h1, h2, h3⟩ := R.blk _ c hc hne
      exact ⟨q, by simp only [subRen, hki, h1], renBC_sound hτ hcr (fun e => hcl _ _ _ hki e hc) h2, h3⟩
    · intro i j x y li lj hij hx hxd hy hyd hli hlj
      have hi : i < rd.length := by rw [← sl]; exact (List.getElem?_eq_some_iff.1 hx).1
      have hj : j < rd.length := by rw [← sl]; exact (List.getElem?_eq_some_iff.1 hy).1
      have hki := List.getElem?_eq_getElem hi
      have hkj := List.getElem?_eq_getElem hj
      obtain ⟨b1, q1, a1, a2, a3, _⟩ := rdloc i _ _ hki hx hxd
      obtain ⟨b2, q2, c1, c2, c3, _⟩ := rdloc j _ _ hkj hy hyd
      simp only [subRen, hki] at hli
      simp only [subRen, hkj] at hlj
      exact R.apart _ _ b1 b2 li lj (fun (e : rd[i] = rd[j]) => hij (nodup_inj hnd hki (by rw [e]; exact hkj))) a1 a2 c1 c2 hli hlj
  · rintro b ⟨k, x, q, hx, hxd, hq, rfl⟩
    have hk : k < rd.length := by rw [← sl]; exact (List.getElem?_eq_some_iff.1 hx).1
    have hki := List.getElem?_eq_getElem hk
    obtain ⟨c, q2, a1, a2, a3, _⟩ := rdloc k _ _ hki hx hxd
    simp only [subRen, hki] at hq
    exact ⟨_, c, q, a1, a2, hq, rfl⟩
def tellC (n0 : Nat) (rd cl ts : List Nat) (fr : Fr) (h : Heap) : Option (Fr × Heap) :=
  if nodupN rd && prefixOk rd n0 then (match subFr (posOf rd) fr ts, subHeapC h (posOf rd) cl rd with
    | some f, some k => some (f, k)
    | _, _ => none) else none
theorem tellC_weaker {rd cl ts : List Nat} {f2 : Fr} {h2 : Heap} (ht : tellC n0 rd cl ts fr h = some (f2, h2)) (hcl : ∀ (k i : Nat) (b : Blk), rd[k]? = some i → memN i cl = true → h2[k]? = some b → closed b) : Weaker N n0 fr h f2 h2 := by
  unfold tellC at ht
  split at ht <;> try simp only [reduceCtorEq] at ht
  rename_i hc
  rw [Bool.and_eq_true] at hc
  split at ht <;> simp only [Option.some.injEq, Prod.mk.injEq, reduceCtorEq] at ht
  rename_i f k hf hk
  obtain ⟨rfl, rfl⟩ := ht
  intro dfs ρ I w a S
  have hcl2 : ∀ (k i : Nat) (b : Blk), rd[k]? = some i → memN i cl = true → h[i]? = some b → closed b := by
    intro k i b hk1 hm hb cs e
    subst e
    obtain ⟨b0, b', hb0, hr, hb'⟩ := (subHeapC_get hk).2 k i hk1
    rw [hb] at hb0; cases hb0
    rw [hm] at hr
    simp only [renBC] at hr
    cases hr
    exact hcl k i _ hk1 hm hb' cs rfl
  obtain ⟨h1, h2, h3⟩ := sub_relC (nodupN_iff hc.1) S.rel hcl2 hk
  refine ⟨subRen rd ρ, ⟨S.size, S.defers, ?_, h2.weaken (fun _ h => h.elim)⟩, sub_went hc.2 h3⟩
  intro t u hu
  obtain ⟨v, hv, hr⟩ := subFr_get hf t u hu
  exact renV_sound h1 (S.fr t v hv) hr
end
structure Tell where
  ts : List Nat
  rd : List Nat
  cl : List Nat
def Tell.clo (t : Tell) (g : Heap) : Prop := ∀ (k i : Nat) (b : Blk), t.rd[k]? = some i → memN i t.cl = true → g[k]? = some b → closed b
def tellT (n0 : Nat) (t : Tell) (x : X) (fr : Fr) (h : Heap) : Tr (X × Fr × Heap) := match tellC n0 t.rd t.cl t.ts fr h with
  | some q => .leaf (x, q)
  | none => .no
theorem tellT_is {N n0 : Nat} {t : Tell} {x : X} {fr : Fr} {h : Heap} {r : X × Fr × Heap} (hx : (tellT n0 t x fr h).is r) (hc : t.clo r.2.2) : r.1 = x ∧ Weaker N n0 fr h r.2.1 r.2.2 := by
  unfold tellT at hx
  split at hx
  · rename_i q ht
    rw [Tr.is_leaf] at hx
    subst hx
    exact ⟨rfl, tellC_weaker ht hc⟩
  · exact (Tr.is_no.1 hx).elim
end Go.Lh
end
section
namespace Go.Lh
def execBY (P : Program) (T : OrcT) (L : LoopsT) (fuel : Nat) : Code → Fr → Heap → Tr (X × Fr × Heap)
  | .seq a b, fr, h => (execBY P T L fuel a fr h).bind fun p => match p with
    | (.normal, fr', h') => execBY P T L fuel b fr' h'
    | r => .leaf r
  | .cond c x y, fr, h => (match opnd fr.get c with
    | some (.bool t) => .br t (execBY P T L fuel x (setOp c true fr) h) (execBY P T L fuel y (setOp c false fr) h)
    | _ => .no)
  | .block id c, fr, h => (execBY P T L fuel c fr h).bind fun p => match p with
    | (.exit i, r) => if Nat.beq i id then .leaf (.normal, r) else .leaf (.exit i, r)
    | r => .leaf r
  | c, fr, h => execBX P T L fuel c fr h
section
variable {P : Program} {T : OrcT} {N n0 : Nat} {L : LoopsT} {fuel : Nat}
theorem execBY_sound (hO : OrcSound P T.o) (hm : P.follows .mixedOrders = true) : ∀ (c : Code) (_ : ∀ d, d ∈ loopsOf c → LoopOk P N n0 L.o d) (fr : Fr) (h : Heap) (x : X) (fr' : Fr) (h' : Heap), dstsIn N c = true →
    (execBY P T L fuel c fr h).is (x, fr', h') → Runs P N n0 c fr h (EndW N n0 x fr' h') := by
  intro c
  induction c with
  | seq a b iha ihb =>
    intro hL fr h x fr' h' hd hx
    simp only [dstsIn, Bool.and_eq_true] at hd
    rw [execBY, Tr.is_bind] at hx
    obtain ⟨⟨y, f1, h1⟩, g1, g2⟩ := hx
    refine .seq ((iha (fun d hd => hL d (by simp [loopsOf, hd])) _ _ _ _ _ hd.1 g1).mono ?_)
    rintro z f k ⟨rfl, hw⟩
    cases z with
    | normal => exact (ihb (fun d hd => hL d (by simp [loopsOf, hd])) _ _ _ _ _ hd.2 g2).weaken hw
    | exit _ => simp only at g2; rw [Tr.is_leaf] at g2; cases g2; exact ⟨rfl, hw⟩
    | ret => simp only at g2; rw [Tr.is_leaf] at g2; cases g2; exact ⟨rfl, hw⟩
    | pan _ => simp only at g2; rw [Tr.is_leaf] at g2; cases g2; exact ⟨rfl, hw⟩
  | cond o a b iha ihb =>
    intro hL fr h x fr' h' hd hx
    simp only [dstsIn, Bool.and_eq_true] at hd
    rw [execBY] at hx
    split at hx
    · rename_i t ho
      refine .cond ho ?_
      rw [Tr.is_br] at hx
      cases t with
      | true =>
        rw [if_pos rfl, setOp_same ho] at hx
        exact iha (fun d hd => hL d (by simp [loopsOf, hd])) _ _ _ _ _ hd.1 hx
      | false =>
        rw [if_neg (by decide), setOp_same ho] at hx
        exact ihb (fun d hd => hL d (by simp [loopsOf, hd])) _ _ _ _ _ hd.2 hx
    · exact (Tr.is_no.1 hx).elim
  | block id c ih =>
    intro hL fr h x fr' h' hd hx
    simp only [dstsIn] at hd
    rw [execBY, Tr.is_bind] at hx
    obtain ⟨⟨y, f1, h1⟩, g1, g2⟩ := hx
    refine .block ((ih (fun d hd => hL d (by simp [loopsOf, hd])) _ _ _ _ _ hd g1).mono ?_)
    rintro z f k ⟨rfl, hw⟩
    cases z with
    | exit i =>
      simp only at g2
      simp only [inBlockX]
      split at g2
      · rename_i e
        have e := Nat.eq_of_beq_eq_true e
        rw [Tr.is_leaf] at g2; cases g2
        rw [if_pos e]
        exact ⟨rfl, hw⟩
      · rename_i e
        rw [Tr.is_leaf] at g2; cases g2
        rw [if_neg (fun e2 => e (by rw [e2]; exact Nat.beq_refl _))]
        exact ⟨rfl, hw⟩
    | normal => simp only at g2; rw [Tr.is_leaf] at g2; cases g2; exact ⟨rfl, hw⟩
    | ret => simp only at g2; rw [Tr.is_leaf] at g2; cases g2; exact ⟨rfl, hw⟩
    | pan _ => simp only at g2; rw [Tr.is_leaf] at g2; cases g2; exact ⟨rfl, hw⟩
  | _ => exact fun hL fr h x fr' h' hd hx => execBX_sound hO hm _ hL _ _ _ _ _ hd (by rw [execBY] at hx <;> first | exact hx | (intros; rename_i e; cases e))
end
theorem Rel.dead {ρ : Ren} {I : Nat → Prop} {w : World} {h : Heap} {F : Nat → Prop} (R : Rel ρ I w h F) (i : Nat) : Rel ρ I w (h.set i .dead) F where
  blk k b hb hd := by
    rw [List.getElem?_set] at hb
    split at hb
    · split at hb
      · cases hb; exact absurd rfl hd
      · cases hb
    · exact R.blk k b hb hd
  free := R.free
  out k hk := R.out k (by simpa using hk)
  apart k j x y l l' hkj hx hxd hy hyd hl hl' := by
    rw [List.getElem?_set] at hx hy
    split at hx
    · split at hx
      · cases hx; exact absurd rfl hxd
      · cases hx
    · split at hy
      · split at hy
        · cases hy; exact absurd rfl hyd
        · cases hy
      · exact R.apart k j x y l l' hkj hx hxd hy hyd hl hl'
  lt := R.lt
theorem LFn.dead {P : Program} {f : FuncId} {args : List V} {h : Heap} {fin : Fin} {h' : Heap} (H : LFn P f args h fin h') (i : Nat) : LFn P f args h fin (h'.set i .dead) := by
  intro ρ I w args' R ha
  refine Calls.mono (H ρ I w args' R ha) ?_
  rintro e w' ⟨ρ', I', R', W, hf⟩
  refine ⟨ρ', I', by simpa using (R'.dead i).weaken (F := _) (fun k hk => by simpa using hk), ?_, hf⟩
  refine ⟨W.ren, W.imm, W.os, W.tape, W.output, W.size, W.keep, ?_, W.fresh⟩
  rintro b ⟨k, x, l, hx, hxd, hl, rfl⟩
  refine W.own _ ⟨k, x, l, ?_, hxd, hl, rfl⟩
  rw [List.getElem?_set] at hx
  split at hx
  · split at hx
    · cases hx; exact absurd rfl hxd
    · cases hx
  · exact hx
def DeadOf (g h : Heap) : Prop := g = h ∨ ∃ i, h = g.set i .dead
theorem Own.dead {ρ : Ren} {h : Heap} {i b : Nat} (H : Own ρ (h.set i .dead) b) : Own ρ h b := by
  obtain ⟨k, x, l, hx, hxd, hl, rfl⟩ := H
  refine ⟨k, x, l, ?_, hxd, hl, rfl⟩
  rw [List.getElem?_set] at hx
  split at hx
  · split at hx
    · cases hx; exact absurd rfl hxd
    · cases hx
  · exact hx
theorem FinW.dead {n0 : Nat} {f0 fin : Fin} {h g h' : Heap} (H : FinW n0 f0 h fin g) (hd : DeadOf g h') : FinW n0 f0 h fin h' := by
  rcases hd with rfl | ⟨i, rfl⟩
  · exact H
  · intro ρ I w R
    obtain ⟨ρ', r, W, hf⟩ := H ρ I w R
    exact ⟨ρ', by simpa using (r.dead i).weaken (fun k hk => by simpa using hk), ⟨W.ren, W.imm, W.os, W.tape, W.output, W.size, W.keep, fun b hb => W.own b hb.dead, W.fresh⟩, hf⟩
theorem EndX.dead {P : Program} {fn : Func} {n0 : Nat} {fin : Fin} {g h' : Heap} {x : X} {fr : Fr} {h : Heap} (hd : DeadOf g h') (H : EndX P fn n0 fin g x fr h) : EndX P fn n0 fin h' x fr h := by
  cases x with
  | normal => obtain ⟨f1, h1, v, a, b, c⟩ := H; exact ⟨f1, h1, v, a, b, c.dead hd⟩
  | ret => obtain ⟨f1, h1, v, a, b, c⟩ := H; exact ⟨f1, h1, v, a, b, c.dead hd⟩
  | pan v => exact FinW.dead H hd
  | exit _ => exact H
theorem LFn.deadOf {P : Program} {f : FuncId} {args : List V} {h : Heap} {fin : Fin} {g h' : Heap} (H : LFn P f args h fin g) (hd : DeadOf g h') : LFn P f args h fin h' := by
  rcases hd with rfl | ⟨i, rfl⟩
  · exact H
  · exact H.dead i
theorem fnTD {P : Program} {T : OrcT} (hO : OrcSound P T.o) (hm : P.follows .mixedOrders = true) {L : LoopsT} {fuel : Nat} {f : FuncId} {fn : Func} {args : List V} {h : Heap} {fin : Fin} {h' : Heap} {sh : Tr.Sh} {t : Tr (Fin × Heap)} (hf : P.funcs[f]? = some fn)
    (hL : LoopsOk P fn h.length L.o) (hx : Tr.prune sh (execBF P T L fuel fn args h) = t) (hw : t.wp (fun r => r.1 = fin ∧ DeadOf r.2 h')) : LFn P f args h fin h' := by
  obtain ⟨⟨f1, g⟩, h1, rfl, h2⟩ := Tr.wp_is (Tr.wp_prune hx hw)
  exact (execBF_sound hO hm hf hL h1).deadOf h2
def execBYE (P : Program) (T : OrcT) (L : LoopsT) (fuel : Nat) (fn : Func) (n0 : Nat) (on off : Tell) (c : Code) (fr : Fr) (h : Heap) : Tr ((Fin × Heap) ⊕ (X × Fr × Heap)) :=
  (execBY P T L fuel c fr h).bind fun p => match p with
    | (.normal, fr', h') => (tellT n0 on .normal fr' h').bind fun q => .leaf (.inr q)
    | (.exit i, fr', h') => (tellT n0 off (.exit i) fr' h').bind fun q => .leaf (.inr q)
    | (.ret, fr', h') => (retT P fn n0 fr' h').bind fun q => .leaf (.inl q)
    | (.pan v, _, h') => (match compact n0 (.pan v) h' with | some p => .leaf (.inl p) | none => .no)
def ExW (P : Program) (fn : Func) (n0 : Nat) (q : (Fin × Heap) ⊕ (X × Fr × Heap)) : X → Fr → Heap → Prop := match q with
  | .inl e => fun y f k => y ≠ .normal ∧ EndX P fn n0 e.1 e.2 y f k
  | .inr r => EndW fn.ntmps n0 r.1 r.2.1 r.2.2
def CloW (on off : Tell) (q : (Fin × Heap) ⊕ (X × Fr × Heap)) : Prop := match q with
  | .inl _ => True
  | .inr (.normal, _, h) => on.clo h
  | .inr (_, _, h) => off.clo h
theorem bye_end {P : Program} {fn : Func} {n0 : Nat} {on off : Tell} {x : X} {fr' : Fr} {h' : Heap} {q : (Fin × Heap) ⊕ (X × Fr × Heap)}
    (h2 : (match (x, fr', h') with
      | (.normal, fr', h') => (tellT n0 on .normal fr' h').bind fun q => .leaf (.inr q)
      | (.exit i, fr', h') => (tellT n0 off (.exit i) fr' h').bind fun q => .leaf (.inr q)
      | (.ret, fr', h') => (retT P fn n0 fr' h').bind fun q => .leaf (.inl q)
      | (.pan v, _, h') => (match compact n0 (.pan v) h' with | some p => .leaf (.inl p) | none => .no) : Tr ((Fin × Heap) ⊕ (X × Fr × Heap))).is q) (hc : CloW on off q) {y : X} {f : Fr} {k : Heap} (hw : EndW fn.ntmps n0 x fr' h' y f k) : ExW P fn n0 q y f k := by
  have fst : ∀ {t : Tell} {z : X} {r : X × Fr × Heap}, (tellT n0 t z fr' h').is r → r.1 = z := by
    intro t y r ht
    unfold tellT at ht
    split at ht
    · rw [Tr.is_leaf] at ht; rw [← ht]
    · exact (Tr.is_no.1 ht).elim
  cases x with
  | normal =>
    simp only at h2
    rw [Tr.is_bind] at h2
    obtain ⟨⟨x1, f1, g1⟩, h3, h4⟩ := h2
    rw [Tr.is_leaf] at h4
    subst h4
    have e := fst h3
    simp only at e
    subst e
    obtain ⟨rfl, hw⟩ := hw
    exact ⟨rfl, Weaker.trans hw (tellT_is h3 hc).2⟩
  | exit i =>
    simp only at h2
    rw [Tr.is_bind] at h2
    obtain ⟨⟨x1, f1, g1⟩, h3, h4⟩ := h2
    rw [Tr.is_leaf] at h4
    subst h4
    have e := fst h3
    simp only at e
    subst e
    obtain ⟨rfl, hw⟩ := hw
    exact ⟨rfl, Weaker.trans hw (tellT_is h3 hc).2⟩
  | ret =>
    simp only at h2
    rw [Tr.is_bind] at h2
    obtain ⟨r, h3, h4⟩ := h2
    rw [Tr.is_leaf] at h4
    subst h4
    exact ⟨fun e => (by have h9 := hw.1; rw [e] at h9; cases h9), endT_sound (P := P) (x := .ret) h3 hw⟩
  | pan v =>
    simp only at h2
    split at h2
    · rename_i p ep
      rw [Tr.is_leaf] at h2
      subst h2
      obtain ⟨rfl, rfl, rfl⟩ := hw
      exact And.intro (fun e => by cases e) (tellFin_sound ep)
    · exact (Tr.is_no.1 h2).elim
section
variable {P : Program} {T : OrcT} {L : LoopsT} {n0 : Nat} {fn : Func} {fin : Fin} {h' : Heap}
theorem execBYE_sound (hO : OrcSound P T.o) (hm : P.follows .mixedOrders = true) {fuel : Nat} {on off : Tell} {c : Code} {fr : Fr} {h : Heap} {q : (Fin × Heap) ⊕ (X × Fr × Heap)}
    (hL : ∀ d, d ∈ loopsOf c → LoopOk P fn.ntmps n0 L.o d) (hd : dstsIn fn.ntmps c = true) (hx : (execBYE P T L fuel fn n0 on off c fr h).is q) (hc : CloW on off q) : Runs P fn.ntmps n0 c fr h (ExW P fn n0 q) := by
  unfold execBYE at hx
  rw [Tr.is_bind] at hx
  obtain ⟨⟨x, fr', g⟩, h1, h2⟩ := hx
  exact (execBY_sound hO hm c hL _ _ _ _ _ hd h1).mono fun y f k hw => bye_end h2 hc hw
theorem EndsIn.loop {α : Type} {id : Nat} {c rest : Code} (S : α → Fr × Heap) (μ : α → Nat) (ok : α → Prop) (hO : OrcSound P T.o) (hm : P.follows .mixedOrders = true) (hL : ∀ d, d ∈ loopsOf c → LoopOk P fn.ntmps n0 L.o d) (hd : dstsIn fn.ntmps c = true)
    (round : ∀ a, ok a → ∃ on off fuel, (execBYE P T L fuel fn n0 on off c (S a).1 (S a).2).wp fun q => CloW on off q ∧
      ((∃ a', q = .inr (.normal, S a') ∧ ok a' ∧ μ a' < μ a) ∨ (∃ f g, q = .inr (.exit id, f, g) ∧ EndsIn P fn n0 rest f g fin h') ∨ ∃ g, q = .inl (fin, g) ∧ DeadOf g h'))
    {a0 : α} (h0 : ok a0) : EndsIn P fn n0 (.seq (.block id (.loop c)) rest) (S a0).1 (S a0).2 fin h' := by
  refine Runs.seq (Runs.block (Runs.loop (fun n fr h => ∃ a, ok a ∧ μ a = n ∧ fr = (S a).1 ∧ h = (S a).2) (n := μ a0) ⟨a0, h0, rfl, rfl, rfl⟩ ?_))
  rintro n fr h ⟨a, ha, rfl, rfl, rfl⟩
  obtain ⟨on, off, fuel, hw⟩ := round a ha
  obtain ⟨q, h1, hc, h2⟩ := Tr.wp_is hw
  have H := execBYE_sound hO hm hL hd h1 hc
  rcases h2 with ⟨a', rfl, q2, q3⟩ | ⟨f1, g1, rfl, hE⟩ | ⟨g, rfl, hdd⟩
  · refine H.mono ?_
    rintro y f k ⟨hy, hwk⟩
    simp only at hy
    subst hy
    exact ⟨μ a', (S a').1, (S a').2, q3, ⟨a', q2, rfl, rfl, rfl⟩, hwk⟩
  · refine H.mono ?_
    rintro y f k ⟨hy, hwk⟩
    simp only at hy
    subst hy
    simp only [thenX, inBlockX, if_true]
    exact Runs.weaken hwk hE
  · refine H.mono ?_
    rintro y f k ⟨hy, hE⟩
    have hE : EndX P fn n0 fin h' y f k := EndX.dead hdd hE
    cases y with
    | normal => exact absurd rfl hy
    | exit _ => exact hE.elim
    | ret => exact hE
    | pan _ => exact hE
theorem cutY_runs (hO : OrcSound P T.o) (hm : P.follows .mixedOrders = true) {fuel : Nat} : ∀ {k : Nat} {c : Code} {fr : Fr} {h : Heap} {x : X} {fr' : Fr} {g' : Heap} {R : X → Fr → Heap → Prop}, cutOk k c = true → (∀ d, d ∈ loopsOf c → LoopOk P fn.ntmps n0 L.o d) → dstsIn fn.ntmps c = true →
    (execBY P T L fuel (takeSeq k c) fr h).is (x, fr', g') → (x = .normal → Runs P fn.ntmps n0 (dropSeq k c) fr' g' R) → (x ≠ .normal → ∀ y f k, EndW fn.ntmps n0 x fr' g' y f k → R y f k) → Runs P fn.ntmps n0 c fr h R
  | 0, .seq a b, fr, h, x, fr', g', R, _, hL, hd, hx, H, H2 => by
    simp only [dstsIn, Bool.and_eq_true] at hd
    refine .seq ((execBY_sound hO hm a (fun d hd => hL d (by simp [loopsOf, hd])) _ _ _ _ _ hd.1 hx).mono ?_)
    rintro y f g hw
    have hy : y = x := hw.1
    subst hy
    cases y with
    | normal => exact Runs.weaken hw.2 (H rfl)
    | exit _ => exact H2 (fun e => by cases e) _ _ _ hw
    | ret => exact H2 (fun e => by cases e) _ _ _ hw
    | pan _ => exact H2 (fun e => by cases e) _ _ _ hw
  | k + 1, .seq a b, fr, h, x, fr', g', R, hc, hL, hd, hx, H, H2 => by
    simp only [dstsIn, Bool.and_eq_true] at hd
    simp only [takeSeq, execBY] at hx
    rw [Tr.is_bind] at hx
    obtain ⟨⟨z, fr2, h2⟩, h3, h4⟩ := hx
    refine .seq ((execBY_sound hO hm a (fun d hd => hL d (by simp [loopsOf, hd])) _ _ _ _ _ hd.1 h3).mono ?_)
    rintro y f g hw
    have hy : y = z := hw.1
    subst hy
    cases y with
    | normal => exact Runs.weaken hw.2 (cutY_runs hO hm (k := k) hc (fun d hd => hL d (by simp [loopsOf, hd])) hd.2 h4 H H2)
    | exit _ => simp only at h4; rw [Tr.is_leaf] at h4; cases h4; exact H2 (fun e => by cases e) _ _ _ hw
    | ret => simp only at h4; rw [Tr.is_leaf] at h4; cases h4; exact H2 (fun e => by cases e) _ _ _ hw
    | pan _ => simp only at h4; rw [Tr.is_leaf] at h4; cases h4; exact H2 (fun e => by cases e) _ _ _ hw
theorem EndsIn.cutY {fuel : Nat} {c : Code} {fr : Fr} {h : Heap} {sh : Tr.Sh} {t : Tr ((Fin × Heap) ⊕ (X × Fr × Heap))} {on off : Tell} (k : Nat) (hO : OrcSound P T.o) (hm : P.follows .mixedOrders = true) (hc : cutOk k c = true) (hL : ∀ d, d ∈ loopsOf c → LoopOk P fn.ntmps n0 L.o d) (hd : dstsIn fn.ntmps c = true)
    (hx : Tr.prune sh (execBYE P T L fuel fn n0 on off (takeSeq k c) fr h) = t)
    (hw : t.wp fun q => CloW on off q ∧ ((∃ f g, q = .inr (.normal, f, g) ∧ EndsIn P fn n0 (dropSeq k c) f g fin h') ∨ ∃ g, q = .inl (fin, g) ∧ DeadOf g h')) : EndsIn P fn n0 c fr h fin h' := by
  obtain ⟨q, h1, hcl, h2⟩ := Tr.wp_is (Tr.wp_prune hx hw)
  unfold execBYE at h1
  rw [Tr.is_bind] at h1
  obtain ⟨⟨x, fr', g'⟩, h3, h4⟩ := h1
  have H := fun y f k hw => bye_end (y := y) (f := f) (k := k) h4 hcl hw
  have en : ∀ {g}, q = .inl (fin, g) → DeadOf g h' → ∀ y f k, EndW fn.ntmps n0 x fr' g' y f k → EndX P fn n0 fin h' y f k := by
    rintro g rfl hdd y f k hw
    exact EndX.dead hdd (H y f k hw).2
  have nin : ∀ {f : Fr} {g : Heap}, q = .inr (.normal, f, g) → x = .normal := by
    rintro f g rfl
    exact (H x fr' g' .rfl).1
  rcases h2 with ⟨f1, g1, rfl, hE⟩ | ⟨g, rfl, hdd⟩
  · have hx := nin rfl
    subst hx
    exact cutY_runs hO hm hc hL hd h3 (fun _ => Runs.weaken (H _ _ _ .rfl).2 hE) (fun e => absurd rfl e)
  · refine cutY_runs hO hm hc hL hd h3 (fun e => ?_) (fun _ => en rfl hdd)
    subst e
    exact absurd rfl (H _ _ _ .rfl).1
end
end Go.Lh
end
section
namespace Go.Lh
section
variable {P : Program} {T : OrcT} {L : LoopsT} {fuel : Nat} {N n0 : Nat}
theorem wp_cut (hO : OrcSound P T.o) (hm : P.follows .mixedOrders = true) : ∀ {k : Nat} {c : Code} {fr : Fr} {h : Heap} {x : X} {fr' : Fr} {g' : Heap}, cutOk k c = true → (∀ d, d ∈ loopsOf c → LoopOk P N n0 L.o d) → dstsIn N c = true →
    (execBY P T L fuel (takeSeq k c) fr h).is (x, fr', g') → ∀ (Q : Exit → Act → World → Prop) (dfs : List Deferred) (ρ : Ren) (I : Nat → Prop) (w : World) (a : Act), Sim N dfs ρ I w a fr.get h (fun _ => False) →
      (∀ ρ' I' w' a' e, ERel I' w' ρ' x e → Sim N dfs ρ' I' w' a' fr'.get g' (fun _ => False) → WentN n0 ρ I w h ρ' I' w' g' → (x = .normal → (dropSeq k c).wp P Q a' w') ∧ (x ≠ .normal → Q e a' w')) → c.wp P Q a w
  | 0, .seq u v, fr, h, x, fr', g', _, hL, hd, hx, Q, dfs, ρ, I, w, a, S, K => by
    simp only [dstsIn, Bool.and_eq_true] at hd
    refine wp_seq (execBY_sound (n0 := n0) hO hm u (fun d hd => hL d (by simp [loopsOf, hd])) _ _ _ _ _ hd.1 hx _ dfs ρ I w a S ?_)
    rintro y f g ρ' I' w' a' e ⟨rfl, hw⟩ er s' W
    cases y with
    | normal =>
      cases er
      obtain ⟨ρ2, s2, W2⟩ := hw dfs ρ' I' w' a' s'
      exact (K ρ2 I' w' a' .normal rfl s2 (W.trans W2)).1 rfl
    | exit i =>
      cases er
      obtain ⟨ρ2, s2, W2⟩ := hw dfs ρ' I' w' a' s'
      exact (K ρ2 I' w' a' _ rfl s2 (W.trans W2)).2 (fun e => by cases e)
    | ret =>
      cases er
      obtain ⟨ρ2, s2, W2⟩ := hw dfs ρ' I' w' a' s'
      exact (K ρ2 I' w' a' _ rfl s2 (W.trans W2)).2 (fun e => by cases e)
    | pan z =>
      obtain ⟨rfl, rfl⟩ := hw
      have er2 := er
      obtain ⟨v', hv, rfl⟩ := er
      exact (K ρ' I' w' a' _ er2 s' W).2 (fun e => by cases e)
  | k + 1, .seq u v, fr, h, x, fr', g', hc, hL, hd, hx, Q, dfs, ρ, I, w, a, S, K => by
    simp only [dstsIn, Bool.and_eq_true] at hd
    simp only [takeSeq, execBY] at hx
    rw [Tr.is_bind] at hx
    obtain ⟨⟨z, fr2, h2⟩, h3, h4⟩ := hx
    refine wp_seq (execBY_sound (n0 := n0) hO hm u (fun d hd => hL d (by simp [loopsOf, hd])) _ _ _ _ _ hd.1 h3 _ dfs ρ I w a S ?_)
    rintro y f g ρ' I' w' a' e ⟨rfl, hw⟩ er s' W
    cases y with
    | normal =>
      cases er
      obtain ⟨ρ2, s2, W2⟩ := hw dfs ρ' I' w' a' s'
      exact wp_cut hO hm (k := k) hc (fun d hd => hL d (by simp [loopsOf, hd])) hd.2 h4 Q dfs ρ2 I' w' a' s2 fun ρ3 I3 w3 a3 e er3 s3 W3 => K ρ3 I3 w3 a3 e er3 s3 ((W.trans W2).trans W3)
    | exit i =>
      cases er
      simp only at h4; rw [Tr.is_leaf] at h4; cases h4
      obtain ⟨ρ2, s2, W2⟩ := hw dfs ρ' I' w' a' s'
      exact (K ρ2 I' w' a' _ rfl s2 (W.trans W2)).2 (fun e => by cases e)
    | ret =>
      cases er
      simp only at h4; rw [Tr.is_leaf] at h4; cases h4
      obtain ⟨ρ2, s2, W2⟩ := hw dfs ρ' I' w' a' s'
      exact (K ρ2 I' w' a' _ rfl s2 (W.trans W2)).2 (fun e => by cases e)
    | pan q =>
      simp only at h4; rw [Tr.is_leaf] at h4; cases h4
      obtain ⟨rfl, rfl⟩ := hw
      have er2 := er
      obtain ⟨v', hv, rfl⟩ := er
      exact (K ρ' I' w' a' _ er2 s' W).2 (fun e => by cases e)
end
def execDG (P : Program) (T : OrcT) (L : LoopsT) (fuel : Nat) (k : Nat) (fn : Func) (args : List V) (h : Heap) : Tr (Fin × Heap) := match fn.body with
  | some c => (match dropSeq k c with
    | .seq (.region _ ops false) rest => (match ops.toList with
      | [o1, o2] => if cutOk k c && dstsIn fn.ntmps c && dstsIn fn.ntmps (.region 0 ops false) && dstsIn fn.ntmps rest && Nat.ble args.length fn.ntmps && o1.guard.isNone && !(Op.makes P o1.op) then
          (match defOp o2 with
          | some s => (execBY P T L fuel (takeSeq k c) (argsFr 0 args) h).bind fun p => (match p with
            | (.ret, fr0, h0) => retT P fn h.length fr0 h0
            | (.normal, fr0, h0) => (stepOT P T 0 fr0.get h0 o1.op).bind fun q => (match q with
              | (.ret vf, h1) => (match asFn (opnd (putO o1.dst vf fr0).get s) with
                | some (F, as) => (match P.funcs[F]? with
                  | some fnF => if fnF.name == "runtime.NumGoroutine" then .no else (execBX P T L fuel rest (putO o1.dst vf fr0) h1).bind (endD P T L fuel fn fnF h.length as)
                  | none => .no)
                | none => .no)
              | _ => .no)
            | _ => .no)
          | none => .no) else .no
      | _ => .no)
    | _ => .no)
  | none => .no
section
variable {P : Program} {T : OrcT} {L : LoopsT} {fuel : Nat}
theorem execDG_sound (hO : OrcSound P T.o) (hm : P.follows .mixedOrders = true) {k : Nat} {f : FuncId} {fn : Func} {args : List V} {h : Heap} {r : Fin × Heap} (hf : P.funcs[f]? = some fn)
    (hL : ∀ n0, LoopsOk P fn n0 L.o) (hLF : ∀ (F : FuncId) (fnF : Func) (n0 : Nat), P.funcs[F]? = some fnF → LoopsOk P fnF n0 L.o)
    (hx : (execDG P T L fuel k fn args h).is r) : LFn P f args h r.1 r.2 := by
  unfold execDG at hx
  split at hx
  · rename_i c hb
    split at hx
    · rename_i bid ops rest hdrop
      split at hx
      · rename_i o1 o2 hops
        split at hx
        · rename_i hc
          simp only [Bool.and_eq_true, Bool.not_eq_true'] at hc
          obtain ⟨⟨⟨⟨⟨⟨hcut, hdc⟩, hd1⟩, hd2⟩, hn⟩, hg1⟩, hmk⟩ := hc
          have hn := Nat.le_of_ble_eq_true hn
          have hLr : ∀ n0 d, d ∈ loopsOf rest → LoopOk P fn.ntmps n0 L.o d := fun n0 d hd => hL _ _ hb d (loopsOf_drop (k := k) (by rw [hdrop]; simp [loopsOf, hd]))
          split at hx
          · rename_i s hs
            rw [Tr.is_bind] at hx
            obtain ⟨⟨x0, fr0, h0⟩, hx0, hx⟩ := hx
            intro ρ I w args' R ha
            have hal : args'.length = args.length := ha.length.symm
            refine calls_of_wp_defers hf hb ?_
            refine wp_cut (N := fn.ntmps) (n0 := h.length) hO hm hcut (fun d hd => hL _ _ hb d hd) hdc hx0 _ [] ρ I w _ ⟨by simp; omega, rfl, frel_args ha fn.ntmps, R.weaken (fun _ h => h.elim)⟩ ?_
            intro ρ1 I0 w0 a0 e0 er s1 W1
            cases x0 with
            | pan _ => exact (Tr.is_no.1 hx).elim
            | exit _ => exact (Tr.is_no.1 hx).elim
            | ret =>
              refine ⟨fun e => (by cases e), fun _ => ?_⟩
              cases er
              obtain ⟨v, hv, hcm⟩ := retT_is hx
              have hFinW : FinW h.length (.ret v) h0 r.1 r.2 := tellFin_sound hcm
              show Leaves P fn a0.tmps _ a0.defers .returning w0
              rw [s1.defers]
              obtain ⟨v', hv1, hv2⟩ := resV_sound (P := P) s1.rel s1.fr hv
              refine ⟨v', hv1, ?_⟩
              obtain ⟨ρ6, r6, w6, f6⟩ := hFinW ρ1 I0 w0 s1.rel
              exact ⟨ρ6, I0, r6, (W1.trans w6).full R (Nat.le_refl _), f6 _ ⟨v', rfl, hv2⟩⟩
            | normal =>
            refine ⟨fun _ => ?_, fun e => absurd rfl e⟩
            simp only at hx
            rw [Tr.is_bind] at hx
            obtain ⟨⟨fin1, h1⟩, hst, hx⟩ := hx
            have hst := stepOT_is hst
            cases fin1 with
            | pan _ => exact (Tr.is_no.1 hx).elim
            | ret vf =>
            simp only at hx hst
            split at hx
            · rename_i F as has
              split at hx
              · rename_i fnF hF
                split at hx
                · exact (Tr.is_no.1 hx).elim
                rename_i hnm
                rw [Tr.is_bind] at hx
                obtain ⟨⟨x, fr2, h2⟩, hx2, hx⟩ := hx
                obtain ⟨pv, h5, hpv, hdef, hret⟩ := endD_end hx
                obtain ⟨vR, hvR, hcm⟩ := retT_is hret
                have hFinW : FinW h.length (.ret vR) h5 r.1 r.2 := tellFin_sound hcm
                -- the closure
                obtain ⟨first, cap, hfn, hasE⟩ : ∃ first cap, opnd (putO o1.dst vf fr0).get s = some (.fn F first cap) ∧ as = first ++ cap := by
                  unfold asFn at has
                  split at has
                  · rename_i f1 a b e; cases has; exact ⟨a, b, e, rfl⟩
                  · cases has
                have hbF : fnF.body.isSome = true := by
                  unfold defT at hdef
                  split at hdef
                  · rename_i e; rw [e]; rfl
                  · exact (Tr.is_no.1 hdef).elim
                have hEnF : Enters P F := ⟨fnF, hF, by cases hbb : fnF.body with | none => rw [hbb] at hbF; cases hbF | some _ => rfl, by simpa using hnm⟩
                rw [hdrop]
                refine wp_seq (wp_region ?_)
                have e1 : ops[0]? = some o1 := by rw [← Array.getElem?_toList, hops]; rfl
                have e2 : ops[1]? = some o2 := by rw [← Array.getElem?_toList, hops]; rfl
                have hsz : ops.size = 2 := by have := congrArg List.length hops; simpa using this
                have hg1 : o1.guard = none := by simpa using hg1
                have hin : ∀ d, o1.dst = some d → d < fn.ntmps := fun d hd => dstIn_iff (List.all_eq_true.1 hd1 o1 (by rw [hops]; simp)) d hd
                rw [hsz]
                show wpOps P ops _ [0, 1] a0 w0
                simp only [wpOps, e1, e2]
                rw [if_pos (by unfold Region.wanted; rw [hg1])]
                left
                rw [stepO_idx (j := h0.length) hmk] at hst
                refine stepO_wp (F := fun _ => False) hO s1.rel s1.fr (fun e => by rw [hmk] at e; cases e) hst _ _ ?_ (fun _ e => by cases e)
                intro v e w2 ρ2 I2 vf' hvf hR2 W2
                cases e
                have s2 : Sim fn.ntmps [] ρ2 I2 w2 (a0.put o1.dst vf') (putO o1.dst vf fr0).get h1 (fun _ => False) := by
                  refine ⟨by rw [put_size]; exact s1.size, by rw [put_defers]; exact s1.defers, ?_, hR2.weaken (fun i hi => hi.elim)⟩
                  rw [get_putO]
                  exact (s1.fr.le (W2.le s1.rel)).put hvf (fun d hd => by rw [s1.size]; exact hin d hd)
                have hov := opnd_sound s2.fr hfn
                obtain ⟨first', cap', hov', hfa, hca⟩ : ∃ first' cap', (a0.put o1.dst vf').eval s = .func (.func F) ⟨first'⟩ ⟨cap'⟩ ∧ VsRel I2 w2 ρ2 first first' ∧ VsRel I2 w2 ρ2 cap cap' := by
                  cases hv : (a0.put o1.dst vf').eval s <;> rw [hv] at hov <;> cases hov
                  exact ⟨_, _, rfl, ‹_›, ‹_›⟩
                obtain ⟨hrun, hg2, hdn⟩ := defOp_run (P := P) hs hov' w2
                rw [if_pos (by unfold Region.wanted; rw [hg2])]
                left
                unfold Oper.wp
                rw [hrun, Oper.upon_defer, hdn]
                show Code.wp P rest _ { (a0.put o1.dst vf') with defers := _ :: (a0.put o1.dst vf').defers } w2
                rw [s2.defers]
                refine execBX_sound (N := fn.ntmps) (n0 := h1.length) hO hm rest (hLr _) _ h1 x fr2 h2 hd2 hx2 _ [{ target := .fn (.func F) ⟨cap'⟩, args := ⟨first'⟩ }] ρ2 I2 w2 _ ⟨s2.size, rfl, s2.fr, s2.rel⟩ ?_
                rintro y f3 k3 ρ3 I3 w3 a3 e3 ⟨rfl, hwk3⟩ er3 s3 W3
                -- the state at the end of the body
                obtain ⟨ρ4, s4, W4, er4⟩ : ∃ ρ4, Sim fn.ntmps [{ target := .fn (.func F) ⟨cap'⟩, args := ⟨first'⟩ }] ρ4 I3 w3 a3 fr2.get h2 (fun _ => False) ∧ Went ρ2 I2 w2 h1 ρ4 I3 w3 h2 ∧ ERel I3 w3 ρ4 y e3 := by
                  cases y with
                  | pan v =>
                    obtain ⟨rfl, rfl⟩ := hwk3
                    exact ⟨ρ3, s3, W3.full s2.rel (Nat.le_refl _), er3⟩
                  | normal => obtain ⟨ρ4, a, b⟩ := hwk3 _ ρ3 I3 w3 a3 s3; exact ⟨ρ4, a, (W3.trans b).full s2.rel (Nat.le_refl _), er3⟩
                  | ret => obtain ⟨ρ4, a, b⟩ := hwk3 _ ρ3 I3 w3 a3 s3; exact ⟨ρ4, a, (W3.trans b).full s2.rel (Nat.le_refl _), er3⟩
                  | exit _ => rcases hpv with ⟨h0 | h0, _⟩ | ⟨_, h0, _⟩ <;> cases h0
                -- the deferred call
                have Lx := W4.le s2.rel
                have hargs : VsRel I3 w3 ρ4 as (first' ++ cap') := by rw [hasE]; exact VsRel.append (hca.le Lx) (hfa.le Lx)
                have leaves : ∀ u, UIs I3 w3 ρ4 pv u → Leaves P fn a3.tmps (fun e w' => ∃ ρ' I', Rel ρ' I' w' r.2 (fun i => r.2.length ≤ i) ∧ Went ρ I w h ρ' I' w' r.2 ∧ FinRel I' w' ρ' r.1 e) a3.defers u w3 := by
                  intro u hu
                  rw [s4.defers]
                  have hi : (invoke (.fn (.func F) ⟨cap'⟩) ⟨first'⟩).run P w3 = .ok (.enter F ⟨first' ++ cap'⟩) w3 := by
                    have : invoke (.fn (.func F) ⟨cap'⟩) ⟨first'⟩ = callFunc F ⟨first' ++ cap'⟩ := by simp [invoke]
                    rw [this, callFunc_enter hEnF]
                  refine leaves_cons ?_ hi ?_
                  · cases pv with
                    | none => rw [show u = .returning from hu]; exact fun e => by cases e
                    | some v => obtain ⟨v', _, rfl⟩ := hu; exact fun e => by cases e
                  · refine (defT_calls hO hm hF (hLF F fnF _ hF) hdef s4.rel hargs hu).mono ?_
                    rintro e u' w' ⟨⟨rv, rfl⟩, hset, ρ5, I5, R5, W5⟩
                    simp only
                    rw [hset]
                    obtain ⟨v', hv1, hv2⟩ := resV_sound (P := P) R5 (s4.fr.le (W5.le s4.rel)) hvR
                    refine ⟨v', hv1, ?_⟩
                    obtain ⟨ρ6, r6, w6, f6⟩ := hFinW ρ5 I5 w' R5
                    have WW := (((W1.trans W2.toN).trans W4.toN).trans W5.toN).trans w6
                    exact ⟨ρ6, I5, r6, WW.full R (Nat.le_refl _), f6 _ ⟨v', rfl, hv2⟩⟩
                rcases hpv with ⟨h0 | h0, hp⟩ | ⟨v, h0, hp⟩
                · subst h0; subst hp; cases er4; exact leaves _ rfl
                · subst h0; subst hp; cases er4; exact leaves _ rfl
                · subst h0; subst hp
                  obtain ⟨v', hv, rfl⟩ := er4
                  exact leaves _ ⟨v', hv, rfl⟩
              · exact (Tr.is_no.1 hx).elim
            · exact (Tr.is_no.1 hx).elim
          · exact (Tr.is_no.1 hx).elim
        · exact (Tr.is_no.1 hx).elim
      · exact (Tr.is_no.1 hx).elim
    · exact (Tr.is_no.1 hx).elim
  · exact (Tr.is_no.1 hx).elim
theorem fnDG (hO : OrcSound P T.o) (hm : P.follows .mixedOrders = true) (k : Nat) {f : FuncId} {fn : Func} {args : List V} {h : Heap} {fin : Fin} {h' : Heap} {sh : Tr.Sh} {t : Tr (Fin × Heap)} (hf : P.funcs[f]? = some fn)
    (hx : Tr.prune sh (execDG P T noLoopsT fuel k fn args h) = t) (hw : t.wp (fun r => r = (fin, h'))) : LFn P f args h fin h' := by
  subst hx
  exact execDG_sound (r := (fin, h')) hO hm hf (fun _ => LoopsOk.noneT) (fun _ _ _ _ => LoopsOk.noneT) (Tr.prune_is (Tr.is_of_wp hw))
end
end Go.Lh
end
section
namespace Go.Lh
theorem FinW.refl {n0 : Nat} {fin : Fin} {h : Heap} : FinW n0 fin h fin h := by
  intro ρ I w R
  exact ⟨ρ, ⟨R.blk, fun i hi => R.out i hi, R.out, R.apart, R.lt⟩, .refl, fun _ he => he⟩
section
variable {P : Program} {T : OrcT} {L : LoopsT} {n0 : Nat} {fn : Func} {fin : Fin} {h' : Heap}
end
end Go.Lh
end
section
namespace Go.Lh
section
variable {P : Program} {N n0 : Nat}
variable {fn : Func} {fin : Fin} {h' : Heap}
end
end Go.Lh
end
section
namespace Go.Lh
def isKeyB : TypeDesc → Value → Bool
  | .int .u8, .int .u8 _ => true
  | .string, .string _ => true
  | _, _ => false
theorem isKeyB_key {d : TypeDesc} {v : Value} (h : isKeyB d v = true) : MapKept.IsKey d v := by
  unfold isKeyB at h
  split at h
  · simp [MapKept.IsKey]
  · simp [MapKept.IsKey]
  · cases h
def valOp : Operand → Option Value
  | .const v => some v
  | .func f => some (.func (.func f) #[] #[])
  | _ => none
theorem valOp_eval {x : Operand} {v : Value} (h : valOp x = some v) (a : Act) : a.eval x = v := by
  cases x <;> simp only [valOp, Option.some.injEq, reduceCtorEq] at h
  · exact h
  · exact h
def litE (d : TypeDesc) (t m : Nat) (o : Oper) : Option (Value × Value) :=
  match o.op, o.dst, o.guard with
  | .insert m' (.tmp t') (.const k) x, none, none => if Nat.beq m' m && Nat.beq t' t && isKeyB d k then (match valOp x with | some v => some (k, v) | none => none) else none
  | _, _, _ => none
def litR (d : TypeDesc) (t m : Nat) : List Oper → List MapEntry → Option (List MapEntry)
  | [], acc => some acc
  | o :: r, acc => match litE d t m o with
    | some (k, v) => (match Instr.findNow d k acc 0 with
      | some none => litR d t m r (acc ++ [{ key := k, val := v, born := acc.length }])
      | _ => none)
    | none => none
structure LitW (w w' : World) (r : Nat) (es : List MapEntry) : Prop where
  os : w'.os = w.os
  tape : w'.tape = w.tape
  output : w'.output = w.output
  size : w'.heap.size = w.heap.size
  others : ∀ k, k ≠ r → w'.heap[k]? = w.heap[k]?
  here : w'.heap[r]? = some (.map es.toArray es.length)
section
variable {P : Program} {d : TypeDesc} {kt et m t r : Nat}
theorem litE_spec {o : Oper} {k v : Value} (h : litE d t m o = some (k, v)) : ∃ x, o.op = .insert m (.tmp t) (.const k) x ∧ o.dst = none ∧ o.guard = none ∧ isKeyB d k = true ∧ valOp x = some v := by
  unfold litE at h
  split at h
  · rename_i m' t' k' x e1 e2 e3
    split at h
    · rename_i hc
      simp only [Bool.and_eq_true] at hc
      obtain ⟨⟨h1, h2⟩, h3⟩ := hc
      have h1 := Nat.eq_of_beq_eq_true h1
      have h2 := Nat.eq_of_beq_eq_true h2
      subst h1; subst h2
      split at h <;> simp only [Option.some.injEq, Prod.mk.injEq, reduceCtorEq] at h
      rename_i v' hv
      obtain ⟨rfl, rfl⟩ := h
      exact ⟨x, e1, e2, e3, h3, hv⟩
    · cases h
  · cases h
theorem lit_ops (hm : P.underlying m = some (.map kt et)) (hd : P.underlying kt = some d) {ops : Array Oper} {Q : Exit → Act → World → Prop} {es : List MapEntry} {a : Act} (ht : a.tmps.getD t undef = .map (some r)) :
    ∀ (l : List Oper) (i : Nat) (acc : List MapEntry) (w : World), (∀ k o, l[k]? = some o → ops[i + k]? = some o) → litR d t m l acc = some es → w.heap[r]? = some (.map acc.toArray acc.length) →
      (∀ w', LitW w w' r es → Q .normal a w') → wpOps P ops Q (List.range' i l.length) a w
  | [], i, acc, w, _, hr, hb, K => by
    simp only [litR, Option.some.injEq] at hr
    subst hr
    exact K w ⟨rfl, rfl, rfl, rfl, fun _ _ => rfl, hb⟩
  | o :: l, i, acc, w, hl, hr, hb, K => by
    have ho : ops[i]? = some o := hl 0 o rfl
    simp only [litR] at hr
    split at hr <;> try simp only [reduceCtorEq] at hr
    rename_i k v he
    split at hr <;> try simp only [reduceCtorEq] at hr
    rename_i hf
    obtain ⟨x, e1, e2, e3, e4, e5⟩ := litE_spec he
    have hk := isKeyB_key e4
    have hw : ∀ y, Region.wanted o y = true := by intro y; unfold Region.wanted; rw [e3]
    have e6 := valOp_eval e5 a
    have e7 : a.eval (.tmp t) = .map (some r) := ht
    have e8 : a.eval (.const k) = k := rfl
    have hrun : (execOp a.eval o).run P w = .ok .skip { w with heap := w.heap.setIfInBounds r (.map (acc ++ [({ key := k, val := v, born := acc.length } : MapEntry)]).toArray (acc.length + 1)) } := by
      simp [execOp, e1, e6, e7, e8, Instr.mapUpdate, run_underlying hm, MapKept.run_getObj_map hb, MapKept.run_checkKey hd hk _ 9999, MapKept.run_findKey hd hf, MapKept.run_setObj_map _ hb, Result.andThen]
    simp only [List.length_cons, List.range'_succ, wpOps, ho, hw, if_true]
    left
    unfold Oper.wp
    rw [hrun, Oper.upon_skip, e2]
    have hp : a.put none undef = a := rfl
    rw [hp]
    have hs := MapKept.heap_set (o' := .map (acc ++ [({ key := k, val := v, born := acc.length } : MapEntry)]).toArray (acc.length + 1)) hb
    refine lit_ops hm hd ht l (i + 1) _ _ (fun j q hj => by have := hl (j + 1) q (by simpa using hj); rwa [show i + (j + 1) = i + 1 + j by omega] at this) hr ?_ (fun w' L => K w' ?_)
    · rw [hs.1]; simp
    · exact ⟨L.os, L.tape, L.output, by rw [L.size]; simp, fun j hj => (L.others j hj).trans (hs.2 j hj), L.here⟩
def litHead (d : TypeDesc) (t m : Nat) : List Oper → Option (List MapEntry)
  | o :: r => (match o.op, o.dst, o.guard with
    | .makeMap m' none, some t', none => if Nat.beq m' m && Nat.beq t' t then litR d t m r [] else none
    | _, _, _ => none)
  | [] => none
theorem BRel.alloc {I I' : Nat → Prop} {w w' : World} {ρ : Ren} {l : Loc} {b : Blk} (B : BRel I w ρ l b) (hI : ∀ b, I b → I' b) (hm : ∀ b, I b → w'.heap[b]? = w.heap[b]?) (hl : w'.heap[l.b]? = w.heap[l.b]?) : BRel I' w' ρ l b := by
  refine ⟨?_, B.fits, fun e n h => ⟨(B.ty e n h).1, by rw [hl]; exact (B.ty e n h).2⟩⟩
  obtain ⟨C, e, fz, h1, h2, h3, h4⟩ := B.mem
  exact ⟨C, e, fz, hl.trans h1, h2, h3, fun o ho => by obtain ⟨c, c1, c2⟩ := h4 o ho; exact ⟨c, c1, c2.mono hI hm _ (fun _ _ h => h)⟩⟩
theorem lit_region {N n0 : Nat} {dfs : List Deferred} {ρ : Ren} {I : Nat → Prop} {w : World} {a : Act} {fr : Fr} {h : Heap} (hm : P.underlying m = some (.map kt et)) (hd : P.underlying kt = some d) {ops : Array Oper} {es : List MapEntry} {mk : MapK}
    (hr : litHead d t m ops.toList = some es) (hmk : es.map (fun e => (e.key, e.val)) = mk.ents) (htN : t < N) (S : Sim N dfs ρ I w a fr.get h (fun _ => False)) :
    wpOps P ops (fun e a' w' => e = .normal ∧ ∃ ρ' I', Sim N dfs ρ' I' w' a' (fr.put t (.fmap mk)).get h (fun _ => False) ∧ WentN n0 ρ I w h ρ' I' w' h) (List.range ops.size) a w := by
  unfold litHead at hr
  split at hr <;> try simp only [reduceCtorEq] at hr
  rename_i o rest hl
  split at hr <;> try simp only [reduceCtorEq] at hr
  rename_i m' t' e1 e2 e3
  split at hr <;> try simp only [reduceCtorEq] at hr
  rename_i hc
  simp only [Bool.and_eq_true] at hc
  have h1 := Nat.eq_of_beq_eq_true hc.1
  have h2 := Nat.eq_of_beq_eq_true hc.2
  subst h1; subst h2
  have hw : ∀ y, Region.wanted o y = true := by intro y; unfold Region.wanted; rw [e3]
  have hsz : ops.size = rest.length + 1 := by rw [← Array.length_toList, hl]; rfl
  have h0 : ops[0]? = some o := by rw [← Array.getElem?_toList, hl]; rfl
  have hrun : (execOp a.eval o).run P w = .ok (.value (.map (some w.heap.size))) (w.alloc (.map #[] 0)) := by
    simp [execOp, e1, Instr.makeMap, Result.andThen]
  rw [hsz, List.range_eq_range', List.range'_succ]
  simp only [wpOps, h0, hw, if_true]
  left
  unfold Oper.wp
  rw [hrun, Oper.upon_value, e2]
  have hh := MapKept.heap_alloc w (.map #[] 0)
  have htm : (a.put (some t') (.map (some w.heap.size))).tmps.getD t' undef = .map (some w.heap.size) := by
    have := S.size
    simp [Act.put, Array.getD, this, htN]
  refine lit_ops hm hd htm rest 1 [] _ (fun k q hk => ?_) hr hh.1 (fun w' L => ⟨rfl, ρ, fun b => I b ∨ b = w.heap.size, ?_, ?_⟩)
  · rw [← Array.getElem?_toList, hl, Nat.add_comm, List.getElem?_cons_succ]; exact hk
  · have hlt : ∀ b, b < w.heap.size → w'.heap[b]? = w.heap[b]? := fun b hb => (L.others b (Nat.ne_of_lt hb)).trans (hh.2 b hb)
    have hIm : ∀ b, I b → w'.heap[b]? = w.heap[b]? := fun b hb => hlt b (S.rel.lt b hb)
    have hsize : w'.heap.size = w.heap.size + 1 := by rw [L.size]; show (w.heap.push _).size = _; simp
    refine ⟨?_, ?_, ?_, ?_⟩
    · rw [put_size]; exact S.size
    · rw [put_defers]; exact S.defers
    · rw [Fr.get_put]
      refine FRel.put (fun t v hg => (S.fr t v hg).mono (fun b h => .inl h) hIm _ (fun _ _ h => h)) ?_ (fun d hd => by cases hd; rw [S.size]; exact htN)
      exact .fmap ρ mk w.heap.size es.toArray es.length (.inr rfl) L.here hmk
    · refine ⟨fun i b hb hne => ?_, S.rel.free, S.rel.out, S.rel.apart, fun b hb => ?_⟩
      · obtain ⟨l, hl, B, hn⟩ := S.rel.blk i b hb hne
        have hlb : l.b < w.heap.size := by
          obtain ⟨C, e, fz, c1, _⟩ := B.mem
          exact (Array.getElem?_eq_some_iff.1 c1).1
        refine ⟨l, hl, B.alloc (fun b h => .inl h) hIm (hlt _ hlb), ?_⟩
        rintro (h | h)
        · exact hn h
        · omega
      · rcases hb with hb | rfl
        · have := S.rel.lt b hb; omega
        · omega
  · have hsize : w'.heap.size = w.heap.size + 1 := by rw [L.size]; show (w.heap.push _).size = _; simp
    refine Went.toN ⟨fun _ _ h => h, fun _ h => .inl h, L.os, L.tape, L.output, by omega, fun b hb _ => (L.others b (Nat.ne_of_lt hb)).trans (hh.2 b hb), fun b hb => .inl hb, fun b hb => ?_⟩
    rcases hb with hb | rfl
    · exact .inl hb
    · exact .inr (.inr (Nat.le_refl _))
end
end Go.Lh
end
section
namespace Go.Lh
def idxB (s : List (BitVec 8)) (c : BitVec 8) : Int := Lib.indexByte (s.map UInt8.ofBitVec) (UInt8.ofBitVec c)
def idxX : List V → Option (Bool × V)
  | [.str s, .u8 c] => some (true, .int .i64 (idxB s c))
  | _ => none
theorem idxX_at {P : Program} {f : FuncId} {fn : Func} (hf : P.funcs[f]? = some fn) (hname : (fn.name == "runtime.NumGoroutine") = false) (hb : fn.body.isNone = true) (hn : Extern.findNext fn = none)
    (he : Extern.find fn = some Extern.BytealgIndexByte.indexByte) : ExtAt P f idxX := by
  refine ⟨fun args v hx I w ρ args' ha => ?_⟩
  unfold idxX at hx
  split at hx <;> simp only [Option.some.injEq, Prod.mk.injEq, true_and, reduceCtorEq] at hx
  rename_i s c
  subst hx
  cases ha with
  | cons _ _ _ _ _ h1 r =>
    cases h1 with
    | str _ s =>
      cases r with
      | cons _ _ _ _ _ h2 r =>
        cases h2
        cases r
        refine ⟨_, callFunc_extern hf hname hb hn he (Lib.run_indexByteString s _ w), ?_⟩
        have e1 : (bytesOf s).map UInt8.ofBitVec = s.data.toList := by
          show (s.data.toList.map UInt8.toBitVec).map UInt8.ofBitVec = _
          rw [List.map_map]
          have : (UInt8.ofBitVec ∘ UInt8.toBitVec) = id := by funext x; rfl
          rw [this, List.map_id]
        have e2 : ((c.toNat : Int).toNat).toUInt8 = UInt8.ofBitVec c := by
          apply UInt8.toBitVec_inj.1
          simp
        unfold idxB
        rw [e1, ← e2]
        exact .int _ _ _ rfl
end Go.Lh
end
section
namespace Go.Lh
section
variable {P : Program} {T : OrcT} {fuel n0 N : Nat} {fn : Func} {c : Code} {fr fr3 : Fr} {h h3 h' : Heap} {fin : Fin} {on : List Nat} {d : TypeDesc} {kt et m t : Nat} {es : List MapEntry} {mk : MapK}
theorem region_lit {id : Nat} {ops opsA opsB : Array Oper} (hO : OrcSound P T.o) (hab : ops.toList = opsA.toList ++ opsB.toList) (hg : ops.toList.all (fun o => o.guard.isNone) = true) (hd : dstsIn N (.region id ops false) = true)
    (hmt : P.underlying m = some (.map kt et)) (hkt : P.underlying kt = some d) (hr : litHead d t m opsA.toList = some es) (hmk : es.map (fun e => (e.key, e.val)) = mk.ents) (htN : t < N)
    (hB : (execB P T noLoopsT fuel (.region id opsB false) (fr.put t (.fmap mk)) h).is (.normal, fr3, h3)) : Runs P N n0 (.region id ops false) fr h (EndW N n0 .normal fr3 h3) := by
  have hin : ∀ d, d ∈ ops.toList.filterMap (·.dst) → d < N := by
    intro d hd'
    obtain ⟨o, ho, hod⟩ := List.mem_filterMap.1 hd'
    exact dstIn_iff (List.all_eq_true.1 hd o ho) d hod
  have hinB : ∀ d, d ∈ opsB.toList.filterMap (·.dst) → d < N := fun d hd => hin d (by rw [hab, List.filterMap_append]; simp [hd])
  have ofI : ∀ {o : Array Oper} {f f' : Fr} {g g' : Heap}, (execB P T noLoopsT fuel (.region id o false) f g).is (.normal, f', g') → runRegion P T.o o false f g = some (true, none, f', g') := by
    intro o f f' g g' hx
    have := execB_is hx
    simp only [execD] at this
    split at this <;> simp only [Option.some.injEq, Prod.mk.injEq, reduceCtorEq] at this
    · rename_i q f2 g2 hr
      obtain ⟨rfl, _, rfl, rfl⟩ := this
      exact hr
    · exact this.2.1.elim
  intro Q dfs ρ I w a S K
  refine wp_region ?_
  have hsz : ops.size = opsA.size + opsB.size := by
    have := congrArg List.length hab
    simpa using this
  have hrange : List.range ops.size = (List.range opsA.size).map id' ++ (List.range opsB.size).map (fun i => opsA.size + i) := by
    rw [hsz, List.range_add]
    rw [show (List.range opsA.size).map id' = List.range opsA.size from List.map_id _]
  have gA : ∀ i, i < opsA.size → ∃ o, opsA[i]? = some o ∧ ops[id' i]? = some o ∧ o.guard = none := by
    intro i hi
    have e1 : ops[i]? = opsA[i]? := by
      rw [← Array.getElem?_toList, hab, List.getElem?_append_left (by simpa using hi), Array.getElem?_toList]
    have e2 : opsA[i]? = some opsA[i] := Array.getElem?_eq_getElem hi
    refine ⟨_, e2, by show ops[i]? = _; rw [e1, e2], ?_⟩
    have := List.all_eq_true.1 hg opsA[i] (List.mem_of_getElem? (by rw [Array.getElem?_toList, e1, e2]))
    simpa using this
  have gB : ∀ i, i < opsB.size → ∃ o, opsB[i]? = some o ∧ ops[opsA.size + i]? = some o ∧ o.guard = none := by
    intro i hi
    have e1 : ops[opsA.size + i]? = opsB[i]? := by
      rw [← Array.getElem?_toList, hab, List.getElem?_append_right (by simp), Array.getElem?_toList]
      simp
    have e2 : opsB[i]? = some opsB[i] := Array.getElem?_eq_getElem hi
    refine ⟨_, e2, by rw [e1, e2], ?_⟩
    have := List.all_eq_true.1 hg opsB[i] (List.mem_of_getElem? (by rw [Array.getElem?_toList, e1, e2]))
    simpa using this
  rw [hrange]
  refine ops_gen (ops1 := opsA) (Q1 := fun e a' w' => e = .normal ∧ ∃ ρ' I', Sim N dfs ρ' I' w' a' (fr.put t (.fmap mk)).get h (fun _ => False) ∧ WentN n0 ρ I w h ρ' I' w' h) id' _ (fun e a w hne q => absurd q.1 hne) ?_ _ (fun i hi => gA i (List.mem_range.1 hi)) a w
    (lit_region hmt hkt hr hmk htN S)
  rintro a1 w1 ⟨_, ρ1, I1, s1, W1⟩
  have hB' := ops_gen (P := P) (ops1 := opsB) (ops2 := ops) (Q1 := fun e a' w' => e = .normal ∧ Q .normal a' w') (Q2 := Q) (fun i => opsA.size + i) [] (fun e a w hne q => absurd q.1 hne) (fun a w q => q.2) (List.range opsB.size) (fun i hi => gB i (List.mem_range.1 hi)) a1 w1
    (region_ops hO hinB s1 (ofI hB) (fun ρ' I' w' a' s W => ⟨rfl, K .normal _ _ ρ' I' w' a' .normal .rfl rfl s (W1.trans W.toN)⟩))
  rw [List.append_nil] at hB'
  exact hB'
theorem EndsIn.lit (k : Nat) (hO : OrcSound P T.o) (hc : headOk c = true) (hd : dstsIn fn.ntmps c = true)
    (hmt : P.underlying m = some (.map kt et)) (hkt : P.underlying kt = some d) (hr : litHead d t m ((headOps c).toList.take k) = some es) (hmk : es.map (fun e => (e.key, e.val)) = mk.ents) (htN : Nat.blt t fn.ntmps = true)
    (hB : (execBN P T noLoopsT fuel n0 on [] (partB k c) (fr.put t (.fmap mk)) h).is (.normal, fr3, h3)) (H : EndsIn P fn n0 (tailC c) fr3 h3 fin h') : EndsIn P fn n0 c fr h fin h' := by
  have htN : t < fn.ntmps := by simpa [Nat.blt_eq] using htN
  unfold headOk at hc
  split at hc
  · rename_i id ops rest
    simp only [dstsIn, Bool.and_eq_true] at hd
    unfold execBN at hB
    rw [Tr.is_bind] at hB
    obtain ⟨⟨x, fr', g'⟩, hB1, hB2⟩ := hB
    have hx : x = .normal := by
      cases x with
      | normal => rfl
      | pan v => simp only at hB2; rw [Tr.is_leaf] at hB2; cases hB2
      | exit _ =>
        simp only at hB2
        split at hB2
        · rw [Tr.is_leaf] at hB2; cases hB2
        · exact (Tr.is_no.1 hB2).elim
      | ret =>
        simp only at hB2
        split at hB2
        · rw [Tr.is_leaf] at hB2; cases hB2
        · exact (Tr.is_no.1 hB2).elim
    subst hx
    simp only at hB2
    split at hB2
    · rename_i q ht
      rw [Tr.is_leaf] at hB2
      cases hB2
      refine Runs.seq ((region_lit (opsA := ⟨ops.toList.take k⟩) (opsB := ⟨ops.toList.drop k⟩) hO (List.take_append_drop k ops.toList).symm hc (by simpa only [dstsIn] using hd.1) hmt hkt hr hmk htN hB1).mono ?_)
      rintro y f g ⟨rfl, hw⟩
      exact Runs.weaken hw (Runs.weaken (tell_weaker ht) H)
    · exact (Tr.is_no.1 hB2).elim
  · cases hc
def constOf : Code → Option Nat
  | .seq (.region _ ops false) _ => (match ops.toList with
    | [o] => (match o.op, o.dst, o.guard with
      | .assign (.const _), some t, none => some t
      | _, _, _ => none)
    | _ => none)
  | _ => none
theorem EndsIn.skipC (hc : constOf c = some t) (ht : Nat.blt t fn.ntmps = true) (hf : fr.get t = none) (H : EndsIn P fn n0 (tailC c) fr h fin h') : EndsIn P fn n0 c fr h fin h' := by
  have htN : t < fn.ntmps := by simpa [Nat.blt_eq] using ht
  unfold constOf at hc
  split at hc <;> try simp only [reduceCtorEq] at hc
  rename_i id ops rest
  split at hc <;> try simp only [reduceCtorEq] at hc
  rename_i o hl
  split at hc <;> simp only [Option.some.injEq, reduceCtorEq] at hc
  rename_i v t' e1 e2 e3
  subst hc
  refine Runs.seq (Runs.mono (R := fun x f g => x = .normal ∧ f = fr ∧ g = h) ?_ ?_)
  · intro Q dfs ρ I w a S K
    refine wp_region ?_
    have h0 : ops[0]? = some o := by rw [← Array.getElem?_toList, hl]; rfl
    have hsz : ops.size = 1 := by rw [← Array.length_toList, hl]; rfl
    have hw : ∀ y, Region.wanted o y = true := by intro y; unfold Region.wanted; rw [e3]
    rw [hsz]
    show wpOps P ops Q [0] a w
    simp only [wpOps, h0, hw, if_true]
    left
    have hrun : (execOp a.eval o).run P w = .ok (.value v) w := by simp [execOp, e1]; rfl
    unfold Oper.wp
    rw [hrun, Oper.upon_value, e2]
    refine K .normal fr h ρ I w _ .normal ⟨rfl, rfl, rfl⟩ rfl ⟨?_, ?_, ?_, S.rel⟩ .refl
    · rw [put_size]; exact S.size
    · rw [put_defers]; exact S.defers
    · have F2 := FRel.put (dst := some t') (v := .any) (v' := v) S.fr (.any _ _) (fun d hd => by cases hd; rw [S.size]; exact htN)
      intro i u hg
      refine F2 i u ?_
      show (if i = t' then some V.any else fr.get i) = some u
      rw [if_neg (fun e => by subst e; rw [hf] at hg; cases hg)]
      exact hg
  · rintro x f g ⟨rfl, rfl, rfl⟩
    exact H
end
end Go.Lh
end
section
namespace Go.Lh
def Loose (N n0 : Nat) (R : X → Fr → Heap → Prop) : Prop := ∀ x f k f2 k2, Weaker N n0 f k f2 k2 → R x f2 k2 → R x f k
theorem tellT_fst {n0 : Nat} {t : Tell} {z : X} {fr : Fr} {h : Heap} {r : X × Fr × Heap} (ht : (tellT n0 t z fr h).is r) : r.1 = z := by
  unfold tellT at ht
  split at ht
  · rw [Tr.is_leaf] at ht; rw [← ht]
  · exact (Tr.is_no.1 ht).elim
theorem EndW.weak {N n0 : Nat} {x : X} {fr' : Fr} {h' : Heap} {y : X} {f : Fr} {k : Heap} (h : EndW N n0 x fr' h' y f k) : y = x ∧ Weaker N n0 f k fr' h' := by
  obtain ⟨hy, hw⟩ := h
  refine ⟨hy, ?_⟩
  subst hy
  cases y with
  | pan v => obtain ⟨rfl, rfl⟩ := hw; exact .refl
  | normal => exact hw
  | exit i => exact hw
  | ret => exact hw
section
variable {P : Program} {T : OrcT} {L : LoopsT} {n0 : Nat} {fn : Func} {R : X → Fr → Heap → Prop} {fuel : Nat} {on off pn : Tell} {c : Code} {fr : Fr} {h : Heap} {sh : Tr.Sh} {t : Tr (X × Fr × Heap)}
end
def SeqR (P : Program) (N n0 : Nat) (rest : Code) (R : X → Fr → Heap → Prop) : X → Fr → Heap → Prop := thenX (fun fr h => Runs P N n0 rest fr h R) R
theorem Loose.seq {P : Program} {N n0 : Nat} {rest : Code} {R : X → Fr → Heap → Prop} (hR : Loose N n0 R) : Loose N n0 (SeqR P N n0 rest R) := by
  intro x f k f2 k2 hw h
  cases x with
  | normal => exact Runs.weaken hw h
  | exit i => exact hR _ _ _ _ _ hw h
  | ret => exact hR _ _ _ _ _ hw h
  | pan v => exact hR _ _ _ _ _ hw h
theorem Runs.seqT {P : Program} {N n0 : Nat} {a rest : Code} {fr : Fr} {h : Heap} {R : X → Fr → Heap → Prop} (H : Runs P N n0 a fr h (SeqR P N n0 rest R)) : Runs P N n0 (.seq a rest) fr h R := Runs.seq H
def BlkR (id : Nat) (R : X → Fr → Heap → Prop) : X → Fr → Heap → Prop := fun z f k =>
  ((z = .normal ∨ z = .exit id) ∧ R .normal f k) ∨ (z ≠ .normal ∧ z ≠ .exit id ∧ R z f k)
theorem Loose.blk {N n0 id : Nat} {R : X → Fr → Heap → Prop} (hR : Loose N n0 R) : Loose N n0 (BlkR id R) := by
  rintro x f k f2 k2 hw (⟨h1, h2⟩ | ⟨h1, h2, h3⟩)
  · exact .inl ⟨h1, hR _ _ _ _ _ hw h2⟩
  · exact .inr ⟨h1, h2, hR _ _ _ _ _ hw h3⟩
theorem Runs.blockT {P : Program} {N n0 id : Nat} {B : Code} {fr : Fr} {h : Heap} {R : X → Fr → Heap → Prop} (H : Runs P N n0 B fr h (BlkR id R)) : Runs P N n0 (.block id B) fr h R := by
  refine Runs.block (H.mono ?_)
  rintro x f k (⟨rfl | rfl, h2⟩ | ⟨h1, h2, h3⟩)
  · exact h2
  · simp only [inBlockX, if_true]; exact h2
  · cases x with
    | normal => exact absurd rfl h1
    | exit i =>
      simp only [inBlockX]
      rw [if_neg (fun e => h2 (by rw [e]))]
      exact h3
    | ret => exact h3
    | pan v => exact h3
def RndR {α : Type} (N n0 id : Nat) (S : α → Fr × Heap) (μ : α → Nat) (ok : α → Prop) (R : X → Fr → Heap → Prop) (a : α) : X → Fr → Heap → Prop := fun z f k =>
  (z = .normal ∧ ∃ a', ok a' ∧ μ a' < μ a ∧ Weaker N n0 f k (S a').1 (S a').2) ∨ (z = .exit id ∧ R .normal f k) ∨ (z ≠ .normal ∧ z ≠ .exit id ∧ R z f k)
theorem Loose.rnd {α : Type} {N n0 id : Nat} {S : α → Fr × Heap} {μ : α → Nat} {ok : α → Prop} {R : X → Fr → Heap → Prop} {a : α} (hR : Loose N n0 R) : Loose N n0 (RndR N n0 id S μ ok R a) := by
  rintro x f k f2 k2 hw (⟨h1, a', h2, h3, h4⟩ | ⟨h1, h2⟩ | ⟨h1, h2, h3⟩)
  · exact .inl ⟨h1, a', h2, h3, Weaker.trans hw h4⟩
  · exact .inr (.inl ⟨h1, hR _ _ _ _ _ hw h2⟩)
  · exact .inr (.inr ⟨h1, h2, hR _ _ _ _ _ hw h3⟩)
theorem Runs.loopT {α : Type} {P : Program} {N n0 id : Nat} {c : Code} {R : X → Fr → Heap → Prop} (S : α → Fr × Heap) (μ : α → Nat) (ok : α → Prop)
    (round : ∀ a, ok a → Runs P N n0 c (S a).1 (S a).2 (RndR N n0 id S μ ok R a)) {a0 : α} (h0 : ok a0) : Runs P N n0 (.block id (.loop c)) (S a0).1 (S a0).2 R := by
  refine Runs.block (Runs.loop (fun n fr h => ∃ a, ok a ∧ μ a = n ∧ fr = (S a).1 ∧ h = (S a).2) (n := μ a0) ⟨a0, h0, rfl, rfl, rfl⟩ ?_)
  rintro n fr h ⟨a, ha, rfl, rfl, rfl⟩
  refine (round a ha).mono ?_
  rintro z f k (⟨rfl, a', h2, h3, h4⟩ | ⟨rfl, h2⟩ | ⟨h1, h2, h3⟩)
  · exact ⟨μ a', (S a').1, (S a').2, h3, ⟨a', h2, rfl, rfl, rfl⟩, h4⟩
  · simp only [thenX, inBlockX, if_true]; exact h2
  · cases z with
    | normal => exact absurd rfl h1
    | exit i =>
      simp only [thenX, inBlockX]
      rw [if_neg (fun e => h2 (by rw [e]))]
      exact h3
    | ret => exact h3
    | pan v => exact h3
end Go.Lh
end
section
namespace Go.Lh
def cloX : X → Bool
  | .pan v => v.clo
  | _ => true
def preD (P : Program) (T : OrcT) (L : LoopsT) (fuel : Nat) (k : Nat) (fn : Func) (args : List V) (h : Heap) : Tr ((FuncId × List V) × Fr × Heap) := match fn.body with
  | some c => (match dropSeq k c with
    | .seq (.region _ ops false) rest => (match ops.toList with
      | [o1, o2] => if cutOk k c && dstsIn fn.ntmps c && dstsIn fn.ntmps (.region 0 ops false) && dstsIn fn.ntmps rest && Nat.ble args.length fn.ntmps && o1.guard.isNone && !(Op.makes P o1.op) then
          (match defOp o2 with
          | some s => (execBY P T L fuel (takeSeq k c) (argsFr 0 args) h).bind fun p => (match p with
            | (.normal, fr0, h0) => (stepOT P T 0 fr0.get h0 o1.op).bind fun q => (match q with
              | (.ret vf, h1) => (match asFn (opnd (putO o1.dst vf fr0).get s) with
                | some fa => .leaf (fa, putO o1.dst vf fr0, h1)
                | none => .no)
              | _ => .no)
            | _ => .no)
          | none => .no) else .no
      | _ => .no)
    | _ => .no)
  | none => .no
def DEnd (P : Program) (T : OrcT) (L : LoopsT) (fuel : Nat) (fn fnF : Func) (n0 n1 : Nat) (as : List V) (r : Fin × Heap) : X → Fr → Heap → Prop := fun z f k =>
  cloX z = true ∧ ∃ f2 k2, Weaker fn.ntmps n1 f k f2 k2 ∧ (endD P T L fuel fn fnF n0 as (z, f2, k2)).is r
section
variable {P : Program} {T : OrcT} {L : LoopsT} {fuel : Nat}
theorem fnDH (hO : OrcSound P T.o) (hm : P.follows .mixedOrders = true) {k : Nat} {f : FuncId} {fn fnF : Func} {args : List V} {h : Heap} {r : Fin × Heap} {F : FuncId} {as : List V} {fr1 : Fr} {h1 : Heap} {sh : Tr.Sh} (hf : P.funcs[f]? = some fn) (hF : P.funcs[F]? = some fnF) (hnm : (fnF.name == "runtime.NumGoroutine") = false)
    (hL : ∀ n0, LoopsOk P fn n0 L.o) (hLF : ∀ (F : FuncId) (fnF : Func) (n0 : Nat), P.funcs[F]? = some fnF → LoopsOk P fnF n0 L.o)
    (hx : Tr.prune sh (preD P T L fuel k fn args h) = .chk true (.leaf ((F, as), fr1, h1))) (hb : fnF.body.isSome = true)
    (H : Runs P fn.ntmps h1.length (dropSeq (k + 1) (bodyOf fn)) fr1 h1 (DEnd P T L fuel fn fnF h.length h1.length as r)) : LFn P f args h r.1 r.2 := by
  have hx : (preD P T L fuel k fn args h).is ((F, as), fr1, h1) := Tr.prune_is (by rw [hx]; exact Tr.is_chk.2 ⟨rfl, Tr.is_leaf.2 rfl⟩)
  unfold preD at hx
  split at hx
  · rename_i c hbd
    have hbo : bodyOf fn = c := by rw [bodyOf, hbd]; rfl
    rw [hbo] at H
    split at hx
    · rename_i bid ops rest hdrop
      have hdrop2 : dropSeq (k + 1) c = rest := by
        have : ∀ (k : Nat) (c u v : Code), dropSeq k c = .seq u v → dropSeq (k + 1) c = v := by
          intro k
          induction k with
          | zero => intro c u v e; cases c <;> first | (simp only [dropSeq, reduceCtorEq] at e; done) | (simp only [dropSeq] at e ⊢; subst e; rfl)
          | succ k ih => intro c u v e; cases c <;> first | (simp only [dropSeq, reduceCtorEq] at e; done) | (rw [dropSeq] at e ⊢; exact ih _ _ _ e)
        exact this k c _ _ hdrop
      rw [hdrop2] at H
      split at hx
      · rename_i o1 o2 hops
        split at hx
        · rename_i hc
          simp only [Bool.and_eq_true, Bool.not_eq_true'] at hc
          obtain ⟨⟨⟨⟨⟨⟨hcut, hdc⟩, hd1⟩, hd2⟩, hn⟩, hg1⟩, hmk⟩ := hc
          have hn := Nat.le_of_ble_eq_true hn
          split at hx
          · rename_i s hs
            rw [Tr.is_bind] at hx
            obtain ⟨⟨x0, fr0, h0⟩, hx0, hx⟩ := hx
            intro ρ I w args' R ha
            have hal : args'.length = args.length := ha.length.symm
            refine calls_of_wp_defers hf hbd ?_
            refine wp_cut (N := fn.ntmps) (n0 := h.length) hO hm hcut (fun d hd => hL _ _ hbd d hd) hdc hx0 _ [] ρ I w _ ⟨by simp; omega, rfl, frel_args ha fn.ntmps, R.weaken (fun _ h => h.elim)⟩ ?_
            intro ρ1 I0 w0 a0 e0 er s1 W1
            cases x0 with
            | pan _ => exact (Tr.is_no.1 hx).elim
            | exit _ => exact (Tr.is_no.1 hx).elim
            | ret => exact (Tr.is_no.1 hx).elim
            | normal =>
            refine ⟨fun _ => ?_, fun e => absurd rfl e⟩
            simp only at hx
            rw [Tr.is_bind] at hx
            obtain ⟨⟨fin1, h1'⟩, hst, hx⟩ := hx
            have hst := stepOT_is hst
            cases fin1 with
            | pan _ => exact (Tr.is_no.1 hx).elim
            | ret vf =>
            simp only at hx hst
            split at hx
            · rename_i fa has
              rw [Tr.is_leaf] at hx
              simp only [Prod.mk.injEq] at hx
              obtain ⟨hfa', rfl, rfl⟩ := hx
              subst hfa'
              -- the closure
              obtain ⟨first, cap, hfn, hasE⟩ : ∃ first cap, opnd (putO o1.dst vf fr0).get s = some (.fn F first cap) ∧ as = first ++ cap := by
                unfold asFn at has
                split at has
                · rename_i f1 a b e; cases has; exact ⟨a, b, e, rfl⟩
                · cases has
              have hEnF : Enters P F := ⟨fnF, hF, by cases hbb : fnF.body with | none => rw [hbb] at hb; cases hb | some _ => rfl, hnm⟩
              rw [hdrop]
              refine wp_seq (wp_region ?_)
              have e1 : ops[0]? = some o1 := by rw [← Array.getElem?_toList, hops]; rfl
              have e2 : ops[1]? = some o2 := by rw [← Array.getElem?_toList, hops]; rfl
              have hsz : ops.size = 2 := by have := congrArg List.length hops; simpa using this
              have hg1 : o1.guard = none := by simpa using hg1
              have hin : ∀ d, o1.dst = some d → d < fn.ntmps := fun d hd => dstIn_iff (List.all_eq_true.1 hd1 o1 (by rw [hops]; simp)) d hd
              rw [hsz]
              show wpOps P ops _ [0, 1] a0 w0
              simp only [wpOps, e1, e2]
              rw [if_pos (by unfold Region.wanted; rw [hg1])]
              left
              rw [stepO_idx (j := h0.length) hmk] at hst
              refine stepO_wp (F := fun _ => False) hO s1.rel s1.fr (fun e => by rw [hmk] at e; cases e) hst _ _ ?_ (fun _ e => by cases e)
              intro v e w2 ρ2 I2 vf' hvf hR2 W2
              cases e
              have s2 : Sim fn.ntmps [] ρ2 I2 w2 (a0.put o1.dst vf') (putO o1.dst vf fr0).get h1' (fun _ => False) := by
                refine ⟨by rw [put_size]; exact s1.size, by rw [put_defers]; exact s1.defers, ?_, hR2.weaken (fun i hi => hi.elim)⟩
                rw [get_putO]
                exact (s1.fr.le (W2.le s1.rel)).put hvf (fun d hd => by rw [s1.size]; exact hin d hd)
              have hov := opnd_sound s2.fr hfn
              obtain ⟨first', cap', hov', hfa, hca⟩ : ∃ first' cap', (a0.put o1.dst vf').eval s = .func (.func F) ⟨first'⟩ ⟨cap'⟩ ∧ VsRel I2 w2 ρ2 first first' ∧ VsRel I2 w2 ρ2 cap cap' := by
                cases hv : (a0.put o1.dst vf').eval s <;> rw [hv] at hov <;> cases hov
                exact ⟨_, _, rfl, ‹_›, ‹_›⟩
              obtain ⟨hrun, hg2, hdn⟩ := defOp_run (P := P) hs hov' w2
              rw [if_pos (by unfold Region.wanted; rw [hg2])]
              left
              unfold Oper.wp
              rw [hrun, Oper.upon_defer, hdn]
              show Code.wp P rest _ { (a0.put o1.dst vf') with defers := _ :: (a0.put o1.dst vf').defers } w2
              rw [s2.defers]
              refine H _ [{ target := .fn (.func F) ⟨cap'⟩, args := ⟨first'⟩ }] ρ2 I2 w2 _ ⟨s2.size, rfl, s2.fr, s2.rel⟩ ?_
              rintro y f3 k3 ρ3 I3 w3 a3 e3 ⟨hcl, fr2, h2, hwk3, hend⟩ er3 s3 W3
              obtain ⟨pv, h5, hpv, hdef, hret⟩ := endD_end hend
              obtain ⟨vR, hvR, hcm⟩ := retT_is hret
              have hFinW : FinW h.length (.ret vR) h5 r.1 r.2 := tellFin_sound hcm
              -- the state at the end of the body
              obtain ⟨ρ4, s4, W4', er4⟩ : ∃ ρ4, Sim fn.ntmps [{ target := .fn (.func F) ⟨cap'⟩, args := ⟨first'⟩ }] ρ4 I3 w3 a3 fr2.get h2 (fun _ => False) ∧ Went ρ2 I2 w2 h1' ρ4 I3 w3 h2 ∧ ERel I3 w3 ρ4 y e3 := by
                obtain ⟨ρ4, a, b⟩ := hwk3 _ ρ3 I3 w3 a3 s3
                refine ⟨ρ4, a, (W3.trans b).full s2.rel (Nat.le_refl _), ?_⟩
                cases y with
                | pan v =>
                  obtain ⟨v', hv, e⟩ := er3
                  exact ⟨v', hv.clo hcl, e⟩
                | normal => exact er3
                | ret => exact er3
                | exit _ => exact er3
              -- the deferred call
              have Lx := W4'.le s2.rel
              have hargs : VsRel I3 w3 ρ4 as (first' ++ cap') := by rw [hasE]; exact VsRel.append (hca.le Lx) (hfa.le Lx)
              have leaves : ∀ u, UIs I3 w3 ρ4 pv u → Leaves P fn a3.tmps (fun e w' => ∃ ρ' I', Rel ρ' I' w' r.2 (fun i => r.2.length ≤ i) ∧ Went ρ I w h ρ' I' w' r.2 ∧ FinRel I' w' ρ' r.1 e) a3.defers u w3 := by
                intro u hu
                rw [s4.defers]
                have hi : (invoke (.fn (.func F) ⟨cap'⟩) ⟨first'⟩).run P w3 = .ok (.enter F ⟨first' ++ cap'⟩) w3 := by
                  have : invoke (.fn (.func F) ⟨cap'⟩) ⟨first'⟩ = callFunc F ⟨first' ++ cap'⟩ := by simp [invoke]
                  rw [this, callFunc_enter hEnF]
                refine leaves_cons ?_ hi ?_
                · cases pv with
                  | none => rw [show u = .returning from hu]; exact fun e => by cases e
                  | some v => obtain ⟨v', _, rfl⟩ := hu; exact fun e => by cases e
                · refine (defT_calls hO hm hF (hLF F fnF _ hF) hdef s4.rel hargs hu).mono ?_
                  rintro e u' w' ⟨⟨rv, rfl⟩, hset, ρ5, I5, R5, W5⟩
                  simp only
                  rw [hset]
                  obtain ⟨v', hv1, hv2⟩ := resV_sound (P := P) R5 (s4.fr.le (W5.le s4.rel)) hvR
                  refine ⟨v', hv1, ?_⟩
                  obtain ⟨ρ6, r6, w6, f6⟩ := hFinW ρ5 I5 w' R5
                  have WW := (((W1.trans W2.toN).trans W4'.toN).trans W5.toN).trans w6
                  exact ⟨ρ6, I5, r6, WW.full R (Nat.le_refl _), f6 _ ⟨v', rfl, hv2⟩⟩
              rcases hpv with ⟨h0 | h0, hp⟩ | ⟨v, h0, hp⟩
              · subst h0; subst hp; cases er4; exact leaves _ rfl
              · subst h0; subst hp; cases er4; exact leaves _ rfl
              · subst h0; subst hp
                obtain ⟨v', hv, rfl⟩ := er4
                exact leaves _ ⟨v', hv, rfl⟩
            · exact (Tr.is_no.1 hx).elim
          · exact (Tr.is_no.1 hx).elim
        · exact (Tr.is_no.1 hx).elim
      · exact (Tr.is_no.1 hx).elim
    · exact (Tr.is_no.1 hx).elim
  · exact (Tr.is_no.1 hx).elim
end
end Go.Lh
end
section
namespace Go.Lh
def panQ (pid : Nat) : V := .iface pid (.agg [])
def readQ (pid n : Nat) : Tr (Fin × Heap) → Option (Bool × Bool × V)
  | .leaf (.ret v, h') => if Nat.beq h'.length n then some (true, true, v) else none
  | .chk k t => (match readQ pid n t with | some (s, c, v) => some (k && s, c, v) | none => none)
  | .br c t (.leaf (.pan (.iface i (.agg [])), h')) => if Nat.beq i pid && Nat.beq h'.length n then (match readQ pid n t with | some (s, c2, v) => some (s, c && c2, v) | none => none) else none
  | _ => none
theorem readQ_is {pid n : Nat} : ∀ {t : Tr (Fin × Heap)} {s c : Bool} {v : V}, readQ pid n t = some (s, c, v) → s = true →
    (c = true → ∃ h', t.is (.ret v, h') ∧ h'.length = n) ∧ (c = false → ∃ h', t.is (.pan (panQ pid), h') ∧ h'.length = n) := by
  intro t
  induction t with
  | no => intro s c v h; simp [readQ] at h
  | leaf p =>
    intro s c v h hs
    obtain ⟨fin, h'⟩ := p
    cases fin with
    | pan _ => simp [readQ] at h
    | ret u =>
      simp only [readQ] at h
      split at h <;> simp only [Option.some.injEq, Prod.mk.injEq, reduceCtorEq] at h
      rename_i hl
      obtain ⟨rfl, rfl, rfl⟩ := h
      exact ⟨fun _ => ⟨h', Tr.is_leaf.2 rfl, Nat.eq_of_beq_eq_true hl⟩, fun e => by cases e⟩
  | chk k t ih =>
    intro s c v h hs
    simp only [readQ] at h
    split at h <;> simp only [Option.some.injEq, Prod.mk.injEq, reduceCtorEq] at h
    rename_i s1 c1 v1 e
    obtain ⟨rfl, rfl, rfl⟩ := h
    rw [Bool.and_eq_true] at hs
    obtain ⟨a, b⟩ := ih e hs.2
    exact ⟨fun h0 => by obtain ⟨h', x, y⟩ := a h0; exact ⟨h', Tr.is_chk.2 ⟨hs.1, x⟩, y⟩, fun h0 => by obtain ⟨h', x, y⟩ := b h0; exact ⟨h', Tr.is_chk.2 ⟨hs.1, x⟩, y⟩⟩
  | br b t u ih ihu =>
    intro s c v h hs
    unfold readQ at h
    split at h
    · rename_i e; cases e
    · rename_i e; cases e
    · rename_i c0 t0 i h' e
      cases e
      split at h
      · rename_i hc
        rw [Bool.and_eq_true] at hc
        have hi := Nat.eq_of_beq_eq_true hc.1
        have hl := Nat.eq_of_beq_eq_true hc.2
        subst hi
        split at h <;> simp only [Option.some.injEq, Prod.mk.injEq, reduceCtorEq] at h
        rename_i s1 c1 v1 e
        obtain ⟨rfl, rfl, rfl⟩ := h
        obtain ⟨x, y⟩ := ih e hs
        cases b with
        | false =>
          refine ⟨fun h0 => by simp at h0, fun _ => ⟨h', Tr.is_br.2 ?_, hl⟩⟩
          rw [if_neg (by decide)]
          exact Tr.is_leaf.2 rfl
        | true =>
          refine ⟨fun h0 => ?_, fun h0 => ?_⟩
          · obtain ⟨g, a1, a2⟩ := x (by simpa using h0)
            exact ⟨g, Tr.is_br.2 (by rw [if_pos rfl]; exact a1), a2⟩
          · obtain ⟨g, a1, a2⟩ := y (by simpa using h0)
            exact ⟨g, Tr.is_br.2 (by rw [if_pos rfl]; exact a1), a2⟩
      · cases h
    · cases h
theorem quiet_heap {P : Program} {O : Orc} {idx : Nat} {g : Fm} {h h' : Heap} {op : Op} {k : Bool} {fin : Fin} {R : List Nat} {c : Bool} (hs : stepO P O idx g h op = some (k, fin, h')) (ht : touchO P O idx g h op = some (R, [], c)) (hl : h'.length = h.length) : h' = h := by
  obtain ⟨U, N, u1, u2, u3⟩ := stepO_loc hs ht
  have e := (u3 h (fun _ _ => rfl) (fun _ => rfl)).1
  rw [hs] at e
  simp only [Option.some.injEq, Prod.mk.injEq, true_and] at e
  have hU : U = [] := by
    cases U with
    | nil => rfl
    | cons p r => have := u1 p (by simp); cases this
  subst hU
  simp only [appU] at e
  have hN : N = [] := by
    rw [e, List.length_append] at hl
    exact List.eq_nil_of_length_eq_zero (by omega)
  rw [e, hN, List.append_nil]
def runQ (P : Program) (T : OrcT) (pid : Nat) (h : Heap) : List Oper → Fr → Option (Bool × List (Bool × V) × Fr)
  | [], fr => some (true, [], fr)
  | o :: r, fr => (match touchO P T.o 0 fr.get h o.op with
    | some (_, [], _) => (match readQ pid h.length (stepOT P T 0 fr.get h o.op) with
      | some (s, c, v) => (match runQ P T pid h r (putO o.dst v fr) with
        | some (s2, l, fr') => some (s && s2, (c, v) :: l, fr')
        | none => none)
      | none => none)
    | _ => none)
def andQ : List (Bool × V) → Bool
  | [] => true
  | (c, _) :: r => c && andQ r
theorem andQ_iff : ∀ {l : List (Bool × V)}, andQ l = true ↔ ∀ (i : Nat) (c : Bool) (v : V), l[i]? = some (c, v) → c = true
  | [] => by simp [andQ]
  | (c, v) :: r => by
    rw [andQ, Bool.and_eq_true, andQ_iff (l := r)]
    constructor
    · rintro ⟨h1, h2⟩ i c2 v2 hi
      cases i with
      | zero => simp at hi; rw [← hi.1]; exact h1
      | succ i => exact h2 i c2 v2 (by simpa using hi)
    · intro h
      exact ⟨h 0 c v rfl, fun i c2 v2 hi => h (i + 1) c2 v2 (by simpa using hi)⟩
theorem runQ_at {P : Program} {T : OrcT} {pid : Nat} {h : Heap} : ∀ {l : List Oper} {fr fr' : Fr} {s : Bool} {vs : List (Bool × V)}, runQ P T pid h l fr = some (s, vs, fr') → s = true →
    vs.length = l.length ∧ (∀ (i : Nat) (o : Oper), l[i]? = some o → ∃ (FI : Fr) (c : Bool) (v : V) (R : List Nat) (tc : Bool), vs[i]? = some (c, v) ∧ touchO P T.o 0 FI.get h o.op = some (R, [], tc) ∧ readQ pid h.length (stepOT P T 0 FI.get h o.op) = some (true, c, v) ∧
      (∀ t, (∀ (k : Nat) (ok : Oper), k < i → l[k]? = some ok → ok.dst ≠ some t) → FI.get t = fr.get t) ∧
      (∀ (k : Nat) (ok : Oper) (d : Nat) (ck : Bool) (vk : V), k < i → l[k]? = some ok → ok.dst = some d → vs[k]? = some (ck, vk) → (∀ (j : Nat) (oj : Oper), k < j → l[j]? = some oj → oj.dst ≠ some d) → FI.get d = some vk)) ∧
    (∀ t, (∀ (k : Nat) (ok : Oper), l[k]? = some ok → ok.dst ≠ some t) → fr'.get t = fr.get t) ∧
    (∀ (k : Nat) (ok : Oper) (d : Nat) (ck : Bool) (vk : V), l[k]? = some ok → ok.dst = some d → vs[k]? = some (ck, vk) → (∀ (j : Nat) (oj : Oper), k < j → l[j]? = some oj → oj.dst ≠ some d) → fr'.get d = some vk)
  | [], fr, fr', s, vs, hr, hs => by
    simp only [runQ, Option.some.injEq, Prod.mk.injEq] at hr
    obtain ⟨_, rfl, rfl⟩ := hr
    exact ⟨rfl, fun i o h0 => (by simp at h0), fun _ _ => rfl, fun k ok d ck vk h0 => (by simp at h0)⟩
  | o :: r, fr, fr', s, vs, hr, hs => by
    rw [runQ] at hr
    split at hr <;> try simp only [reduceCtorEq] at hr
    rename_i R tc htc
    split at hr <;> try simp only [reduceCtorEq] at hr
    rename_i s1 c v hq
    split at hr <;> simp only [Option.some.injEq, Prod.mk.injEq, reduceCtorEq] at hr
    rename_i s2 l2 f2 hrr
    obtain ⟨rfl, rfl, rfl⟩ := hr
    rw [Bool.and_eq_true] at hs
    obtain ⟨h1, h2, h3, h4⟩ := runQ_at hrr hs.2
    have hput : ∀ t, o.dst ≠ some t → (putO o.dst v fr).get t = fr.get t := by
      intro t ht
      cases hd : o.dst with
      | none => rfl
      | some d =>
        rw [get_putO]
        simp only [Fm.put]
        rw [if_neg (fun e => ht (by rw [hd, e]))]
    have hputd : ∀ d, o.dst = some d → (putO o.dst v fr).get d = some v := by
      intro d hd
      rw [hd, get_putO]
      simp only [Fm.put, if_true]
    refine ⟨by simp [h1], ?_, ?_, ?_⟩
    · intro i oi hi
      cases i with
      | zero =>
        simp only [List.getElem?_cons_zero, Option.some.injEq] at hi
        subst hi
        rw [hs.1] at hq
        exact ⟨fr, c, v, R, tc, rfl, htc, hq, fun _ _ => rfl, fun k ok d ck vk h0 => absurd h0 (Nat.not_lt_zero _)⟩
      | succ i =>
        obtain ⟨FI, c', v', R', tc', a1, a2, a3, a4, a5⟩ := h2 i oi (by simpa using hi)
        refine ⟨FI, c', v', R', tc', by simpa using a1, a2, a3, ?_, ?_⟩
        · intro t ht
          rw [a4 t (fun k ok hk hok => ht (k + 1) ok (by omega) (by simpa using hok))]
          exact hput t (ht 0 o (by omega) rfl)
        · intro k ok d ck vk hk hok hd hvk hlast
          cases k with
          | zero =>
            simp only [List.getElem?_cons_zero, Option.some.injEq, Prod.mk.injEq] at hok hvk
            subst hok
            obtain ⟨rfl, rfl⟩ := hvk
            rw [a4 d (fun k ok hk hok => hlast (k + 1) ok (by omega) (by simpa using hok))]
            exact hputd d hd
          | succ k =>
            exact a5 k ok d ck vk (by omega) (by simpa using hok) hd (by simpa using hvk) (fun j oj hj hoj => hlast (j + 1) oj (by omega) (by simpa using hoj))
    · intro t ht
      rw [h3 t (fun k ok hok => ht (k + 1) ok (by simpa using hok))]
      exact hput t (ht 0 o rfl)
    · intro k ok d ck vk hok hd hvk hlast
      cases k with
      | zero =>
        simp only [List.getElem?_cons_zero, Option.some.injEq, Prod.mk.injEq] at hok hvk
        subst hok
        obtain ⟨rfl, rfl⟩ := hvk
        rw [h3 d (fun k ok hok => hlast (k + 1) ok (by omega) (by simpa using hok))]
        exact hputd d hd
      | succ k =>
        exact h4 k ok d ck vk (by simpa using hok) hd (by simpa using hvk) (fun j oj hj hoj => hlast (j + 1) oj (by omega) (by simpa using hoj))
def tmpsL (op : Op) : List Nat := op.operands.toList.filterMap fun x => match x with | .tmp t => some t | _ => none
theorem tmpsL_iff {op : Op} {t : Nat} (h : tmpsOf op t) : t ∈ tmpsL op := List.mem_filterMap.2 ⟨.tmp t, h, rfl⟩
def hasDst (o : Oper) (t : Nat) : Bool := match o.dst with | some d => Nat.beq d t | none => false
theorem hasDst_iff {o : Oper} {t : Nat} : hasDst o t = true ↔ o.dst = some t := by
  unfold hasDst
  cases o.dst with
  | none => simp
  | some d => simp
def depOk (ops : List Oper) : Nat → List Oper → Bool
  | _, [] => true
  | i, o :: r => ((tmpsL o.op).all fun t => (List.range ops.length).all fun k => (match ops[k]? with | some ok => !hasDst ok t || edgeTo ops k i | none => true)) && depOk ops (i + 1) r
theorem depOk_get {ops : List Oper} : ∀ {l : List Oper} {i : Nat}, depOk ops i l = true → ∀ (j : Nat) (o : Oper), l[j]? = some o → ∀ t, t ∈ tmpsL o.op → ∀ (k : Nat) (ok : Oper), ops[k]? = some ok → ok.dst = some t → edgeTo ops k (i + j) = true
  | [], _, _, j, o, h => by simp at h
  | o :: r, i, h, j, oj, hj => by
    rw [depOk, Bool.and_eq_true] at h
    cases j with
    | zero =>
      simp only [List.getElem?_cons_zero, Option.some.injEq] at hj
      subst hj
      intro t ht k ok hk hd
      have h1 := List.all_eq_true.1 h.1 t ht
      have h2 := List.all_eq_true.1 h1 k (List.mem_range.2 (List.getElem?_eq_some_iff.1 hk).1)
      rw [hk] at h2
      simp only [Bool.or_eq_true, Bool.not_eq_true'] at h2
      rcases h2 with h2 | h2
      · rw [hasDst_iff.2 hd] at h2; cases h2
      · exact h2
    | succ j =>
      have := depOk_get h.2 j oj (by simpa using hj)
      intro t ht k ok hk hd
      have := this t ht k ok hk hd
      rwa [show i + 1 + j = i + (j + 1) by omega] at this
def chkQ (P : Program) (ops : List Oper) : Bool :=
  ops.all (fun o => o.guard.isNone && !(Op.makes P o.op)) && backEdges 0 ops && depOk ops 0 ops && nodupN (ops.filterMap (·.dst)) && Nat.blt 0 ops.length &&
  (List.range ops.length).all fun j => memN j (ancL ops (ops.length - 1) [ops.length - 1])
def regQT (P : Program) (T : OrcT) (pid : Nat) (ops : Array Oper) (fr : Fr) (h : Heap) : Tr (X × Fr × Heap) :=
  if chkQ P ops.toList then (match runQ P T pid h ops.toList.dropLast fr, ops.toList.getLast? with
    | some (s, l, fr'), some o => .chk s (.br (andQ l) ((stepOT P T 0 fr'.get h o.op).bind fun p => match p with
        | (.ret v, h') => .leaf (.normal, putO o.dst v fr', h')
        | _ => .no) (.leaf (.pan (panQ pid), dropD ops.toList fr, h)))
    | _, _ => .no) else .no
theorem edgeTo_iff {ops : List Oper} {i j : Nat} (h : edgeTo ops i j = true) : ∃ o e, ops[j]? = some o ∧ e ∈ o.after ∧ e.on = i ∧ Region.binds .any e = true := by
  unfold edgeTo at h
  split at h
  · rename_i o ho
    obtain ⟨e, he, hb⟩ := List.any_eq_true.1 h
    rw [Bool.and_eq_true] at hb
    exact ⟨o, e, ho, Array.mem_toList_iff.1 he, Nat.eq_of_beq_eq_true hb.1, hb.2⟩
  · cases h
theorem nodup_dst {ops : List Oper} (h : (ops.filterMap (·.dst)).Nodup) : ∀ {i j : Nat} {oi oj : Oper} {d : Nat}, ops[i]? = some oi → ops[j]? = some oj → oi.dst = some d → oj.dst = some d → i = j := by
  induction ops with
  | nil => intro i j oi oj d hi; simp at hi
  | cons o r ih =>
    intro i j oi oj d hi hj di dj
    have hr : (r.filterMap (·.dst)).Nodup := by
      rw [List.filterMap_cons] at h
      split at h
      · exact h
      · exact (List.nodup_cons.1 h).2
    have no : ∀ (k : Nat) ok, r[k]? = some ok → ok.dst = some d → o.dst = some d → False := by
      intro k ok hk hd ho
      rw [List.filterMap_cons, ho] at h
      exact (List.nodup_cons.1 h).1 (List.mem_filterMap.2 ⟨ok, List.mem_of_getElem? hk, hd⟩)
    cases i with
    | zero =>
      cases j with
      | zero => rfl
      | succ j =>
        simp only [List.getElem?_cons_zero, Option.some.injEq] at hi
        subst hi
        exact (no j oj (by simpa using hj) dj di).elim
    | succ i =>
      cases j with
      | zero =>
        simp only [List.getElem?_cons_zero, Option.some.injEq] at hj
        subst hj
        exact (no i oi (by simpa using hi) di dj).elim
      | succ j =>
        exact congrArg (· + 1) (ih hr (by simpa using hi) (by simpa using hj) di dj)
theorem filter_set : ∀ (l : List Bool) (i : Nat), l[i]? = some false → (l.filter id).length + 1 = ((l.set i true).filter id).length
  | [], i, h => by simp at h
  | b :: l, 0, h => by simp only [List.getElem?_cons_zero, Option.some.injEq] at h; subst h; rfl
  | true :: l, i + 1, h => by
    have := filter_set l i (by simpa using h)
    show (l.filter id).length + 1 + 1 = ((l.set i true).filter id).length + 1
    rw [this]
  | false :: l, i + 1, h => filter_set l i (by simpa using h)
section
variable {P : Program} {T : OrcT} {N n0 : Nat} {ops : Array Oper} {dfs : List Deferred}
theorem wpAny_quiet (hO : OrcSound P T.o) {pid : Nat} {h : Heap} {fr frL : Fr} {vs : List (Bool × V)} {oL : Oper} (Q : Exit → Act → World → Prop)
    (hck : chkQ P ops.toList = true) (hrun : runQ P T pid h ops.toList.dropLast fr = some (true, vs, frL)) (hL : ops.toList.getLast? = some oL)
    (hin : ∀ d, d ∈ ops.toList.filterMap (·.dst) → d < N) :
    ∀ (fuel : Nat) (listed : Array Bool) (g : Fm) (ρ : Ren) (I : Nat → Prop) (w : World) (a : Act), listed.size = ops.size → ops.size ≤ fuel + (listed.toList.filter id).length →
      Sim N dfs ρ I w a g h (fun _ => False) → Down ops listed → listed.getD (ops.size - 1) true = false →
      (∀ (j : Nat) (c : Bool) (v : V), listed.getD j false = true → vs[j]? = some (c, v) → c = true) →
      (∀ (j : Nat) (o : Oper) (d : Nat) (c : Bool) (v : V), listed.getD j false = true → ops[j]? = some o → o.dst = some d → vs[j]? = some (c, v) → g d = some v) →
      (∀ t, (∀ (j : Nat) (o : Oper), ops[j]? = some o → o.dst ≠ some t) → g t = fr.get t) →
      (∀ ρ' I' w' a' h', andQ vs = true → ∀ v, (stepOT P T 0 frL.get h oL.op).is (.ret v, h') → Sim N dfs ρ' I' w' a' (putO oL.dst v frL).get h' (fun _ => False) → Went ρ I w h ρ' I' w' h' → Q .normal a' w') →
      (andQ vs = true → ∃ v h', (stepOT P T 0 frL.get h oL.op).is (.ret v, h')) →
      (∀ ρ' I' w' a' v', andQ vs = false → VRel I' w' ρ' (panQ pid) v' → Sim N dfs ρ' I' w' a' (dropD ops.toList fr).get h (fun _ => False) → Went ρ I w h ρ' I' w' h → Q (.panic [{ v := v', recovered := false }]) a' w') →
      wpAny P .any ops Q fuel listed a w := by
  simp only [chkQ, Bool.and_eq_true] at hck
  obtain ⟨⟨⟨⟨⟨k1, k2⟩, k3⟩, k4⟩, k5⟩, k6⟩ := hck
  have hpos : 0 < ops.size := by simpa using k5
  have hnd := nodupN_iff k4
  obtain ⟨q1, q2, q3, q4⟩ := runQ_at hrun rfl
  have hlen : ops.toList.dropLast.length = ops.size - 1 := by simp
  have hlast : ops[ops.size - 1]? = some oL := by
    rw [← Array.getElem?_toList]
    rw [List.getLast?_eq_getElem?] at hL
    simpa using hL
  have hsame : ∀ i, i < ops.size - 1 → ops.toList.dropLast[i]? = ops[i]? := by
    intro i hi
    rw [List.getElem?_dropLast, if_pos (by simpa using hi), Array.getElem?_toList]
  have plain : ∀ (i : Nat) (o : Oper), ops[i]? = some o → o.guard = none ∧ Op.makes P o.op = false := by
    intro i o ho
    have := List.all_eq_true.1 k1 o (Array.mem_toList_iff.2 (Array.mem_of_getElem? ho))
    rw [Bool.and_eq_true] at this
    exact ⟨by simpa using this.1, by simpa using this.2⟩
  have uniq : ∀ {i j : Nat} {oi oj : Oper} {d : Nat}, ops[i]? = some oi → ops[j]? = some oj → oi.dst = some d → oj.dst = some d → i = j := by
    intro i j oi oj d hi hj
    exact nodup_dst hnd (by rw [Array.getElem?_toList]; exact hi) (by rw [Array.getElem?_toList]; exact hj)
  have back : ∀ (l : List Oper) (m i : Nat) (o : Oper), backEdges m l = true → l[i]? = some o → ∀ e ∈ o.after, Region.binds .any e = true → e.on < m + i := by
    intro l
    induction l with
    | nil => intro m i o _ h; simp at h
    | cons x r ih2 =>
      intro m i o hb h e he hbd
      simp only [backEdges, Bool.and_eq_true, List.all_eq_true, Bool.or_eq_true, Bool.not_eq_true'] at hb
      cases i with
      | zero =>
        simp only [List.getElem?_cons_zero, Option.some.injEq] at h
        subst h
        rcases hb.1 e (Array.mem_toList_iff.2 he) with h0 | h0
        · rw [hbd] at h0; cases h0
        · simpa using h0
      | succ i =>
        have := ih2 (m + 1) i o hb.2 (by simpa using h) e he hbd
        omega
  intro fuel
  induction fuel with
  | zero =>
    intro listed g ρ I w a hsz hfu S hdn hun _ _ _ _ _ _
    exfalso
    -- all would be listed
    have hle : (listed.toList.filter id).length ≤ listed.toList.length := List.length_filter_le _ _
    have hl : listed.toList.length = ops.size := by simpa using hsz
    have hall : ∀ x ∈ listed.toList, id x = true := List.length_filter_eq_length_iff.1 (by omega)
    have hlt : ops.size - 1 < listed.size := by omega
    have := hall listed[ops.size - 1] (by simp)
    simp only [Array.getD, hlt, dif_pos] at hun
    rw [show id listed[ops.size - 1] = listed[ops.size - 1] from rfl] at this
    have h9 : listed[ops.size - 1] = false := hun
    rw [h9] at this; cases this
  | succ fuel ih =>
    intro listed g ρ I w a hsz hfu S hdn hun hc hv hg hq hqe hp
    refine ⟨fun e => (ready_some k2 hsz (by omega) hun e).elim, fun i hi => ?_⟩
    obtain ⟨hunI, o, ho, hall⟩ := mem_ready.1 hi
    have hilt : i < ops.size := (Array.getElem?_eq_some_iff.1 ho).1
    obtain ⟨hgd, hmk⟩ := plain i o ho
    have hdst : ∀ d, o.dst = some d → d < N := fun d hd => hin d (List.mem_filterMap.2 ⟨o, Array.mem_toList_iff.2 (Array.mem_of_getElem? ho), hd⟩)
    -- what it looks at
    have look : ∀ (FI : Fr), (∀ t, (∀ (k : Nat) (ok : Oper), k < i → ops[k]? = some ok → ok.dst ≠ some t) → FI.get t = fr.get t) →
        (∀ (k : Nat) (ok : Oper) (d : Nat) (ck : Bool) (vk : V), k < i → ops[k]? = some ok → ok.dst = some d → vs[k]? = some (ck, vk) → FI.get d = some vk) → i ≤ ops.size - 1 → ∀ t, tmpsOf o.op t → FI.get t = g t := by
      intro FI f1 f2 hi1 t ht
      by_cases hx : ∃ (k : Nat) (ok : Oper), ops[k]? = some ok ∧ ok.dst = some t
      · obtain ⟨k, ok, hk, hd⟩ := hx
        have he := depOk_get k3 i o (by rw [Array.getElem?_toList]; exact ho) t (tmpsL_iff ht) k ok (by rw [Array.getElem?_toList]; exact hk) hd
        rw [Nat.zero_add] at he
        obtain ⟨o2, e, ho2, he1, he2, he3⟩ := edgeTo_iff he
        rw [Array.getElem?_toList, ho] at ho2
        cases ho2
        have hki : k < i := by
          have := back ops.toList 0 i o k2 (by rw [Array.getElem?_toList]; exact ho) e he1 he3
          omega
        have hkl := hall e he1 he3
        rw [he2] at hkl
        obtain ⟨⟨ck, vk⟩, hvk⟩ : ∃ p, vs[k]? = some p := ⟨_, List.getElem?_eq_getElem (show k < vs.length by omega)⟩
        rw [f2 k ok t ck vk hki hk hd hvk, hv k ok t ck vk hkl hk hd hvk]
      · have hno : ∀ (j : Nat) oj, ops[j]? = some oj → oj.dst ≠ some t := fun j oj hj hd => hx ⟨j, oj, hj, hd⟩
        rw [f1 t (fun k ok _ hk => hno k ok hk), hg t hno]
    unfold wpOp
    simp only [ho]
    rw [if_pos (by unfold Region.wanted; rw [hgd])]
    left
    by_cases hil : i = ops.size - 1
    · -- the last one: all the others are done
      subst hil
      rw [hlast] at ho
      cases ho
      have hallL : ∀ j, j < ops.size → j ≠ ops.size - 1 → listed.getD j false = true := by
        intro j hj hne
        have h1 := List.all_eq_true.1 k6 j (List.mem_range.2 (by simpa using hj))
        have h2 := (memN_iff _ _).1 h1
        have hl : ops.toList.length = ops.size := by simp
        rw [hl] at h2
        have h3 := ancL_sound (ops := ops) (k := ops.size - 1) (ops.size - 1) [ops.size - 1] (fun j hj => by rw [List.mem_singleton] at hj; subst hj; exact .base) j h2
        rcases hdn.anc (fun o2 ho2 e he hb => by rw [hlast] at ho2; cases ho2; exact hall e he hb) h3 with h4 | h4
        · exact absurd h4 hne
        · exact h4
      have hand : andQ vs = true := by
        rw [andQ_iff]
        intro j c v hj
        have hjl : j < vs.length := (List.getElem?_eq_some_iff.1 hj).1
        exact hc j c v (hallL j (by omega) (by omega)) hj
      have gL : ∀ t, frL.get t = g t ∨ oL.dst = some t := by
        intro t
        by_cases hx : ∃ (k : Nat) (ok : Oper), ops[k]? = some ok ∧ ok.dst = some t
        · obtain ⟨k, ok, hk, hd⟩ := hx
          by_cases hkl : k = ops.size - 1
          · subst hkl
            rw [hlast] at hk; cases hk
            exact .inr hd
          · left
            have hkn : k < ops.size := (Array.getElem?_eq_some_iff.1 hk).1
            obtain ⟨⟨ck, vk⟩, hvk⟩ : ∃ p, vs[k]? = some p := ⟨_, List.getElem?_eq_getElem (show k < vs.length by omega)⟩
            rw [hv k ok t ck vk (hallL k hkn hkl) hk hd hvk]
            refine q4 k ok t ck vk (by rw [hsame k (by omega)]; exact hk) hd hvk ?_
            intro j oj hj hoj hdj
            have hjl : j < ops.size - 1 := by have := (List.getElem?_eq_some_iff.1 hoj).1; omega
            rw [hsame j hjl] at hoj
            have := uniq hk hoj hd hdj
            omega
        · left
          have hno : ∀ (j : Nat) oj, ops[j]? = some oj → oj.dst ≠ some t := fun j oj hj hd => hx ⟨j, oj, hj, hd⟩
          rw [hg t hno]
          refine q3 t (fun k ok hk => ?_)
          have hkl : k < ops.size - 1 := by have := (List.getElem?_eq_some_iff.1 hk).1; omega
          rw [hsame k hkl] at hk
          exact hno k ok hk
      obtain ⟨v, h', hst⟩ := hqe hand
      have hst2 := stepOT_is hst
      have hlk : ∀ t, tmpsOf oL.op t → g t = frL.get t := by
        intro t ht
        rcases gL t with h0 | h0
        · exact h0.symm
        · exfalso
          have he := depOk_get k3 (ops.size - 1) oL (by rw [Array.getElem?_toList]; exact hlast) t (tmpsL_iff ht) (ops.size - 1) oL (by rw [Array.getElem?_toList]; exact hlast) h0
          rw [Nat.zero_add] at he
          obtain ⟨o2, e, ho2, he1, he2, he3⟩ := edgeTo_iff he
          rw [Array.getElem?_toList, hlast] at ho2
          cases ho2
          have := back ops.toList 0 (ops.size - 1) oL k2 (by rw [Array.getElem?_toList]; exact hlast) e he1 he3
          omega
      rw [← (stepO_congr (P := P) (O := T.o) (idx := 0) (h := h) hlk).1] at hst2
      rw [stepO_idx (j := h.length) hmk] at hst2
      refine stepO_wp (F := fun _ => False) hO S.rel S.fr (fun e => by rw [hmk] at e; cases e) hst2 _ Q ?_ (fun _ e => by cases e)
      intro v2 e w' ρ' I' u hu hR hW
      cases e
      have hlistAll : ∀ j, j < ops.size → (listed.setIfInBounds (ops.size - 1) true).getD j false = true := by
        intro j hj
        by_cases hne : j = ops.size - 1
        · subst hne
          have : ops.size - 1 < listed.size := by omega
          simp [Array.getD, this]
        · exact getD_set_true (hallL j hj hne)
      have hready : Region.ready .any ops (listed.setIfInBounds (ops.size - 1) true) = [] := by
        apply List.eq_nil_iff_forall_not_mem.2
        intro j hj
        obtain ⟨h1, oj, hoj, _⟩ := mem_ready.1 hj
        have hjl : j < ops.size := (Array.getElem?_eq_some_iff.1 hoj).1
        have h2 := hlistAll j hjl
        have h3 : j < (listed.setIfInBounds (ops.size - 1) true).size := by simp only [Array.size_setIfInBounds]; omega
        simp only [Array.getD, h3, dif_pos] at h1 h2
        rw [h1] at h2; cases h2
      have fin : Q .normal (a.put oL.dst u) w' := by
        refine hq ρ' I' w' (a.put oL.dst u) h' hand v hst ⟨by rw [put_size]; exact S.size, by rw [put_defers]; exact S.defers, ?_, hR.weaken (fun _ (h : False) => h.elim)⟩ hW
        have F2 : FRel I' w' ρ' (g.put oL.dst v) (a.put oL.dst u) := (S.fr.le (hW.le S.rel)).put hu (fun d hd => by rw [S.size]; exact hdst d hd)
        intro t x hx
        rw [get_putO] at hx
        refine F2 t x ?_
        cases hd : oL.dst with
        | none =>
          rw [hd] at hx
          simp only [Fm.put] at hx ⊢
          rcases gL t with h0 | h0
          · rw [← h0]; exact hx
          · rw [hd] at h0; cases h0
        | some d =>
          rw [hd] at hx
          simp only [Fm.put] at hx ⊢
          split at hx
          · rename_i e; rw [if_pos e]; exact hx
          · rename_i e
            rw [if_neg e]
            rcases gL t with h0 | h0
            · rw [← h0]; exact hx
            · rw [hd] at h0; cases h0; exact absurd rfl e
      cases fuel with
      | zero => exact ⟨hready, fin⟩
      | succ f => exact ⟨fun _ => fin, fun j hj => by rw [hready] at hj; cases hj⟩
    · have hi1 : i < ops.size - 1 := by omega
      obtain ⟨FI, c, v, R, tc, r1, r2, r3, r4, r5⟩ := q2 i o (by rw [hsame i hi1]; exact ho)
      have hlk := look FI (fun t ht => r4 t (fun k ok hk hok => ht k ok hk (by rw [← hsame k (by omega)]; exact hok)))
        (fun k ok d ck vk hk hok hd hvk => r5 k ok d ck vk hk (by rw [hsame k (by omega)]; exact hok) hd hvk (fun j oj hj hoj hdj => by
          have hjl : j < ops.size - 1 := by have := (List.getElem?_eq_some_iff.1 hoj).1; omega
          rw [hsame j hjl] at hoj
          have := uniq hok hoj hd hdj
          omega)) (by omega)
      obtain ⟨s1, s2⟩ := readQ_is r3 rfl
      cases c with
      | true =>
        obtain ⟨h', hst, hl⟩ := s1 rfl
        have hst := stepOT_is hst
        have hh := quiet_heap hst r2 hl
        simp only at hh
        subst hh
        rw [← (stepO_congr (P := P) (O := T.o) (idx := 0) (h := h') (fun t ht => (hlk t ht).symm)).1] at hst
        rw [stepO_idx (j := h'.length) hmk] at hst
        refine stepO_wp (F := fun _ => False) hO S.rel S.fr (fun e => by rw [hmk] at e; cases e) hst _ Q ?_ (fun _ e => by cases e)
        intro v2 e w' ρ' I' u hu hR hW
        cases e
        refine ih _ (g.put o.dst v) ρ' I' w' (a.put o.dst u) (by simpa using hsz) ?_ ⟨by rw [put_size]; exact S.size, by rw [put_defers]; exact S.defers, (S.fr.le (hW.le S.rel)).put hu (fun d hd => by rw [S.size]; exact hdst d hd), hR.weaken (fun _ (h : False) => h.elim)⟩ ?_ ?_ ?_ ?_ ?_ ?_ hqe ?_
        · -- one more is listed
          have hils : i < listed.size := by omega
          have hfi : listed[i] = false := by simpa [Array.getD, hils] using hunI
          have : (listed.toList.filter id).length + 1 ≤ ((listed.setIfInBounds i true).toList.filter id).length := by
            rw [Array.toList_setIfInBounds]
            exact Nat.le_of_eq (filter_set _ i (by rw [Array.getElem?_toList, Array.getElem?_eq_getElem hils, hfi]))
          omega
        · intro j oj hj hoj e he hbd
          by_cases hji : j = i
          · subst hji
            rw [ho] at hoj; cases hoj
            exact getD_set_true (hall e he hbd)
          · rw [getD_set_ne false (Ne.symm hji)] at hj
            exact getD_set_true (hdn j oj hj hoj e he hbd)
        · rw [getD_set_ne true hil]; exact hun
        · intro j cj vj hj hvj
          by_cases hji : j = i
          · subst hji
            rw [r1] at hvj; cases hvj; rfl
          · rw [getD_set_ne false (Ne.symm hji)] at hj
            exact hc j cj vj hj hvj
        · intro j oj d cj vj hj hoj hd hvj
          by_cases hji : j = i
          · subst hji
            rw [ho] at hoj; cases hoj
            rw [r1] at hvj; cases hvj
            rw [hd]; simp [Fm.put]
          · rw [getD_set_ne false (Ne.symm hji)] at hj
            rw [put_get (fun y hy e => hji (by subst e; exact uniq hoj ho hd hy))]
            exact hv j oj d cj vj hj hoj hd hvj
        · intro t ht
          rw [put_get (fun y hy e => ht i o ho (by rw [hy, e]))]
          exact hg t ht
        · intro ρ₂ I₂ w₂ a₂ h2 e2 v2 hst2 s3 W3
          exact hq ρ₂ I₂ w₂ a₂ h2 e2 v2 hst2 s3 (hW.trans W3)
        · intro ρ₂ I₂ w₂ a₂ v' e2 hv2 s3 W3
          exact hp ρ₂ I₂ w₂ a₂ v' e2 hv2 s3 (hW.trans W3)
      | false =>
        obtain ⟨h', hst, hl⟩ := s2 rfl
        have hst := stepOT_is hst
        have hh := quiet_heap hst r2 hl
        simp only at hh
        subst hh
        rw [← (stepO_congr (P := P) (O := T.o) (idx := 0) (h := h') (fun t ht => (hlk t ht).symm)).1] at hst
        rw [stepO_idx (j := h'.length) hmk] at hst
        refine stepO_wp (F := fun _ => False) hO S.rel S.fr (fun e => by rw [hmk] at e; cases e) hst _ Q (fun _ e => by cases e) ?_
        intro v2 e w' ρ' I' u hu hR hW
        cases e
        have hand : andQ vs = false := by
          cases hx : andQ vs with
          | false => rfl
          | true => have := andQ_iff.1 hx i false v r1; cases this
        refine hp ρ' I' w' a u hand hu ⟨S.size, S.defers, ?_, hR.weaken (fun _ (h : False) => h.elim)⟩ hW
        intro t x hx
        obtain ⟨e1, e2⟩ := get_dropD hx
        refine (S.fr.le (hW.le S.rel)) t x ?_
        rw [hg t (fun j oj hj hd => e2 (List.mem_filterMap.2 ⟨oj, Array.mem_toList_iff.2 (Array.mem_of_getElem? hj), hd⟩))]
        exact e1
theorem regQ_sound (hO : OrcSound P T.o) (hm : P.follows .mixedOrders = true) {id pid : Nat} {fr : Fr} {h : Heap} {R : X → Fr → Heap → Prop} {x : X} {fr' : Fr} {g' : Heap} (hd : dstsIn N (.region id ops true) = true)
    (h3 : (regQT P T pid ops fr h).is (x, fr', g')) (h2 : R x fr' g') : Runs P N n0 (.region id ops true) fr h R := by
  unfold regQT at h3
  split at h3
  · rename_i hck
    split at h3
    · rename_i s vs frL oL hrun hL
      rw [Tr.is_chk, Tr.is_br] at h3
      obtain ⟨rfl, h3⟩ := h3
      have hin : ∀ d, d ∈ ops.toList.filterMap (·.dst) → d < N := by
        intro d hd'
        obtain ⟨o, ho, hod⟩ := List.mem_filterMap.1 hd'
        exact dstIn_iff (List.all_eq_true.1 hd o ho) d hod
      intro Q dfs ρ I w a S K
      refine wp_region_any hm ?_
      have hpos : 0 < ops.size := by
        have := hck
        simp only [chkQ, Bool.and_eq_true] at this
        simpa using this.1.2
      refine wpAny_quiet hO Q hck hrun hL hin ops.size (Array.replicate ops.size false) fr.get ρ I { w with drawn := w.drawn + 1 } a (by simp) (by omega) ⟨S.size, S.defers, S.fr.world rfl, S.rel.world rfl⟩ ?_ ?_ ?_ ?_ (fun _ _ => rfl) ?_ ?_ ?_
      · intro j oj hj; simp [Array.getD] at hj
      · simp [Array.getD, hpos]; omega
      · intro j c v hj; simp [Array.getD] at hj
      · intro j o d c v hj; simp [Array.getD] at hj
      · intro ρ' I' w' a' h' hand v hst s3 W3
        rw [hand, if_pos rfl, Tr.is_bind] at h3
        obtain ⟨⟨fin, h5⟩, h6, h7⟩ := h3
        have := Tr.is_inj h6 hst
        cases this
        simp only at h7
        rw [Tr.is_leaf] at h7
        cases h7
        exact K _ _ _ ρ' I' w' a' .normal h2 rfl s3 (Went.trans (Went.world (w := w) (w' := { w with drawn := w.drawn + 1 }) rfl rfl rfl rfl) W3).toN
      · intro hand
        rw [hand, if_pos rfl, Tr.is_bind] at h3
        obtain ⟨⟨fin, h5⟩, h6, h7⟩ := h3
        cases fin with
        | ret v => exact ⟨v, h5, h6⟩
        | pan v => exact (Tr.is_no.1 h7).elim
      · intro ρ' I' w' a' v' hand hv s3 W3
        rw [hand, if_neg (by decide), Tr.is_leaf] at h3
        cases h3
        exact K _ _ _ ρ' I' w' a' _ h2 ⟨v', hv, rfl⟩ s3 (Went.trans (Went.world (w := w) (w' := { w with drawn := w.drawn + 1 }) rfl rfl rfl rfl) W3).toN
    · exact (Tr.is_no.1 h3).elim
  · exact (Tr.is_no.1 h3).elim
end
end Go.Lh
end
section
namespace Go.Lh
def FinR (N n0 : Nat) (E : X × Fr × Heap → Tr (Fin × Heap)) (r : Fin × Heap) : X → Fr → Heap → Prop := fun z f k =>
  cloX z = true ∧ ∃ f2 k2, Weaker N n0 f k f2 k2 ∧ (E (z, f2, k2)).is r
theorem Loose.fin {N n0 : Nat} {E : X × Fr × Heap → Tr (Fin × Heap)} {r : Fin × Heap} : Loose N n0 (FinR N n0 E r) := by
  rintro x f k f2 k2 hw ⟨h0, f3, k3, h1, h2⟩
  exact ⟨h0, f3, k3, Weaker.trans hw h1, h2⟩
def Carries (R0 R : X → Fr → Heap → Prop) : Prop := ∀ z f k, z ≠ .normal → (∀ i, z ≠ .exit i) → R0 z f k → R z f k
theorem Carries.rfl {R : X → Fr → Heap → Prop} : Carries R R := fun _ _ _ _ _ h => h
theorem Carries.seq {P : Program} {N n0 : Nat} {rest : Code} {R0 R : X → Fr → Heap → Prop} (h : Carries R0 R) : Carries R0 (SeqR P N n0 rest R) := by
  intro z f k h1 h2 h3
  have := h z f k h1 h2 h3
  cases z with
  | normal => exact absurd _root_.rfl h1
  | exit i => exact absurd _root_.rfl (h2 i)
  | ret => exact this
  | pan v => exact this
theorem Carries.blk {id : Nat} {R0 R : X → Fr → Heap → Prop} (h : Carries R0 R) : Carries R0 (BlkR id R) := fun z f k h1 h2 h3 => .inr ⟨h1, h2 id, h z f k h1 h2 h3⟩
theorem Carries.rnd {α : Type} {N n0 id : Nat} {S : α → Fr × Heap} {μ : α → Nat} {ok : α → Prop} {R0 R : X → Fr → Heap → Prop} {a : α} (h : Carries R0 R) : Carries R0 (RndR N n0 id S μ ok R a) := fun z f k h1 h2 h3 => .inr (.inr ⟨h1, h2 id, h z f k h1 h2 h3⟩)
def endF (n0 : Nat) (on off : Tell) (E : X × Fr × Heap → Tr (Fin × Heap)) (p : X × Fr × Heap) : Tr ((Fin × Heap) ⊕ (X × Fr × Heap)) := match p with
  | (.normal, fr', h') => (tellT n0 on .normal fr' h').bind fun q => .leaf (.inr q)
  | (.exit i, fr', h') => (tellT n0 off (.exit i) fr' h').bind fun q => .leaf (.inr q)
  | (.ret, fr', h') => (E (.ret, fr', h')).bind fun q => .leaf (.inl q)
  | (.pan v, fr', h') => if v.clo then (E (.pan v, fr', h')).bind fun q => .leaf (.inl q) else .no
def execBYF (P : Program) (T : OrcT) (L : LoopsT) (fuel : Nat) (n0 : Nat) (on off : Tell) (E : X × Fr × Heap → Tr (Fin × Heap)) (c : Code) (fr : Fr) (h : Heap) : Tr ((Fin × Heap) ⊕ (X × Fr × Heap)) :=
  (execBY P T L fuel c fr h).bind (endF n0 on off E)
theorem endF_is {N n0 : Nat} {on off : Tell} {E : X × Fr × Heap → Tr (Fin × Heap)} {x : X} {fr' : Fr} {h' : Heap} {q : (Fin × Heap) ⊕ (X × Fr × Heap)} (h : (endF n0 on off E (x, fr', h')).is q) (hc : CloW on off q) :
    (∃ f g, q = .inr (x, f, g) ∧ (x = .normal ∨ ∃ i, x = .exit i) ∧ Weaker N n0 fr' h' f g) ∨ (∃ r, q = .inl r ∧ x ≠ .normal ∧ (∀ i, x ≠ .exit i) ∧ ∀ f k, Weaker N n0 f k fr' h' → FinR N n0 E r x f k) := by
  cases x with
  | normal =>
    simp only [endF] at h
    rw [Tr.is_bind] at h
    obtain ⟨⟨x1, f1, g1⟩, h3, h4⟩ := h
    rw [Tr.is_leaf] at h4
    subst h4
    have e := tellT_fst h3
    simp only at e
    subst e
    exact .inl ⟨f1, g1, rfl, .inl rfl, (tellT_is h3 hc).2⟩
  | exit i =>
    simp only [endF] at h
    rw [Tr.is_bind] at h
    obtain ⟨⟨x1, f1, g1⟩, h3, h4⟩ := h
    rw [Tr.is_leaf] at h4
    subst h4
    have e := tellT_fst h3
    simp only at e
    subst e
    exact .inl ⟨f1, g1, rfl, .inr ⟨i, rfl⟩, (tellT_is h3 hc).2⟩
  | ret =>
    simp only [endF] at h
    rw [Tr.is_bind] at h
    obtain ⟨r, h3, h4⟩ := h
    rw [Tr.is_leaf] at h4
    subst h4
    exact .inr ⟨r, rfl, (by simp), (by simp), fun f k hw => ⟨rfl, fr', h', hw, h3⟩⟩
  | pan v =>
    simp only [endF] at h
    split at h
    · rename_i hv
      rw [Tr.is_bind] at h
      obtain ⟨r, h3, h4⟩ := h
      rw [Tr.is_leaf] at h4
      subst h4
      exact .inr ⟨r, rfl, (by simp), (by simp), fun f k hw => ⟨hv, fr', h', hw, h3⟩⟩
    · exact (Tr.is_no.1 h).elim
section
variable {P : Program} {T : OrcT} {L : LoopsT} {n0 : Nat} {fn : Func} {R : X → Fr → Heap → Prop} {fuel : Nat} {on off : Tell} {c : Code} {fr : Fr} {h : Heap} {sh : Tr.Sh} {t : Tr ((Fin × Heap) ⊕ (X × Fr × Heap))} {E : X × Fr × Heap → Tr (Fin × Heap)} {r : Fin × Heap}
theorem Runs.cutF (k : Nat) (hO : OrcSound P T.o) (hm : P.follows .mixedOrders = true) (hc : cutOk k c = true) (hL : ∀ d, d ∈ loopsOf c → LoopOk P fn.ntmps n0 L.o d) (hd : dstsIn fn.ntmps c = true) (hR : Loose fn.ntmps n0 R) (hC : Carries (FinR fn.ntmps n0 E r) R)
    (hx : Tr.prune sh (execBYF P T L fuel n0 on off E (takeSeq k c) fr h) = t)
    (hw : t.wp fun q => CloW on off q ∧ ((∃ f g, q = .inr (.normal, f, g) ∧ Runs P fn.ntmps n0 (dropSeq k c) f g R) ∨ (∃ i f g, q = .inr (.exit i, f, g) ∧ R (.exit i) f g) ∨ q = .inl r)) : Runs P fn.ntmps n0 c fr h R := by
  obtain ⟨q, h1, hcl, h2⟩ := Tr.wp_is (Tr.wp_prune hx hw)
  unfold execBYF at h1
  rw [Tr.is_bind] at h1
  obtain ⟨⟨x, fr', g'⟩, h3, h4⟩ := h1
  rcases endF_is (N := fn.ntmps) h4 hcl with ⟨f, g, rfl, hx1, hwk⟩ | ⟨r2, rfl, hx1, hx2, hf⟩
  · refine cutY_runs hO hm hc hL hd h3 (fun hx => ?_) (fun hx y f k hy => ?_)
    · rcases h2 with ⟨f2, g2, e, h2⟩ | ⟨i, f2, g2, e, h2⟩ | e
      · cases e; exact Runs.weaken hwk h2
      · cases e; cases hx
      · cases e
    · obtain ⟨rfl, w2⟩ := hy.weak
      rcases h2 with ⟨f2, g2, e, h2⟩ | ⟨i, f2, g2, e, h2⟩ | e
      · cases e; exact absurd rfl hx
      · cases e; exact hR _ _ _ _ _ (Weaker.trans w2 hwk) h2
      · cases e
  · refine cutY_runs hO hm hc hL hd h3 (fun hx => absurd hx hx1) (fun hx y f k hy => ?_)
    obtain ⟨rfl, w2⟩ := hy.weak
    rcases h2 with ⟨f2, g2, e, h2⟩ | ⟨i, f2, g2, e, h2⟩ | e
    · cases e
    · cases e
    · cases e; exact hC _ _ _ hx1 hx2 (hf _ _ w2)
theorem Runs.lastF (hO : OrcSound P T.o) (hm : P.follows .mixedOrders = true) (hL : ∀ d, d ∈ loopsOf c → LoopOk P fn.ntmps n0 L.o d) (hd : dstsIn fn.ntmps c = true) (hR : Loose fn.ntmps n0 R) (hC : Carries (FinR fn.ntmps n0 E r) R)
    (hx : Tr.prune sh (execBYF P T L fuel n0 on off E c fr h) = t)
    (hw : t.wp fun q => CloW on off q ∧ ((∃ f g, q = .inr (.normal, f, g) ∧ R .normal f g) ∨ (∃ i f g, q = .inr (.exit i, f, g) ∧ R (.exit i) f g) ∨ q = .inl r)) : Runs P fn.ntmps n0 c fr h R := by
  obtain ⟨q, h1, hcl, h2⟩ := Tr.wp_is (Tr.wp_prune hx hw)
  unfold execBYF at h1
  rw [Tr.is_bind] at h1
  obtain ⟨⟨x, fr', g'⟩, h3, h4⟩ := h1
  refine (execBY_sound (n0 := n0) hO hm c hL _ _ _ _ _ hd h3).mono ?_
  intro y f k hy
  obtain ⟨rfl, w2⟩ := hy.weak
  rcases endF_is (N := fn.ntmps) h4 hcl with ⟨f1, g1, rfl, hx1, hwk⟩ | ⟨r2, rfl, hx1, hx2, hf⟩
  · rcases h2 with ⟨f2, g2, e, h2⟩ | ⟨i, f2, g2, e, h2⟩ | e
    · cases e; exact hR _ _ _ _ _ (Weaker.trans w2 hwk) h2
    · cases e; exact hR _ _ _ _ _ (Weaker.trans w2 hwk) h2
    · cases e
  · rcases h2 with ⟨f2, g2, e, h2⟩ | ⟨i, f2, g2, e, h2⟩ | e
    · cases e
    · cases e
    · cases e; exact hC _ _ _ hx1 hx2 (hf _ _ w2)
theorem Runs.quietF (hO : OrcSound P T.o) (hm : P.follows .mixedOrders = true) {id pid : Nat} {ops : Array Oper} (hd : dstsIn fn.ntmps (.region id ops true) = true) (hR : Loose fn.ntmps n0 R) (hC : Carries (FinR fn.ntmps n0 E r) R)
    (hx : Tr.prune sh ((regQT P T pid ops fr h).bind (endF n0 on off E)) = t)
    (hw : t.wp fun q => CloW on off q ∧ ((∃ f g, q = .inr (.normal, f, g) ∧ R .normal f g) ∨ q = .inl r)) : Runs P fn.ntmps n0 (.region id ops true) fr h R := by
  obtain ⟨q, h1, hcl, h2⟩ := Tr.wp_is (Tr.wp_prune hx hw)
  rw [Tr.is_bind] at h1
  obtain ⟨⟨x, fr', g'⟩, h3, h4⟩ := h1
  refine (regQ_sound (n0 := n0) (R := fun y f k => y = x ∧ Weaker fn.ntmps n0 f k fr' g') hO hm hd h3 ⟨rfl, .refl⟩).mono ?_
  rintro y f k ⟨rfl, w2⟩
  rcases endF_is (N := fn.ntmps) h4 hcl with ⟨f1, g1, rfl, hx1, hwk⟩ | ⟨r2, rfl, hx1, hx2, hf⟩
  · rcases h2 with ⟨f2, g2, e, h2⟩ | e
    · cases e; exact hR _ _ _ _ _ (Weaker.trans w2 hwk) h2
    · cases e
  · rcases h2 with ⟨f2, g2, e, h2⟩ | e
    · cases e
    · cases e; exact hC _ _ _ hx1 hx2 (hf _ _ w2)
end
theorem FinR.mk {N n0 : Nat} {E : X × Fr × Heap → Tr (Fin × Heap)} {r : Fin × Heap} {z : X} {f : Fr} {k : Heap} (hz : cloX z = true) (h : E (z, f, k) = .chk true (.leaf r)) : FinR N n0 E r z f k :=
  ⟨hz, f, k, .refl, by rw [h]; exact Tr.is_chk.2 ⟨rfl, Tr.is_leaf.2 rfl⟩⟩
theorem fnR {P : Program} {f : FuncId} {fn : Func} {args : List V} {h : Heap} {r : Fin × Heap} (hf : P.funcs[f]? = some fn) (hb : fn.body.isSome = true) (hn : Nat.ble args.length fn.ntmps = true)
    (H : Runs P fn.ntmps h.length (bodyOf fn) (argsFr 0 args) h (FinR fn.ntmps h.length (endT P fn h.length) r)) : LFn P f args h r.1 r.2 := by
  obtain ⟨c, hc⟩ := Option.isSome_iff_exists.1 hb
  have : bodyOf fn = c := by rw [bodyOf, hc]; rfl
  rw [this] at H
  have hn := Nat.le_of_ble_eq_true hn
  intro ρ I w args' R ha
  have hal : args'.length = args.length := ha.length.symm
  refine calls_of_wp hf hc ?_
  refine H _ [] ρ I w _ ⟨by simp; omega, rfl, frel_args ha fn.ntmps, R.weaken (fun _ h => h.elim)⟩ ?_
  rintro x fr' h₁ ρ₁ I₁ w₁ a₁ e ⟨hz, f2, k2, hwk, hE⟩ er S₁ W₁
  obtain ⟨ρ₂, S₂, W₂⟩ := hwk _ ρ₁ I₁ w₁ a₁ S₁
  have fin_of : ∀ (f0 : Fin) (e0 : Ending), FinW h.length f0 k2 r.1 r.2 → FinRel I₁ w₁ ρ₂ f0 e0 → ∃ ρ' I', Rel ρ' I' w₁ r.2 (fun i => r.2.length ≤ i) ∧ Went ρ I w h ρ' I' w₁ r.2 ∧ FinRel I' w₁ ρ' r.1 e0 := by
    intro f0 e0 hW hF
    obtain ⟨ρ₃, r2, w2, f3⟩ := hW ρ₂ I₁ w₁ S₂.rel
    exact ⟨ρ₃, I₁, r2, ((W₁.trans W₂).trans w2).full R (Nat.le_refl _), f3 _ hF⟩
  cases x with
  | normal =>
    cases er
    obtain ⟨v, hv, hcm⟩ := retT_is hE
    obtain ⟨v', h1, h2⟩ := resV_sound (P := P) S₂.rel S₂.fr hv
    exact ⟨S₁.defers, v', h1, fin_of _ _ (tellFin_sound hcm) ⟨v', rfl, h2⟩⟩
  | ret =>
    cases er
    obtain ⟨v, hv, hcm⟩ := retT_is hE
    obtain ⟨v', h1, h2⟩ := resV_sound (P := P) S₂.rel S₂.fr hv
    exact ⟨S₁.defers, v', h1, fin_of _ _ (tellFin_sound hcm) ⟨v', rfl, h2⟩⟩
  | pan v =>
    obtain ⟨v', hv, rfl⟩ := er
    simp only [endT] at hE
    split at hE
    · rename_i p ep
      rw [Tr.is_leaf] at hE
      subst hE
      exact ⟨S₁.defers, fin_of _ _ (tellFin_sound ep) ⟨v', rfl, hv.clo hz⟩⟩
    · exact (Tr.is_no.1 hE).elim
  | exit i => exact (Tr.is_no.1 hE).elim
theorem fnDR {P : Program} {T : OrcT} {L : LoopsT} {fuel : Nat} (hO : OrcSound P T.o) (hm : P.follows .mixedOrders = true) {k : Nat} {f : FuncId} {fn fnF : Func} {args : List V} {h : Heap} {r : Fin × Heap} {F : FuncId} {as : List V} {fr1 : Fr} {h1 : Heap} {sh : Tr.Sh} (hf : P.funcs[f]? = some fn) (hF : P.funcs[F]? = some fnF) (hnm : (fnF.name == "runtime.NumGoroutine") = false)
    (hL : ∀ n0, LoopsOk P fn n0 L.o) (hLF : ∀ (F : FuncId) (fnF : Func) (n0 : Nat), P.funcs[F]? = some fnF → LoopsOk P fnF n0 L.o)
    (hx : Tr.prune sh (preD P T L fuel k fn args h) = .chk true (.leaf ((F, as), fr1, h1))) (hb : fnF.body.isSome = true)
    (H : Runs P fn.ntmps h1.length (dropSeq (k + 1) (bodyOf fn)) fr1 h1 (FinR fn.ntmps h1.length (endD P T L fuel fn fnF h.length as) r)) : LFn P f args h r.1 r.2 :=
  fnDH hO hm hf hF hnm hL hLF hx hb H
end Go.Lh
end
section
namespace Go.Lh
theorem VsRel.wkL {I : Nat → Prop} {w : World} {ρ : Ren} {a b : V} (hw : a.Wk b) : ∀ {l : List V} {us : List Value}, VsRel I w ρ (l ++ [a]) us → VsRel I w ρ (l ++ [b]) us
  | [], us, h => by
    cases h with
    | cons _ _ u _ r h1 h => exact .cons _ _ _ _ _ (hw _ _ _ _ h1) h
  | x :: l, us, h => by
    cases h with
    | cons _ _ u _ r h1 h => exact .cons _ _ _ _ _ h1 (VsRel.wkL hw h)
theorem wk_arg1 {I : Nat → Prop} {w : World} {ρ : Ren} {a b : V} {us : List Value} (hw : a.Wk b) (h : VsRel I w ρ [a] us) : VsRel I w ρ [b] us := VsRel.wkL (l := []) hw h
theorem Runs.two {P : Program} {T : OrcT} {fuel N n0 : Nat} {R : X → Fr → Heap → Prop} {c : Code} {fr fr1 fr2 fr3 : Fr} {h h1 h2 h3 : Heap} {on : List Nat} (k : Nat) (hO : OrcSound P T.o) (hm : P.follows .mixedOrders = true) (hc : headOk c = true) (hd : dstsIn N c = true)
    (hA : (execB P T noLoopsT fuel (partA k c) fr h).is (.normal, fr1, h1)) (hf : (fr2 = fr1 ∧ h2 = h1) ∨ ∃ i cs, h1[i]? = some (.vals cs) ∧ (∀ v, v ∈ cs → v.clo = true) ∧ fr2 = frzF i cs fr1 ∧ h2 = h1.set i .dead)
    (hB : (execBN P T noLoopsT fuel n0 on [] (partB k c) fr2 h2).is (.normal, fr3, h3)) (H : Runs P N n0 (tailC c) fr3 h3 R) : Runs P N n0 c fr h R := by
  unfold headOk at hc
  split at hc
  · rename_i id ops rest
    simp only [dstsIn, Bool.and_eq_true] at hd
    unfold execBN at hB
    rw [Tr.is_bind] at hB
    obtain ⟨⟨x, fr', g'⟩, hB1, hB2⟩ := hB
    have hx : x = .normal := by
      cases x with
      | normal => rfl
      | pan v => simp only at hB2; rw [Tr.is_leaf] at hB2; cases hB2
      | exit _ =>
        simp only at hB2
        split at hB2
        · rw [Tr.is_leaf] at hB2; cases hB2
        · exact (Tr.is_no.1 hB2).elim
      | ret =>
        simp only at hB2
        split at hB2
        · rw [Tr.is_leaf] at hB2; cases hB2
        · exact (Tr.is_no.1 hB2).elim
    subst hx
    simp only at hB2
    split at hB2
    · rename_i q ht
      rw [Tr.is_leaf] at hB2
      cases hB2
      refine Runs.seq ((region_two hO hm (List.take_append_drop k ops.toList).symm hc (by simpa only [dstsIn] using hd.1) hA hf hB1).mono ?_)
      rintro y f g ⟨rfl, hw⟩
      exact Runs.weaken hw (Runs.weaken (tell_weaker ht) H)
    · exact (Tr.is_no.1 hB2).elim
  · cases hc
theorem Tr.is_pr {α : Type} {sh : Tr.Sh} {t : Tr α} {r : α} (h : Tr.prune sh t = .chk true (.leaf r)) : t.is r := Tr.prune_is (by rw [h]; exact Tr.is_chk.2 ⟨rfl, Tr.is_leaf.2 rfl⟩)
end Go.Lh
end
section
namespace Go.Lh
def frzB (i : Nat) (cs : List V) : Blk → Blk
  | .vals us => .vals (frzVs i cs us)
  | b => b
theorem frzVs_len (i : Nat) (cs : List V) : ∀ us : List V, (frzVs i cs us).length = us.length
  | [] => rfl
  | v :: r => by rw [frzVs, List.length_cons, List.length_cons, frzVs_len i cs r]
theorem frzVs_getD (i : Nat) (cs : List V) : ∀ (us : List V) (o : Nat), (frzVs i cs us).getD o .any = frzV i cs (us.getD o .any)
  | [], _ => rfl
  | _ :: _, 0 => rfl
  | v :: r, o + 1 => frzVs_getD i cs r o
theorem BRel.map {I : Nat → Prop} {w : World} {ρ : Ren} {l : Loc} {us vs : List V} (B : BRel I w ρ l (.vals us)) (hl : vs.length = us.length) (hv : ∀ o c, o < us.length → VRel I w ρ (us.getD o .any) c → VRel I w ρ (vs.getD o .any) c) : BRel I w ρ l (.vals vs) := by
  obtain ⟨C, e, fz, m1, m2, m3, m4⟩ := B.mem
  refine ⟨⟨C, e, fz, m1, m2, m3, fun o ho => ?_⟩, ?_, fun e n h => B.ty e n h⟩
  · have ho' : o < us.length := by rw [← hl]; exact ho
    obtain ⟨c, q1, q2⟩ := m4 o ho'
    exact ⟨c, q1, hv o c ho' q2⟩
  · have := B.fits
    show vs.length ≤ l.room
    rw [hl]; exact this
theorem Rel.frzA {ρ : Ren} {I : Nat → Prop} {w : World} {h : Heap} {F : Nat → Prop} {i : Nat} {cs : List V} {n0 : Nat} (R : Rel ρ I w h F) (hi : h[i]? = some (.vals cs)) (hc : ∀ v, v ∈ cs → v.clo = true) :
    ∃ I', Rel ρ I' w ((h.set i .dead).map (frzB i cs)) F ∧ WentN n0 ρ I w h ρ I' w ((h.set i .dead).map (frzB i cs)) ∧ ∀ v v', VRel I w ρ v v' → VRel I' w ρ (frzV i cs v) v' := by
  obtain ⟨l, hl, B, hn⟩ := R.blk i _ hi (by simp)
  have hII : ∀ b, I b → (I b ∨ b = l.b) := fun b h => .inl h
  obtain ⟨C, e, fz, m1, m2, m3, m4⟩ := B.mem
  have hlt : i < h.length := (List.getElem?_eq_some_iff.1 hi).1
  have back : ∀ {b : Blk}, frzB i cs b = .dead ↔ b = .dead := by
    intro b; cases b <;> simp [frzB]
  have ne : ∀ {j : Nat} {b : Blk}, ((h.set i .dead).map (frzB i cs))[j]? = some b → b ≠ .dead → ∃ b0, j ≠ i ∧ h[j]? = some b0 ∧ b0 ≠ .dead ∧ b = frzB i cs b0 := by
    intro j b hj hd
    rw [List.getElem?_map] at hj
    cases hx : (h.set i .dead)[j]? with
    | none => rw [hx] at hj; cases hj
    | some b0 =>
      rw [hx] at hj
      cases hj
      have hd0 : b0 ≠ .dead := fun e => hd (back.2 e)
      by_cases e : j = i
      · subst e
        rw [List.getElem?_set_self hlt] at hx
        cases hx; exact absurd rfl hd0
      · rw [List.getElem?_set_ne (Ne.symm e)] at hx
        exact ⟨b0, e, hx, hd0, rfl⟩
  have hmem : ∃ C e fz, w.heap[l.b]? = some (.cells C e fz) ∧ C.size = l.d + l.room ∧ ∀ o, o < cs.length → ∃ c, C[l.d + o]? = some c ∧ VRel (fun b => I b ∨ b = l.b) w (fun _ => none) (cs.getD o .any) c := by
    refine ⟨C, e, fz, m1, m2, fun o ho => ?_⟩
    obtain ⟨c, hc1, hc2⟩ := m4 o ho
    refine ⟨c, hc1, ?_⟩
    have hat : (Blk.vals cs).at o = cs.getD o .any := rfl
    rw [hat] at hc2
    have hmm : cs.getD o .any ∈ cs := by
      rw [List.getD_eq_getElem?_getD, List.getElem?_eq_getElem ho]; exact List.getElem_mem ho
    exact (VRel.clo hc2 (hc _ hmm)).mono hII (fun _ _ => rfl) _ (fun _ _ h => h)
  have hfr : ∀ v v', VRel I w ρ v v' → VRel (fun b => I b ∨ b = l.b) w ρ (frzV i cs v) v' := fun v v' hv => frzV_rel hl hII (.inr rfl) hmem hv
  have bmap : ∀ {b : Blk} {l2 : Loc}, BRel I w ρ l2 b → BRel (fun b => I b ∨ b = l.b) w ρ l2 (frzB i cs b) := by
    intro b l2 B2
    have B3 : BRel (fun b => I b ∨ b = l.b) w ρ l2 b := by
      obtain ⟨C2, e2, fz2, p1, p2, p3, p4⟩ := B2.mem
      exact ⟨⟨C2, e2, fz2, p1, p2, p3, fun o ho => by obtain ⟨c, q1, q2⟩ := p4 o ho; exact ⟨c, q1, q2.mono hII (fun _ _ => rfl) _ (fun _ _ h => h)⟩⟩, B2.fits, B2.ty⟩
    cases b with
    | vals us =>
      obtain ⟨C2, e2, fz2, p1, p2, p3, p4⟩ := B2.mem
      refine ⟨⟨C2, e2, fz2, p1, p2, p3, fun o ho => ?_⟩, ?_, fun e n h => B2.ty e n h⟩
      · have ho' : o < us.length := by rw [← frzVs_len i cs us]; exact ho
        obtain ⟨c, q1, q2⟩ := p4 o ho'
        refine ⟨c, q1, ?_⟩
        show VRel _ w ρ ((frzVs i cs us).getD o .any) c
        rw [frzVs_getD]
        exact hfr _ _ q2
      · show (frzVs i cs us).length ≤ l2.room
        rw [frzVs_len]; exact B2.fits
    | _ => exact B3
  refine ⟨fun b => I b ∨ b = l.b, ⟨?_, R.free, ?_, ?_, ?_⟩, ⟨fun _ _ _ h => h, hII, rfl, rfl, rfl, Nat.le_refl _, fun _ _ _ => rfl, ?_, ?_⟩, hfr⟩
  · intro j b hj hd
    obtain ⟨b0, hne, hj0, hd0, rfl⟩ := ne hj hd
    obtain ⟨l2, hl2, B2, hn2⟩ := R.blk j b0 hj0 hd0
    refine ⟨l2, hl2, bmap B2, ?_⟩
    rintro (hb | hb)
    · exact hn2 hb
    · exact R.apart j i b0 _ l2 l hne hj0 hd0 hi (by simp) hl2 hl hb
  · intro j hj
    exact R.out j (by simpa using hj)
  · intro a c x y l1 l2 hac h1 d1 h2 d2 e1 e2
    obtain ⟨x0, _, h1, d1, _⟩ := ne h1 d1
    obtain ⟨y0, _, h2, d2, _⟩ := ne h2 d2
    exact R.apart a c x0 y0 l1 l2 hac h1 d1 h2 d2 e1 e2
  · rintro b (hb | hb)
    · exact R.lt b hb
    · rw [hb]; exact (Array.getElem?_eq_some_iff.1 m1).1
  · rintro b ⟨j, x, l2, hj, hd, e1, e2⟩
    obtain ⟨x0, _, hj, hd, _⟩ := ne hj hd
    exact .inl ⟨j, x0, l2, hj, hd, e1, e2⟩
  · rintro b (hb | hb)
    · exact .inl hb
    · exact .inr (.inl ⟨i, _, l, hi, by simp, hl, hb.symm⟩)
theorem Runs.frzA {P : Program} {N n0 : Nat} {c : Code} {fr : Fr} {h : Heap} {i : Nat} {cs : List V} {R : X → Fr → Heap → Prop} (hi : h[i]? = some (.vals cs)) (hc : ∀ v, v ∈ cs → v.clo = true) (H : Runs P N n0 c (frzF i cs fr) ((h.set i .dead).map (frzB i cs)) R) : Runs P N n0 c fr h R := by
  intro Q dfs ρ I w a S K
  obtain ⟨I', r1, w1, hv⟩ := S.rel.frzA (n0 := n0) hi hc
  refine H Q dfs ρ I' w a ⟨S.size, S.defers, ?_, r1⟩ fun x fr₂ h₂ ρ₂ I₂ w₂ a₂ e₂ r₂ er₂ s₂ W₂ => K x fr₂ h₂ ρ₂ I₂ w₂ a₂ e₂ r₂ er₂ s₂ (w1.trans W₂)
  intro t v hg
  rw [frzF_get] at hg
  cases hf : fr.get t with
  | none => rw [hf] at hg; cases hg
  | some u =>
    rw [hf] at hg
    cases hg
    exact hv _ _ (S.fr t u hf)
inductive Wks : List V → List V → Prop
  | nil : Wks [] []
  | cons {a b : V} {l m : List V} (h : a.Wk b) (t : Wks l m) : Wks (a :: l) (b :: m)
theorem Wks.rfl : ∀ {l : List V}, Wks l l
  | [] => .nil
  | v :: r => .cons (.refl v) Wks.rfl
theorem Wks.last {a b : V} (h : a.Wk b) : ∀ {l : List V}, Wks (l ++ [a]) (l ++ [b])
  | [] => .cons h .nil
  | v :: r => .cons (.refl v) (Wks.last h)
theorem Wks.length {l m : List V} (h : Wks l m) : m.length = l.length := by
  induction h with
  | nil => exact _root_.rfl
  | cons _ _ ih => rw [List.length_cons, List.length_cons, ih]
theorem Wks.getD {l m : List V} (h : Wks l m) : ∀ o, (l.getD o .any).Wk (m.getD o .any) := by
  induction h with
  | nil => exact fun o => .refl _
  | cons h t ih =>
    intro o
    cases o with
    | zero => exact h
    | succ o => exact ih o
inductive WkB : Blk → Blk → Prop
  | vals {l m : List V} (h : Wks l m) : WkB (.vals l) (.vals m)
  | b64 (l : List (BitVec 64)) : WkB (.b64 l) (.vals (l.map .u64))
  | refl (b : Blk) : WkB b b
inductive WkH : Heap → Heap → Prop
  | nil : WkH [] []
  | cons {a b : Blk} {l m : Heap} (h : WkB a b) (t : WkH l m) : WkH (a :: l) (b :: m)
theorem WkH.length {l m : Heap} (h : WkH l m) : m.length = l.length := by
  induction h with
  | nil => rfl
  | cons _ _ ih => rw [List.length_cons, List.length_cons, ih]
theorem WkH.get {l m : Heap} (h : WkH l m) : ∀ (j : Nat) (b : Blk), m[j]? = some b → ∃ a, l[j]? = some a ∧ WkB a b := by
  induction h with
  | nil => intro j b hj; simp at hj
  | cons h t ih =>
    intro j b hj
    cases j with
    | zero => simp only [List.getElem?_cons_zero, Option.some.injEq] at hj; subst hj; exact ⟨_, rfl, h⟩
    | succ j => simpa using ih j b (by simpa using hj)
theorem WkB.dead {a b : Blk} (h : WkB a b) : b = .dead ↔ a = .dead := by
  cases h with
  | vals h => simp
  | b64 => simp
  | refl => exact Iff.rfl
theorem Weaker.heap {N n0 : Nat} {fr : Fr} {h h2 : Heap} (hw : WkH h h2) : Weaker N n0 fr h fr h2 := by
  intro dfs ρ I w a S
  refine ⟨ρ, ⟨S.size, S.defers, S.fr, ?_⟩, ⟨fun _ _ _ h => h, fun _ h => h, rfl, rfl, rfl, Nat.le_refl _, fun _ _ _ => rfl, ?_, fun b hb => .inl hb⟩⟩
  · refine ⟨?_, fun i hi => hi.elim, fun i hi => S.rel.out i (by rw [← hw.length]; exact hi), ?_, S.rel.lt⟩
    · intro j b hj hd
      obtain ⟨b0, h0, hwb⟩ := hw.get j b hj
      have hd0 : b0 ≠ .dead := fun e => hd (hwb.dead.2 e)
      obtain ⟨l, hl, B, hn⟩ := S.rel.blk j b0 h0 hd0
      refine ⟨l, hl, ?_, hn⟩
      cases hwb with
      | refl => exact B
      | vals hv => exact B.map hv.length (fun o c _ hc => hv.getD o _ _ _ _ hc)
      | b64 xs =>
        obtain ⟨C, e, fz, m1, m2, m3, m4⟩ := B.mem
        refine ⟨⟨C, e, fz, m1, m2, m3, fun o ho => ?_⟩, ?_, fun e n h => (by cases h)⟩
        · have ho : o < xs.length := by simpa [Blk.len] using ho
          obtain ⟨c, q1, q2⟩ := m4 o ho
          refine ⟨c, q1, ?_⟩
          have e1 : (Blk.vals (xs.map .u64)).at o = (Blk.b64 xs).at o := by
            show (xs.map V.u64).getD o .any = .u64 (xs.getD o 0)
            rw [List.getD_eq_getElem?_getD, List.getElem?_map, List.getElem?_eq_getElem ho, List.getD_eq_getElem?_getD, List.getElem?_eq_getElem ho]; rfl
          rw [e1]; exact q2
        · have := B.fits
          show (xs.map V.u64).length ≤ l.room
          rw [List.length_map]; exact this
    · intro i j x y l l' hij hx hxd hy hyd hl hl'
      obtain ⟨x0, hx, hwx⟩ := hw.get i x hx
      obtain ⟨y0, hy, hwy⟩ := hw.get j y hy
      exact S.rel.apart i j x0 y0 l l' hij hx (fun e => hxd (hwx.dead.2 e)) hy (fun e => hyd (hwy.dead.2 e)) hl hl'
  · rintro b ⟨j, x, l, hx, hxd, hl, e⟩
    obtain ⟨x0, hx, hwx⟩ := hw.get j x hx
    exact .inl ⟨j, x0, l, hx, fun e => hxd (hwx.dead.2 e), hl, e⟩
theorem Runs.wkH {P : Program} {N n0 : Nat} {c : Code} {fr : Fr} {h h2 : Heap} {R : X → Fr → Heap → Prop} (hw : WkH h h2) (H : Runs P N n0 c fr h2 R) : Runs P N n0 c fr h R := Runs.weaken (Weaker.heap hw) H
mutual
theorem frzV_clo {i : Nat} {cs : List V} : ∀ {v : V}, v.clo = true → frzV i cs v = v
  | .sl _ _ _ _ _, h => by simp [V.clo] at h
  | .agg vs, h => by rw [V.clo] at h; rw [frzV, frzVs_clo h]
  | .tup vs, h => by rw [V.clo] at h; rw [frzV, frzVs_clo h]
  | .iface t u, h => by rw [V.clo] at h; rw [frzV, frzV_clo h]
  | .any, _ => rfl
  | .u8 _, _ => rfl
  | .u16 _, _ => rfl
  | .u32 _, _ => rfl
  | .u64 _, _ => rfl
  | .int _ _, _ => rfl
  | .bool _, _ => rfl
  | .str _, _ => rfl
  | .ptr _ _, _ => rfl
  | .nilPtr, _ => rfl
  | .nilSl, _ => rfl
  | .isl _ _ _, _ => rfl
  | .iptr _ _ _ _ _, _ => rfl
  | .fn _ _ _, _ => rfl
  | .nilFn, _ => rfl
  | .nilIface, _ => rfl
  | .yld _, _ => rfl
  | .fmap _, _ => rfl
theorem frzVs_clo {i : Nat} {cs : List V} : ∀ {vs : List V}, V.clos vs = true → frzVs i cs vs = vs
  | [], _ => rfl
  | v :: r, h => by rw [V.clos, Bool.and_eq_true] at h; rw [frzVs, frzV_clo h.1, frzVs_clo h.2]
end
theorem clos_of {vs : List V} (h : ∀ v, v ∈ vs → v.clo = true) : V.clos vs = true := by
  induction vs with
  | nil => rfl
  | cons v r ih => rw [V.clos, h v (by simp), ih (fun u hu => h u (by simp [hu]))]; rfl
theorem Weaker.pad1 {N n0 : Nat} {fr : Fr} {h : Heap} : Weaker N n0 fr h fr (h ++ [.dead]) := by
  intro dfs ρ I w a S
  exact ⟨ρ, ⟨S.size, S.defers, S.fr, Rel.weaken (S.rel.pad 1) (fun _ h => h.elim)⟩, (Went.pad ρ I w h 1).toN⟩
theorem Weaker.deadAt {N n0 : Nat} {fr : Fr} {h : Heap} (i : Nat) : Weaker N n0 fr h fr (h.set i .dead) := by
  intro dfs ρ I w a S
  refine ⟨ρ, ⟨S.size, S.defers, S.fr, S.rel.dead i⟩, ⟨fun _ _ _ h => h, fun _ h => h, rfl, rfl, rfl, Nat.le_refl _, fun _ _ _ => rfl, fun b hb => .inl hb.dead, fun b hb => .inl hb⟩⟩
end Go.Lh
end
section
namespace Go.Lh
theorem Wks.vs {I : Nat → Prop} {w : World} {ρ : Ren} {l m : List V} (h : Wks l m) : ∀ {us : List Value}, VsRel I w ρ l us → VsRel I w ρ m us := by
  induction h with
  | nil => exact fun h => h
  | cons h t ih =>
    intro us hv
    cases hv with
    | cons _ _ u _ r h1 h2 => exact .cons _ _ _ _ _ (h _ _ _ _ h1) (ih h2)
theorem Wks.agg {l m : List V} (h : Wks l m) : V.Wk (.agg l) (.agg m) := by
  intro I w ρ u hv
  cases hv with
  | agg _ _ _ hv => exact .agg _ _ _ (h.vs hv)
end Go.Lh
end
