/- A reckoner for functions over a local heap: what each operation does, and that it is sound; numbers of 256 bits. -/
import Derived.Test.YtbgiickegljpoaaDoorLh5
set_option linter.unusedSimpArgs false
set_option linter.unusedVariables false
section
namespace Go.Lh
def renBC (cl : Bool) (τ : Nat → Option Nat) (b : Blk) : Option Blk := match cl, b with
  | true, .vals cs => some (.vals cs)
  | _, b => renB τ b
def subHeapC (h : Heap) (τ : Nat → Option Nat) (cl : List Nat) : List Nat → Option Heap
  | [] => some []
  | i :: r => match h[i]?, subHeapC h τ cl r with
    | some b, some l => (match renBC (memN i cl) τ b with | some b' => some (b' :: l) | none => none)
    | _, _ => none
theorem subHeapC_get {h : Heap} {τ : Nat → Option Nat} {cl : List Nat} : ∀ {rd : List Nat} {hs : Heap}, subHeapC h τ cl rd = some hs → hs.length = rd.length ∧
    ∀ (k i : Nat), rd[k]? = some i → ∃ b b', h[i]? = some b ∧ renBC (memN i cl) τ b = some b' ∧ hs[k]? = some b'
  | [], hs, e => by simp [subHeapC] at e; subst e; simp
  | i :: r, hs, e => by
    simp only [subHeapC] at e
    split at e <;> try simp only [reduceCtorEq] at e
    rename_i b l hb hl
    split at e <;> simp at e
    rename_i b' hb'
    subst e
    obtain ⟨h1, h2⟩ := subHeapC_get hl
    refine ⟨by simp [h1], fun k j hk => ?_⟩
    cases k with
    | zero => simp at hk; subst hk; exact ⟨b, b', hb, hb', rfl⟩
    | succ k => simpa using h2 k j (by simpa using hk)
theorem renBC_dead {cl : Bool} {τ : Nat → Option Nat} {b b' : Blk} (h : renBC cl τ b = some b') : b' = .dead ↔ b = .dead := by
  unfold renBC at h
  split at h
  · cases h; simp
  · exact (renB_at h).2.1
def closed (b : Blk) : Prop := ∀ cs, b = .vals cs → ∀ v, v ∈ cs → v.clo = true
theorem renBC_sound {I : Nat → Prop} {w : World} {cl : Bool} {τ : Nat → Option Nat} {ρ ρ₂ : Ren} (hτ : ∀ i k l, τ i = some k → ρ i = some l → ρ₂ k = some l) {b b' : Blk} {l : Loc} (h : renBC cl τ b = some b') (hc : cl = true → closed b) (hb : BRel I w ρ l b) : BRel I w ρ₂ l b' := by
  unfold renBC at h
  split at h
  · rename_i cs
    cases h
    have hc := hc rfl cs rfl
    obtain ⟨C, e, fz, m1, m2, m3, m4⟩ := hb.mem
    refine ⟨⟨C, e, fz, m1, m2, m3, fun o ho => ?_⟩, hb.fits, hb.ty⟩
    obtain ⟨c, hc1, hc2⟩ := m4 o ho
    refine ⟨c, hc1, ?_⟩
    have ho' : o < cs.length := ho
    have hat : (Blk.vals cs).at o = cs.getD o .any := rfl
    rw [hat] at hc2 ⊢
    have hmm : cs.getD o .any ∈ cs := by
      rw [List.getD_eq_getElem?_getD, List.getElem?_eq_getElem ho']; exact List.getElem_mem ho'
    exact hc2.clo (hc _ hmm)
  · exact renB_sound hτ h hb
section
variable {P : Program} {O : Orc} {N n0 : Nat} {fr : Fr} {h : Heap} {R R' : X → Fr → Heap → Prop} {I : Nat → Prop} {w : World} {ρ : Ren} {F : Nat → Prop}
theorem sub_relC {rd cl : List Nat} {hs2 : Heap} (hnd : rd.Nodup) (R : Rel ρ I w h F) (hcl : ∀ (k i : Nat) (b : Blk), rd[k]? = some i → memN i cl = true → h[i]? = some b → closed b) (hsub : subHeapC h (posOf rd) cl rd = some hs2) :
    (∀ i k q, posOf rd i = some k → ρ i = some q → subRen rd ρ k = some q) ∧ Rel (subRen rd ρ) I w hs2 (fun i => hs2.length ≤ i) ∧ ∀ b, Own (subRen rd ρ) hs2 b → Own ρ h b := by
  obtain ⟨sl, sg⟩ := subHeapC_get hsub
  have hτ : ∀ i k q, posOf rd i = some k → ρ i = some q → subRen rd ρ k = some q := by
    intro i k q hk hq
    simp only [subRen, posOf_get hk, hq]
  have rdloc : ∀ (k i : Nat) (x : Blk), rd[k]? = some i → hs2[k]? = some x → x ≠ .dead → ∃ (b : Blk) (q : Loc), h[i]? = some b ∧ b ≠ .dead ∧ ρ i = some q ∧ BRel I w ρ q b ∧ ¬ I q.b := by
    intro k i x hk hx hxd
    obtain ⟨b, b', hb, hr, hb'⟩ := sg k i hk
    rw [hx] at hb'; cases hb'
    have hne : b ≠ .dead := fun e => hxd ((renBC_dead hr).2 e)
    obtain ⟨q, h1, h2, h3⟩ := R.blk i b hb hne
    exact ⟨b, q, hb, hne, h1, h2, h3⟩
  refine ⟨hτ, ?_, ?_⟩
  · have hout : ∀ i, hs2.length ≤ i → subRen rd ρ i = none := by
      intro i hi
      simp only [subRen]
      rw [List.getElem?_eq_none (by omega)]
    refine ⟨?_, hout, hout, ?_, R.lt⟩
    · intro k b hb hne
      have hk : k < rd.length := by rw [← sl]; exact (List.getElem?_eq_some_iff.1 hb).1
      have hki : rd[k]? = some rd[k] := List.getElem?_eq_getElem hk
      obtain ⟨c, c', hc, hcr, hck⟩ := sg k _ hki
      rw [hb] at hck; cases hck
      have hne : c ≠ .dead := fun e => hne ((renBC_dead hcr).2 e)
      obtain ⟨q, h1, h2, h3⟩ := R.blk _ c hc hne
      exact ⟨q, by simp only [subRen, hki, h1], renBC_sound hτ hcr (fun e => hcl _ _ _ hki e hc) h2, h3⟩
    · intro i j x y li lj hij hx hxd hy hyd hli hlj
      have hi : i < rd.length := by rw [← sl]; exact (List.getElem?_eq_some_iff.1 hx).1
      have hj : j < rd.length := by rw [← sl]; exact (List.getElem?_eq_some_iff.1 hy).1
      have hki := List.getElem?_eq_getElem hi
      have hkj := List.getElem?_eq_getElem hj
      obtain ⟨b1, q1, a1, a2, a3, _⟩ := rdloc i _ _ hki hx hxd
      obtain ⟨b2, q2, c1, c2, c3, _⟩ := rdloc j _ _ hkj hy hyd
      simp only [subRen, hki] at hli
      simp only [subRen, hkj] at hlj
      exact R.apart _ _ b1 b2 li lj (fun (e : rd[i] = rd[j]) => hij (nodup_inj hnd hki (by rw [e]; exact hkj))) a1 a2 c1 c2 hli hlj
  · rintro b ⟨k, x, q, hx, hxd, hq, rfl⟩
    have hk : k < rd.length := by rw [← sl]; exact (List.getElem?_eq_some_iff.1 hx).1
    have hki := List.getElem?_eq_getElem hk
    obtain ⟨c, q2, a1, a2, a3, _⟩ := rdloc k _ _ hki hx hxd
    simp only [subRen, hki] at hq
    exact ⟨_, c, q, a1, a2, hq, rfl⟩
/-- told by the blocks rd and the slots ts; those of cl stay as they are -/
def tellC (n0 : Nat) (rd cl ts : List Nat) (fr : Fr) (h : Heap) : Option (Fr × Heap) :=
  if nodupN rd && prefixOk rd n0 then (match subFr (posOf rd) fr ts, subHeapC h (posOf rd) cl rd with
    | some f, some k => some (f, k)
    | _, _ => none) else none
theorem tellC_weaker {rd cl ts : List Nat} {f2 : Fr} {h2 : Heap} (ht : tellC n0 rd cl ts fr h = some (f2, h2)) (hcl : ∀ (k i : Nat) (b : Blk), rd[k]? = some i → memN i cl = true → h2[k]? = some b → closed b) : Weaker N n0 fr h f2 h2 := by
  unfold tellC at ht
  split at ht <;> try simp only [reduceCtorEq] at ht
  rename_i hc
  rw [Bool.and_eq_true] at hc
  split at ht <;> simp only [Option.some.injEq, Prod.mk.injEq, reduceCtorEq] at ht
  rename_i f k hf hk
  obtain ⟨rfl, rfl⟩ := ht
  intro dfs ρ I w a S
  have hcl2 : ∀ (k i : Nat) (b : Blk), rd[k]? = some i → memN i cl = true → h[i]? = some b → closed b := by
    intro k i b hk1 hm hb cs e
    subst e
    obtain ⟨b0, b', hb0, hr, hb'⟩ := (subHeapC_get hk).2 k i hk1
    rw [hb] at hb0; cases hb0
    rw [hm] at hr
    simp only [renBC] at hr
    cases hr
    exact hcl k i _ hk1 hm hb' cs rfl
  obtain ⟨h1, h2, h3⟩ := sub_relC (nodupN_iff hc.1) S.rel hcl2 hk
  refine ⟨subRen rd ρ, ⟨S.size, S.defers, ?_, h2.weaken (fun _ h => h.elim)⟩, sub_went hc.2 h3⟩
  intro t u hu
  obtain ⟨v, hv, hr⟩ := subFr_get hf t u hu
  exact renV_sound h1 (S.fr t v hv) hr
end
/-- how a state is to be told: the slots, the blocks, those that stay as they are -/
structure Tell where
  ts : List Nat
  rd : List Nat
  cl : List Nat
/-- the blocks that stay as they are are closed -/
def Tell.clo (t : Tell) (g : Heap) : Prop := ∀ (k i : Nat) (b : Blk), t.rd[k]? = some i → memN i t.cl = true → g[k]? = some b → closed b
def tellT (n0 : Nat) (t : Tell) (x : X) (fr : Fr) (h : Heap) : Tr (X × Fr × Heap) := match tellC n0 t.rd t.cl t.ts fr h with
  | some q => .leaf (x, q)
  | none => .no
/-- code, and its end told by slots and blocks -/
def execBC (P : Program) (T : OrcT) (L : LoopsT) (fuel : Nat) (n0 : Nat) (on off : Tell) (c : Code) (fr : Fr) (h : Heap) : Tr (X × Fr × Heap) :=
  (execB P T L fuel c fr h).bind fun p => match p with
    | (.normal, fr', h') => tellT n0 on .normal fr' h'
    | (.pan v, r) => .leaf (.pan v, r)
    | (x, fr', h') => tellT n0 off x fr' h'
theorem tellT_is {N n0 : Nat} {t : Tell} {x : X} {fr : Fr} {h : Heap} {r : X × Fr × Heap} (hx : (tellT n0 t x fr h).is r) (hc : t.clo r.2.2) : r.1 = x ∧ Weaker N n0 fr h r.2.1 r.2.2 := by
  unfold tellT at hx
  split at hx
  · rename_i q ht
    rw [Tr.is_leaf] at hx
    subst hx
    exact ⟨rfl, tellC_weaker ht hc⟩
  · exact (Tr.is_no.1 hx).elim
theorem execBC_sound {P : Program} {T : OrcT} {N n0 : Nat} {fr : Fr} {h : Heap} (hO : OrcSound P T.o) (hm : P.follows .mixedOrders = true) {L : LoopsT} {fuel : Nat} {on off : Tell} {c : Code} {r : X × Fr × Heap}
    (hL : ∀ d, d ∈ loopsOf c → LoopOk P N n0 L.o d) (hd : dstsIn N c = true)
    (hx : (execBC P T L fuel n0 on off c fr h).is r) (hon : on.clo r.2.2) (hoff : off.clo r.2.2) : Runs P N n0 c fr h (EndW N n0 r.1 r.2.1 r.2.2) := by
  unfold execBC at hx
  rw [Tr.is_bind] at hx
  obtain ⟨⟨x, fr', h'⟩, h1, h2⟩ := hx
  have H := execD_sound hO hm c hL _ _ _ _ _ hd (execB_is h1)
  have go : ∀ {t : Tell} {y : X}, (∀ v, y ≠ .pan v) → y = x → t.clo r.2.2 → (tellT n0 t y fr' h').is r → Runs P N n0 c fr h (EndW N n0 r.1 r.2.1 r.2.2) := by
    intro t y hy e hcl ht
    subst e
    obtain ⟨e1, hw2⟩ := tellT_is (N := N) ht hcl
    refine H.mono ?_
    rintro z f k hz
    rw [e1]
    cases y with
    | pan v => exact absurd rfl (hy v)
    | normal => obtain ⟨rfl, hw⟩ := hz; exact ⟨rfl, Weaker.trans hw hw2⟩
    | ret => obtain ⟨rfl, hw⟩ := hz; exact ⟨rfl, Weaker.trans hw hw2⟩
    | exit i => obtain ⟨rfl, hw⟩ := hz; exact ⟨rfl, Weaker.trans hw hw2⟩
  cases x with
  | normal => exact go (fun v e => by cases e) rfl hon h2
  | pan v =>
    simp only at h2
    rw [Tr.is_leaf] at h2
    subst h2
    exact H
  | exit id => exact go (fun v e => by cases e) rfl hoff h2
  | ret => exact go (fun v e => by cases e) rfl hoff h2
/-- a loop that goes from state to state -/
theorem whC_at {P : Program} {T : OrcT} (hO : OrcSound P T.o) (hm : P.follows .mixedOrders = true) {L : LoopsT} {fn : Func} {n0 : Nat} {α : Type} {id : Nat} {slots : List Nat} {read : Fr → Heap → Option α} {ok : α → Bool} {E : α → Tr (X × Fr × Heap)} {k : Nat} (S : α → Fr × Heap) (μ : α → Nat)
    (hid : headNo (loopBody fn k) = id) (hk : Nat.blt k (loopsOf (fn.body.getD .skip)).length = true) (hd : dstsIn fn.ntmps (loopBody fn k) = true) (hL : LoopsOk P fn n0 L.o) (hr : ∀ f g a, read f g = some a → (f, g) = S a)
    (round : ∀ a q, ok a = true → (E a).is q → ∃ on off fuel, (execBC P T L fuel n0 on off (loopBody fn k) (S a).1 (S a).2).wp fun r => (on.clo r.2.2 ∧ off.clo r.2.2) ∧ ((r.1 = .normal ∧ ∃ a', r.2 = S a' ∧ ok a' = true ∧ μ a' < μ a ∧ (E a').is q) ∨ (r.1 ≠ .normal ∧ r = q))) :
    SmAtT P fn n0 (whT id slots read ok E) k := by
  refine ⟨hid, Nat.le_of_ble_eq_true hk, ?_⟩
  intro fr h q e
  simp only [whT] at e
  split at e
  · rename_i a ha
    rw [Tr.is_mk] at e
    have hS := hr _ _ _ ha
    obtain ⟨e1, e2⟩ : fr = (S a).1 ∧ h = (S a).2 := by rw [← hS]; exact ⟨rfl, rfl⟩
    subst e1; subst e2
    refine Runs.rounds (fun a => S a) (fun b => ok b = true ∧ (E b).is q) μ a ⟨e.1, e.2⟩ ?_
    rintro b ⟨hb, hE⟩
    obtain ⟨on, off, fuel, hw⟩ := round b q hb hE
    obtain ⟨⟨x, f1, g1⟩, h1, ⟨hc1, hc2⟩, h2⟩ := Tr.wp_is hw
    have H := execBC_sound hO hm (LoopsOk.innerAt hL k) hd h1 hc1 hc2
    rcases h2 with ⟨hx, a', q1, q2, q3, q4⟩ | ⟨hx, rfl⟩
    · simp only at hx; subst hx
      simp only at q1
      refine .inl ⟨a', ⟨q2, q4⟩, q3, ?_⟩
      have : f1 = (S a').1 ∧ g1 = (S a').2 := by rw [← q1]; exact ⟨rfl, rfl⟩
      rw [← this.1, ← this.2]; exact H
    · exact .inr ⟨_, _, _, hx, H, fun f g hw => hw⟩
  · exact (Tr.is_no.1 e).elim
/-- a loop that counts -/
theorem cntC_at {P : Program} {T : OrcT} (hO : OrcSound P T.o) (hm : P.follows .mixedOrders = true) {L : LoopsT} {fn : Func} {n0 : Nat} {α : Type} {id : Nat} {slots : List Nat} {read : Fr → Heap → Option α} {ok : α → Bool} {E : α → Tr (X × Fr × Heap)} {k : Nat} (S : α → Nat → Fr × Heap) (m : α → Nat)
    (hid : headNo (loopBody fn k) = id) (hk : Nat.blt k (loopsOf (fn.body.getD .skip)).length = true) (hd : dstsIn fn.ntmps (loopBody fn k) = true) (hL : LoopsOk P fn n0 L.o) (hr : ∀ f g a, read f g = some a → (f, g) = S a 0)
    (round : ∀ a q, ok a = true → (E a).is q → ∀ n, n ≤ m a → ∃ on off fuel, (execBC P T L fuel n0 on off (loopBody fn k) (S a n).1 (S a n).2).wp fun r => (on.clo r.2.2 ∧ off.clo r.2.2) ∧ ((r.1 = .normal ∧ n < m a ∧ r.2 = S a (n + 1)) ∨ (r.1 ≠ .normal ∧ r = q))) :
    SmAtT P fn n0 (whT id slots read ok E) k := by
  refine ⟨hid, Nat.le_of_ble_eq_true hk, ?_⟩
  intro fr h q e
  simp only [whT] at e
  split at e
  · rename_i a ha
    rw [Tr.is_mk] at e
    have hS := hr _ _ _ ha
    obtain ⟨e1, e2⟩ : fr = (S a 0).1 ∧ h = (S a 0).2 := by rw [← hS]; exact ⟨rfl, rfl⟩
    subst e1; subst e2
    refine Runs.rounds (S a) (fun n => n ≤ m a) (fun n => m a - n) 0 (Nat.zero_le _) ?_
    intro n hn
    obtain ⟨on, off, fuel, hw⟩ := round a q e.1 e.2 n hn
    obtain ⟨⟨x, f1, g1⟩, h1, ⟨hc1, hc2⟩, h2⟩ := Tr.wp_is hw
    have H := execBC_sound hO hm (LoopsOk.innerAt hL k) hd h1 hc1 hc2
    rcases h2 with ⟨hx, q1, q2⟩ | ⟨hx, rfl⟩
    · simp only at hx; subst hx
      simp only at q2
      refine .inl ⟨n + 1, q1, by omega, ?_⟩
      have : f1 = (S a (n + 1)).1 ∧ g1 = (S a (n + 1)).2 := by rw [← q2]; exact ⟨rfl, rfl⟩
      rw [← this.1, ← this.2]; exact H
    · exact .inr ⟨_, _, _, hx, H, fun f g hw => hw⟩
  · exact (Tr.is_no.1 e).elim
/-- cut: the first part comes to one of these states, each of which goes on to the end -/
theorem EndsIn.cutC {P : Program} {T : OrcT} {L : LoopsT} {fuel n0 : Nat} {fn : Func} {c : Code} {fr : Fr} {h : Heap} {fin : Fin} {h' : Heap} {α : Type} {sh : Tr.Sh} {t : Tr (X × Fr × Heap)} {on off : Tell} (k : Nat) (S : α → Fr × Heap) (ok : α → Prop) (hO : OrcSound P T.o) (hm : P.follows .mixedOrders = true) (hc : cutOk k c = true) (hL : ∀ d, d ∈ loopsOf c → LoopOk P fn.ntmps n0 L.o d) (hd : dstsIn fn.ntmps c = true)
    (hx : Tr.prune sh (execBC P T L fuel n0 on off (takeSeq k c) fr h) = t) (hw : t.wp fun r => ∃ a, ok a ∧ r = (.normal, (S a).1, (S a).2) ∧ on.clo (S a).2)
    (H : ∀ a, ok a → EndsIn P fn n0 (dropSeq k c) (S a).1 (S a).2 fin h') : EndsIn P fn n0 c fr h fin h' := by
  obtain ⟨r, h1, a, ha, rfl, hcl⟩ := Tr.wp_is (Tr.wp_prune hx hw)
  unfold execBC at h1
  rw [Tr.is_bind] at h1
  obtain ⟨⟨x, fr', g'⟩, h2, h3⟩ := h1
  cases x with
  | normal => exact cut_runs hO hm hc hL hd h2 (Runs.weaken (tellT_is h3 hcl).2 (H a ha))
  | pan v => simp only at h3; rw [Tr.is_leaf] at h3; cases h3
  | exit _ =>
    simp only [tellT] at h3
    split at h3
    · rw [Tr.is_leaf] at h3; cases h3
    · exact (Tr.is_no.1 h3).elim
  | ret =>
    simp only [tellT] at h3
    split at h3
    · rw [Tr.is_leaf] at h3; cases h3
    · exact (Tr.is_no.1 h3).elim
end Go.Lh
end
section
namespace Go.Lh
/-- code whose drawn regions may panic, also within blocks -/
def execBY (P : Program) (T : OrcT) (L : LoopsT) (fuel : Nat) : Code → Fr → Heap → Tr (X × Fr × Heap)
  | .seq a b, fr, h => (execBY P T L fuel a fr h).bind fun p => match p with
    | (.normal, fr', h') => execBY P T L fuel b fr' h'
    | r => .leaf r
  | .cond c x y, fr, h => (match opnd fr.get c with
    | some (.bool t) => .br t (execBY P T L fuel x (setOp c true fr) h) (execBY P T L fuel y (setOp c false fr) h)
    | _ => .no)
  | .block id c, fr, h => (execBY P T L fuel c fr h).bind fun p => match p with
    | (.exit i, r) => if Nat.beq i id then .leaf (.normal, r) else .leaf (.exit i, r)
    | r => .leaf r
  | c, fr, h => execBX P T L fuel c fr h
section
variable {P : Program} {T : OrcT} {N n0 : Nat} {L : LoopsT} {fuel : Nat}
theorem execBY_sound (hO : OrcSound P T.o) (hm : P.follows .mixedOrders = true) : ∀ (c : Code) (_ : ∀ d, d ∈ loopsOf c → LoopOk P N n0 L.o d) (fr : Fr) (h : Heap) (x : X) (fr' : Fr) (h' : Heap), dstsIn N c = true →
    (execBY P T L fuel c fr h).is (x, fr', h') → Runs P N n0 c fr h (EndW N n0 x fr' h') := by
  intro c
  induction c with
  | seq a b iha ihb =>
    intro hL fr h x fr' h' hd hx
    simp only [dstsIn, Bool.and_eq_true] at hd
    rw [execBY, Tr.is_bind] at hx
    obtain ⟨⟨y, f1, h1⟩, g1, g2⟩ := hx
    refine .seq ((iha (fun d hd => hL d (by simp [loopsOf, hd])) _ _ _ _ _ hd.1 g1).mono ?_)
    rintro z f k ⟨rfl, hw⟩
    cases z with
    | normal => exact (ihb (fun d hd => hL d (by simp [loopsOf, hd])) _ _ _ _ _ hd.2 g2).weaken hw
    | exit _ => simp only at g2; rw [Tr.is_leaf] at g2; cases g2; exact ⟨rfl, hw⟩
    | ret => simp only at g2; rw [Tr.is_leaf] at g2; cases g2; exact ⟨rfl, hw⟩
    | pan _ => simp only at g2; rw [Tr.is_leaf] at g2; cases g2; exact ⟨rfl, hw⟩
  | cond o a b iha ihb =>
    intro hL fr h x fr' h' hd hx
    simp only [dstsIn, Bool.and_eq_true] at hd
    rw [execBY] at hx
    split at hx
    · rename_i t ho
      refine .cond ho ?_
      rw [Tr.is_br] at hx
      cases t with
      | true =>
        rw [if_pos rfl, setOp_same ho] at hx
        exact iha (fun d hd => hL d (by simp [loopsOf, hd])) _ _ _ _ _ hd.1 hx
      | false =>
        rw [if_neg (by decide), setOp_same ho] at hx
        exact ihb (fun d hd => hL d (by simp [loopsOf, hd])) _ _ _ _ _ hd.2 hx
    · exact (Tr.is_no.1 hx).elim
  | block id c ih =>
    intro hL fr h x fr' h' hd hx
    simp only [dstsIn] at hd
    rw [execBY, Tr.is_bind] at hx
    obtain ⟨⟨y, f1, h1⟩, g1, g2⟩ := hx
    refine .block ((ih (fun d hd => hL d (by simp [loopsOf, hd])) _ _ _ _ _ hd g1).mono ?_)
    rintro z f k ⟨rfl, hw⟩
    cases z with
    | exit i =>
      simp only at g2
      simp only [inBlockX]
      split at g2
      · rename_i e
        have e := Nat.eq_of_beq_eq_true e
        rw [Tr.is_leaf] at g2; cases g2
        rw [if_pos e]
        exact ⟨rfl, hw⟩
      · rename_i e
        rw [Tr.is_leaf] at g2; cases g2
        rw [if_neg (fun e2 => e (by rw [e2]; exact Nat.beq_refl _))]
        exact ⟨rfl, hw⟩
    | normal => simp only at g2; rw [Tr.is_leaf] at g2; cases g2; exact ⟨rfl, hw⟩
    | ret => simp only at g2; rw [Tr.is_leaf] at g2; cases g2; exact ⟨rfl, hw⟩
    | pan _ => simp only at g2; rw [Tr.is_leaf] at g2; cases g2; exact ⟨rfl, hw⟩
  | _ => exact fun hL fr h x fr' h' hd hx => execBX_sound hO hm _ hL _ _ _ _ _ hd (by rw [execBY] at hx <;> first | exact hx | (intros; rename_i e; cases e))
end
/-- a block of the end is forgotten -/
theorem Rel.dead {ρ : Ren} {I : Nat → Prop} {w : World} {h : Heap} {F : Nat → Prop} (R : Rel ρ I w h F) (i : Nat) : Rel ρ I w (h.set i .dead) F where
  blk k b hb hd := by
    rw [List.getElem?_set] at hb
    split at hb
    · split at hb
      · cases hb; exact absurd rfl hd
      · cases hb
    · exact R.blk k b hb hd
  free := R.free
  out k hk := R.out k (by simpa using hk)
  apart k j x y l l' hkj hx hxd hy hyd hl hl' := by
    rw [List.getElem?_set] at hx hy
    split at hx
    · split at hx
      · cases hx; exact absurd rfl hxd
      · cases hx
    · split at hy
      · split at hy
        · cases hy; exact absurd rfl hyd
        · cases hy
      · exact R.apart k j x y l l' hkj hx hxd hy hyd hl hl'
  lt := R.lt
theorem LFn.dead {P : Program} {f : FuncId} {args : List V} {h : Heap} {fin : Fin} {h' : Heap} (H : LFn P f args h fin h') (i : Nat) : LFn P f args h fin (h'.set i .dead) := by
  intro ρ I w args' R ha
  refine Calls.mono (H ρ I w args' R ha) ?_
  rintro e w' ⟨ρ', I', R', W, hf⟩
  refine ⟨ρ', I', by simpa using (R'.dead i).weaken (F := _) (fun k hk => by simpa using hk), ?_, hf⟩
  refine ⟨W.ren, W.imm, W.os, W.tape, W.output, W.size, W.keep, ?_, W.fresh⟩
  rintro b ⟨k, x, l, hx, hxd, hl, rfl⟩
  refine W.own _ ⟨k, x, l, ?_, hxd, hl, rfl⟩
  rw [List.getElem?_set] at hx
  split at hx
  · split at hx
    · cases hx; exact absurd rfl hxd
    · cases hx
  · exact hx
/-- the same, but for a block that is forgotten -/
def DeadOf (g h : Heap) : Prop := g = h ∨ ∃ i, h = g.set i .dead
theorem Own.dead {ρ : Ren} {h : Heap} {i b : Nat} (H : Own ρ (h.set i .dead) b) : Own ρ h b := by
  obtain ⟨k, x, l, hx, hxd, hl, rfl⟩ := H
  refine ⟨k, x, l, ?_, hxd, hl, rfl⟩
  rw [List.getElem?_set] at hx
  split at hx
  · split at hx
    · cases hx; exact absurd rfl hxd
    · cases hx
  · exact hx
theorem FinW.dead {n0 : Nat} {f0 fin : Fin} {h g h' : Heap} (H : FinW n0 f0 h fin g) (hd : DeadOf g h') : FinW n0 f0 h fin h' := by
  rcases hd with rfl | ⟨i, rfl⟩
  · exact H
  · intro ρ I w R
    obtain ⟨ρ', r, W, hf⟩ := H ρ I w R
    exact ⟨ρ', by simpa using (r.dead i).weaken (fun k hk => by simpa using hk), ⟨W.ren, W.imm, W.os, W.tape, W.output, W.size, W.keep, fun b hb => W.own b hb.dead, W.fresh⟩, hf⟩
theorem EndX.dead {P : Program} {fn : Func} {n0 : Nat} {fin : Fin} {g h' : Heap} {x : X} {fr : Fr} {h : Heap} (hd : DeadOf g h') (H : EndX P fn n0 fin g x fr h) : EndX P fn n0 fin h' x fr h := by
  cases x with
  | normal => obtain ⟨f1, h1, v, a, b, c⟩ := H; exact ⟨f1, h1, v, a, b, c.dead hd⟩
  | ret => obtain ⟨f1, h1, v, a, b, c⟩ := H; exact ⟨f1, h1, v, a, b, c.dead hd⟩
  | pan v => exact FinW.dead H hd
  | exit _ => exact H
theorem LFn.deadOf {P : Program} {f : FuncId} {args : List V} {h : Heap} {fin : Fin} {g h' : Heap} (H : LFn P f args h fin g) (hd : DeadOf g h') : LFn P f args h fin h' := by
  rcases hd with rfl | ⟨i, rfl⟩
  · exact H
  · exact H.dead i
theorem fnTD {P : Program} {T : OrcT} (hO : OrcSound P T.o) (hm : P.follows .mixedOrders = true) {L : LoopsT} {fuel : Nat} {f : FuncId} {fn : Func} {args : List V} {h : Heap} {fin : Fin} {h' : Heap} {sh : Tr.Sh} {t : Tr (Fin × Heap)} (hf : P.funcs[f]? = some fn)
    (hL : LoopsOk P fn h.length L.o) (hx : Tr.prune sh (execBF P T L fuel fn args h) = t) (hw : t.wp (fun r => r.1 = fin ∧ DeadOf r.2 h')) : LFn P f args h fin h' := by
  obtain ⟨⟨f1, g⟩, h1, rfl, h2⟩ := Tr.wp_is (Tr.wp_prune hx hw)
  exact (execBF_sound hO hm hf hL h1).deadOf h2
/-- where it goes on or leaves a block, told by slots and blocks; else the function's end -/
def execBYE (P : Program) (T : OrcT) (L : LoopsT) (fuel : Nat) (fn : Func) (n0 : Nat) (on off : Tell) (c : Code) (fr : Fr) (h : Heap) : Tr ((Fin × Heap) ⊕ (X × Fr × Heap)) :=
  (execBY P T L fuel c fr h).bind fun p => match p with
    | (.normal, fr', h') => (tellT n0 on .normal fr' h').bind fun q => .leaf (.inr q)
    | (.exit i, fr', h') => (tellT n0 off (.exit i) fr' h').bind fun q => .leaf (.inr q)
    | (.ret, fr', h') => (retT P fn n0 fr' h').bind fun q => .leaf (.inl q)
    | (.pan v, _, h') => (match compact n0 (.pan v) h' with | some p => .leaf (.inl p) | none => .no)
def ExW (P : Program) (fn : Func) (n0 : Nat) (q : (Fin × Heap) ⊕ (X × Fr × Heap)) : X → Fr → Heap → Prop := match q with
  | .inl e => fun y f k => y ≠ .normal ∧ EndX P fn n0 e.1 e.2 y f k
  | .inr r => EndW fn.ntmps n0 r.1 r.2.1 r.2.2
def CloW (on off : Tell) (q : (Fin × Heap) ⊕ (X × Fr × Heap)) : Prop := match q with
  | .inl _ => True
  | .inr (.normal, _, h) => on.clo h
  | .inr (_, _, h) => off.clo h
theorem bye_end {P : Program} {fn : Func} {n0 : Nat} {on off : Tell} {x : X} {fr' : Fr} {h' : Heap} {q : (Fin × Heap) ⊕ (X × Fr × Heap)}
    (h2 : (match (x, fr', h') with
      | (.normal, fr', h') => (tellT n0 on .normal fr' h').bind fun q => .leaf (.inr q)
      | (.exit i, fr', h') => (tellT n0 off (.exit i) fr' h').bind fun q => .leaf (.inr q)
      | (.ret, fr', h') => (retT P fn n0 fr' h').bind fun q => .leaf (.inl q)
      | (.pan v, _, h') => (match compact n0 (.pan v) h' with | some p => .leaf (.inl p) | none => .no) : Tr ((Fin × Heap) ⊕ (X × Fr × Heap))).is q) (hc : CloW on off q) {y : X} {f : Fr} {k : Heap} (hw : EndW fn.ntmps n0 x fr' h' y f k) : ExW P fn n0 q y f k := by
  have fst : ∀ {t : Tell} {z : X} {r : X × Fr × Heap}, (tellT n0 t z fr' h').is r → r.1 = z := by
    intro t y r ht
    unfold tellT at ht
    split at ht
    · rw [Tr.is_leaf] at ht; rw [← ht]
    · exact (Tr.is_no.1 ht).elim
  cases x with
  | normal =>
    simp only at h2
    rw [Tr.is_bind] at h2
    obtain ⟨⟨x1, f1, g1⟩, h3, h4⟩ := h2
    rw [Tr.is_leaf] at h4
    subst h4
    have e := fst h3
    simp only at e
    subst e
    obtain ⟨rfl, hw⟩ := hw
    exact ⟨rfl, Weaker.trans hw (tellT_is h3 hc).2⟩
  | exit i =>
    simp only at h2
    rw [Tr.is_bind] at h2
    obtain ⟨⟨x1, f1, g1⟩, h3, h4⟩ := h2
    rw [Tr.is_leaf] at h4
    subst h4
    have e := fst h3
    simp only at e
    subst e
    obtain ⟨rfl, hw⟩ := hw
    exact ⟨rfl, Weaker.trans hw (tellT_is h3 hc).2⟩
  | ret =>
    simp only at h2
    rw [Tr.is_bind] at h2
    obtain ⟨r, h3, h4⟩ := h2
    rw [Tr.is_leaf] at h4
    subst h4
    exact ⟨fun e => (by have h9 := hw.1; rw [e] at h9; cases h9), endT_sound (P := P) (x := .ret) h3 hw⟩
  | pan v =>
    simp only at h2
    split at h2
    · rename_i p ep
      rw [Tr.is_leaf] at h2
      subst h2
      obtain ⟨rfl, rfl, rfl⟩ := hw
      exact And.intro (fun e => by cases e) (tellFin_sound ep)
    · exact (Tr.is_no.1 h2).elim
section
variable {P : Program} {T : OrcT} {L : LoopsT} {n0 : Nat} {fn : Func} {fin : Fin} {h' : Heap}
theorem execBYE_sound (hO : OrcSound P T.o) (hm : P.follows .mixedOrders = true) {fuel : Nat} {on off : Tell} {c : Code} {fr : Fr} {h : Heap} {q : (Fin × Heap) ⊕ (X × Fr × Heap)}
    (hL : ∀ d, d ∈ loopsOf c → LoopOk P fn.ntmps n0 L.o d) (hd : dstsIn fn.ntmps c = true) (hx : (execBYE P T L fuel fn n0 on off c fr h).is q) (hc : CloW on off q) : Runs P fn.ntmps n0 c fr h (ExW P fn n0 q) := by
  unfold execBYE at hx
  rw [Tr.is_bind] at hx
  obtain ⟨⟨x, fr', g⟩, h1, h2⟩ := hx
  exact (execBY_sound hO hm c hL _ _ _ _ _ hd h1).mono fun y f k hw => bye_end h2 hc hw
/-- a loop, round by round, to the function's end -/
theorem EndsIn.loop {α : Type} {id : Nat} {c rest : Code} (S : α → Fr × Heap) (μ : α → Nat) (ok : α → Prop) (hO : OrcSound P T.o) (hm : P.follows .mixedOrders = true) (hL : ∀ d, d ∈ loopsOf c → LoopOk P fn.ntmps n0 L.o d) (hd : dstsIn fn.ntmps c = true)
    (round : ∀ a, ok a → ∃ on off fuel, (execBYE P T L fuel fn n0 on off c (S a).1 (S a).2).wp fun q => CloW on off q ∧
      ((∃ a', q = .inr (.normal, S a') ∧ ok a' ∧ μ a' < μ a) ∨ (∃ f g, q = .inr (.exit id, f, g) ∧ EndsIn P fn n0 rest f g fin h') ∨ ∃ g, q = .inl (fin, g) ∧ DeadOf g h'))
    {a0 : α} (h0 : ok a0) : EndsIn P fn n0 (.seq (.block id (.loop c)) rest) (S a0).1 (S a0).2 fin h' := by
  refine Runs.seq (Runs.block (Runs.loop (fun n fr h => ∃ a, ok a ∧ μ a = n ∧ fr = (S a).1 ∧ h = (S a).2) (n := μ a0) ⟨a0, h0, rfl, rfl, rfl⟩ ?_))
  rintro n fr h ⟨a, ha, rfl, rfl, rfl⟩
  obtain ⟨on, off, fuel, hw⟩ := round a ha
  obtain ⟨q, h1, hc, h2⟩ := Tr.wp_is hw
  have H := execBYE_sound hO hm hL hd h1 hc
  rcases h2 with ⟨a', rfl, q2, q3⟩ | ⟨f1, g1, rfl, hE⟩ | ⟨g, rfl, hdd⟩
  · refine H.mono ?_
    rintro y f k ⟨hy, hwk⟩
    simp only at hy
    subst hy
    exact ⟨μ a', (S a').1, (S a').2, q3, ⟨a', q2, rfl, rfl, rfl⟩, hwk⟩
  · refine H.mono ?_
    rintro y f k ⟨hy, hwk⟩
    simp only at hy
    subst hy
    simp only [thenX, inBlockX, if_true]
    exact Runs.weaken hwk hE
  · refine H.mono ?_
    rintro y f k ⟨hy, hE⟩
    have hE : EndX P fn n0 fin h' y f k := EndX.dead hdd hE
    cases y with
    | normal => exact absurd rfl hy
    | exit _ => exact hE.elim
    | ret => exact hE
    | pan _ => exact hE
theorem cutY_runs (hO : OrcSound P T.o) (hm : P.follows .mixedOrders = true) {fuel : Nat} : ∀ {k : Nat} {c : Code} {fr : Fr} {h : Heap} {x : X} {fr' : Fr} {g' : Heap} {R : X → Fr → Heap → Prop}, cutOk k c = true → (∀ d, d ∈ loopsOf c → LoopOk P fn.ntmps n0 L.o d) → dstsIn fn.ntmps c = true →
    (execBY P T L fuel (takeSeq k c) fr h).is (x, fr', g') → (x = .normal → Runs P fn.ntmps n0 (dropSeq k c) fr' g' R) → (x ≠ .normal → ∀ y f k, EndW fn.ntmps n0 x fr' g' y f k → R y f k) → Runs P fn.ntmps n0 c fr h R
  | 0, .seq a b, fr, h, x, fr', g', R, _, hL, hd, hx, H, H2 => by
    simp only [dstsIn, Bool.and_eq_true] at hd
    refine .seq ((execBY_sound hO hm a (fun d hd => hL d (by simp [loopsOf, hd])) _ _ _ _ _ hd.1 hx).mono ?_)
    rintro y f g hw
    have hy : y = x := hw.1
    subst hy
    cases y with
    | normal => exact Runs.weaken hw.2 (H rfl)
    | exit _ => exact H2 (fun e => by cases e) _ _ _ hw
    | ret => exact H2 (fun e => by cases e) _ _ _ hw
    | pan _ => exact H2 (fun e => by cases e) _ _ _ hw
  | k + 1, .seq a b, fr, h, x, fr', g', R, hc, hL, hd, hx, H, H2 => by
    simp only [dstsIn, Bool.and_eq_true] at hd
    simp only [takeSeq, execBY] at hx
    rw [Tr.is_bind] at hx
    obtain ⟨⟨z, fr2, h2⟩, h3, h4⟩ := hx
    refine .seq ((execBY_sound hO hm a (fun d hd => hL d (by simp [loopsOf, hd])) _ _ _ _ _ hd.1 h3).mono ?_)
    rintro y f g hw
    have hy : y = z := hw.1
    subst hy
    cases y with
    | normal => exact Runs.weaken hw.2 (cutY_runs hO hm (k := k) hc (fun d hd => hL d (by simp [loopsOf, hd])) hd.2 h4 H H2)
    | exit _ => simp only at h4; rw [Tr.is_leaf] at h4; cases h4; exact H2 (fun e => by cases e) _ _ _ hw
    | ret => simp only at h4; rw [Tr.is_leaf] at h4; cases h4; exact H2 (fun e => by cases e) _ _ _ hw
    | pan _ => simp only at h4; rw [Tr.is_leaf] at h4; cases h4; exact H2 (fun e => by cases e) _ _ _ hw
/-- cut: the first part may come to the function's end itself -/
theorem EndsIn.cutY {fuel : Nat} {c : Code} {fr : Fr} {h : Heap} {sh : Tr.Sh} {t : Tr ((Fin × Heap) ⊕ (X × Fr × Heap))} {on off : Tell} (k : Nat) (hO : OrcSound P T.o) (hm : P.follows .mixedOrders = true) (hc : cutOk k c = true) (hL : ∀ d, d ∈ loopsOf c → LoopOk P fn.ntmps n0 L.o d) (hd : dstsIn fn.ntmps c = true)
    (hx : Tr.prune sh (execBYE P T L fuel fn n0 on off (takeSeq k c) fr h) = t)
    (hw : t.wp fun q => CloW on off q ∧ ((∃ f g, q = .inr (.normal, f, g) ∧ EndsIn P fn n0 (dropSeq k c) f g fin h') ∨ ∃ g, q = .inl (fin, g) ∧ DeadOf g h')) : EndsIn P fn n0 c fr h fin h' := by
  obtain ⟨q, h1, hcl, h2⟩ := Tr.wp_is (Tr.wp_prune hx hw)
  unfold execBYE at h1
  rw [Tr.is_bind] at h1
  obtain ⟨⟨x, fr', g'⟩, h3, h4⟩ := h1
  have H := fun y f k hw => bye_end (y := y) (f := f) (k := k) h4 hcl hw
  have en : ∀ {g}, q = .inl (fin, g) → DeadOf g h' → ∀ y f k, EndW fn.ntmps n0 x fr' g' y f k → EndX P fn n0 fin h' y f k := by
    rintro g rfl hdd y f k hw
    exact EndX.dead hdd (H y f k hw).2
  have nin : ∀ {f : Fr} {g : Heap}, q = .inr (.normal, f, g) → x = .normal := by
    rintro f g rfl
    exact (H x fr' g' .rfl).1
  rcases h2 with ⟨f1, g1, rfl, hE⟩ | ⟨g, rfl, hdd⟩
  · have hx := nin rfl
    subst hx
    exact cutY_runs hO hm hc hL hd h3 (fun _ => Runs.weaken (H _ _ _ .rfl).2 hE) (fun e => absurd rfl e)
  · refine cutY_runs hO hm hc hL hd h3 (fun e => ?_) (fun _ => en rfl hdd)
    subst e
    exact absurd rfl (H _ _ _ .rfl).1
/-- code that comes to its end, some of its regions drawn -/
def execBRY (P : Program) (T : OrcT) (L : LoopsT) (fuel : Nat) (fn : Func) (n0 : Nat) (c : Code) (fr : Fr) (h : Heap) : Tr (Fin × Heap) :=
  (execBY P T L fuel c fr h).bind (endT P fn n0)
theorem EndsIn.lastY {fuel : Nat} {c : Code} {fr : Fr} {h : Heap} {sh : Tr.Sh} {t : Tr (Fin × Heap)} (hO : OrcSound P T.o) (hm : P.follows .mixedOrders = true) (hL : ∀ d, d ∈ loopsOf c → LoopOk P fn.ntmps n0 L.o d) (hd : dstsIn fn.ntmps c = true)
    (hx : Tr.prune sh (execBRY P T L fuel fn n0 c fr h) = t) (hw : t.wp fun r => r.1 = fin ∧ DeadOf r.2 h') : EndsIn P fn n0 c fr h fin h' := by
  obtain ⟨⟨f1, g⟩, hx, rfl, hdd⟩ := Tr.wp_is (Tr.wp_prune hx hw)
  unfold execBRY at hx
  rw [Tr.is_bind] at hx
  obtain ⟨⟨x, fr', g'⟩, h1, h2⟩ := hx
  exact (execBY_sound hO hm c hL _ _ _ _ _ hd h1).mono (fun _ _ _ hw => EndX.dead hdd (endT_sound h2 hw))
end
end Go.Lh
end
section
namespace Go.Lh
section
variable {P : Program} {T : OrcT} {L : LoopsT} {fuel : Nat} {N n0 : Nat}
theorem wp_cut (hO : OrcSound P T.o) (hm : P.follows .mixedOrders = true) : ∀ {k : Nat} {c : Code} {fr : Fr} {h : Heap} {x : X} {fr' : Fr} {g' : Heap}, cutOk k c = true → (∀ d, d ∈ loopsOf c → LoopOk P N n0 L.o d) → dstsIn N c = true →
    (execBY P T L fuel (takeSeq k c) fr h).is (x, fr', g') → ∀ (Q : Exit → Act → World → Prop) (dfs : List Deferred) (ρ : Ren) (I : Nat → Prop) (w : World) (a : Act), Sim N dfs ρ I w a fr.get h (fun _ => False) →
      (∀ ρ' I' w' a' e, ERel I' w' ρ' x e → Sim N dfs ρ' I' w' a' fr'.get g' (fun _ => False) → WentN n0 ρ I w h ρ' I' w' g' → (x = .normal → (dropSeq k c).wp P Q a' w') ∧ (x ≠ .normal → Q e a' w')) → c.wp P Q a w
  | 0, .seq u v, fr, h, x, fr', g', _, hL, hd, hx, Q, dfs, ρ, I, w, a, S, K => by
    simp only [dstsIn, Bool.and_eq_true] at hd
    refine wp_seq (execBY_sound (n0 := n0) hO hm u (fun d hd => hL d (by simp [loopsOf, hd])) _ _ _ _ _ hd.1 hx _ dfs ρ I w a S ?_)
    rintro y f g ρ' I' w' a' e ⟨rfl, hw⟩ er s' W
    cases y with
    | normal =>
      cases er
      obtain ⟨ρ2, s2, W2⟩ := hw dfs ρ' I' w' a' s'
      exact (K ρ2 I' w' a' .normal rfl s2 (W.trans W2)).1 rfl
    | exit i =>
      cases er
      obtain ⟨ρ2, s2, W2⟩ := hw dfs ρ' I' w' a' s'
      exact (K ρ2 I' w' a' _ rfl s2 (W.trans W2)).2 (fun e => by cases e)
    | ret =>
      cases er
      obtain ⟨ρ2, s2, W2⟩ := hw dfs ρ' I' w' a' s'
      exact (K ρ2 I' w' a' _ rfl s2 (W.trans W2)).2 (fun e => by cases e)
    | pan z =>
      obtain ⟨rfl, rfl⟩ := hw
      have er2 := er
      obtain ⟨v', hv, rfl⟩ := er
      exact (K ρ' I' w' a' _ er2 s' W).2 (fun e => by cases e)
  | k + 1, .seq u v, fr, h, x, fr', g', hc, hL, hd, hx, Q, dfs, ρ, I, w, a, S, K => by
    simp only [dstsIn, Bool.and_eq_true] at hd
    simp only [takeSeq, execBY] at hx
    rw [Tr.is_bind] at hx
    obtain ⟨⟨z, fr2, h2⟩, h3, h4⟩ := hx
    refine wp_seq (execBY_sound (n0 := n0) hO hm u (fun d hd => hL d (by simp [loopsOf, hd])) _ _ _ _ _ hd.1 h3 _ dfs ρ I w a S ?_)
    rintro y f g ρ' I' w' a' e ⟨rfl, hw⟩ er s' W
    cases y with
    | normal =>
      cases er
      obtain ⟨ρ2, s2, W2⟩ := hw dfs ρ' I' w' a' s'
      exact wp_cut hO hm (k := k) hc (fun d hd => hL d (by simp [loopsOf, hd])) hd.2 h4 Q dfs ρ2 I' w' a' s2 fun ρ3 I3 w3 a3 e er3 s3 W3 => K ρ3 I3 w3 a3 e er3 s3 ((W.trans W2).trans W3)
    | exit i =>
      cases er
      simp only at h4; rw [Tr.is_leaf] at h4; cases h4
      obtain ⟨ρ2, s2, W2⟩ := hw dfs ρ' I' w' a' s'
      exact (K ρ2 I' w' a' _ rfl s2 (W.trans W2)).2 (fun e => by cases e)
    | ret =>
      cases er
      simp only at h4; rw [Tr.is_leaf] at h4; cases h4
      obtain ⟨ρ2, s2, W2⟩ := hw dfs ρ' I' w' a' s'
      exact (K ρ2 I' w' a' _ rfl s2 (W.trans W2)).2 (fun e => by cases e)
    | pan q =>
      simp only at h4; rw [Tr.is_leaf] at h4; cases h4
      obtain ⟨rfl, rfl⟩ := hw
      have er2 := er
      obtain ⟨v', hv, rfl⟩ := er
      exact (K ρ' I' w' a' _ er2 s' W).2 (fun e => by cases e)
end
def execDG (P : Program) (T : OrcT) (L : LoopsT) (fuel : Nat) (k : Nat) (fn : Func) (args : List V) (h : Heap) : Tr (Fin × Heap) := match fn.body with
  | some c => (match dropSeq k c with
    | .seq (.region _ ops false) rest => (match ops.toList with
      | [o1, o2] => if cutOk k c && dstsIn fn.ntmps c && dstsIn fn.ntmps (.region 0 ops false) && dstsIn fn.ntmps rest && Nat.ble args.length fn.ntmps && o1.guard.isNone && !(Op.makes P o1.op) then
          (match defOp o2 with
          | some s => (execBY P T L fuel (takeSeq k c) (argsFr 0 args) h).bind fun p => (match p with
            | (.ret, fr0, h0) => retT P fn h.length fr0 h0
            | (.normal, fr0, h0) => (stepOT P T 0 fr0.get h0 o1.op).bind fun q => (match q with
              | (.ret vf, h1) => (match asFn (opnd (putO o1.dst vf fr0).get s) with
                | some (F, as) => (match P.funcs[F]? with
                  | some fnF => if fnF.name == "runtime.NumGoroutine" then .no else (execBX P T L fuel rest (putO o1.dst vf fr0) h1).bind (endD P T L fuel fn fnF h.length as)
                  | none => .no)
                | none => .no)
              | _ => .no)
            | _ => .no)
          | none => .no) else .no
      | _ => .no)
    | _ => .no)
  | none => .no
section
variable {P : Program} {T : OrcT} {L : LoopsT} {fuel : Nat}
theorem execDG_sound (hO : OrcSound P T.o) (hm : P.follows .mixedOrders = true) {k : Nat} {f : FuncId} {fn : Func} {args : List V} {h : Heap} {r : Fin × Heap} (hf : P.funcs[f]? = some fn)
    (hL : ∀ n0, LoopsOk P fn n0 L.o) (hLF : ∀ (F : FuncId) (fnF : Func) (n0 : Nat), P.funcs[F]? = some fnF → LoopsOk P fnF n0 L.o)
    (hx : (execDG P T L fuel k fn args h).is r) : LFn P f args h r.1 r.2 := by
  unfold execDG at hx
  split at hx
  · rename_i c hb
    split at hx
    · rename_i bid ops rest hdrop
      split at hx
      · rename_i o1 o2 hops
        split at hx
        · rename_i hc
          simp only [Bool.and_eq_true, Bool.not_eq_true'] at hc
          obtain ⟨⟨⟨⟨⟨⟨hcut, hdc⟩, hd1⟩, hd2⟩, hn⟩, hg1⟩, hmk⟩ := hc
          have hn := Nat.le_of_ble_eq_true hn
          have hLr : ∀ n0 d, d ∈ loopsOf rest → LoopOk P fn.ntmps n0 L.o d := fun n0 d hd => hL _ _ hb d (loopsOf_drop (k := k) (by rw [hdrop]; simp [loopsOf, hd]))
          split at hx
          · rename_i s hs
            rw [Tr.is_bind] at hx
            obtain ⟨⟨x0, fr0, h0⟩, hx0, hx⟩ := hx
            intro ρ I w args' R ha
            have hal : args'.length = args.length := ha.length.symm
            refine calls_of_wp_defers hf hb ?_
            refine wp_cut (N := fn.ntmps) (n0 := h.length) hO hm hcut (fun d hd => hL _ _ hb d hd) hdc hx0 _ [] ρ I w _ ⟨by simp; omega, rfl, frel_args ha fn.ntmps, R.weaken (fun _ h => h.elim)⟩ ?_
            intro ρ1 I0 w0 a0 e0 er s1 W1
            cases x0 with
            | pan _ => exact (Tr.is_no.1 hx).elim
            | exit _ => exact (Tr.is_no.1 hx).elim
            | ret =>
              refine ⟨fun e => (by cases e), fun _ => ?_⟩
              cases er
              obtain ⟨v, hv, hcm⟩ := retT_is hx
              have hFinW : FinW h.length (.ret v) h0 r.1 r.2 := tellFin_sound hcm
              show Leaves P fn a0.tmps _ a0.defers .returning w0
              rw [s1.defers]
              obtain ⟨v', hv1, hv2⟩ := resV_sound (P := P) s1.rel s1.fr hv
              refine ⟨v', hv1, ?_⟩
              obtain ⟨ρ6, r6, w6, f6⟩ := hFinW ρ1 I0 w0 s1.rel
              exact ⟨ρ6, I0, r6, (W1.trans w6).full R (Nat.le_refl _), f6 _ ⟨v', rfl, hv2⟩⟩
            | normal =>
            refine ⟨fun _ => ?_, fun e => absurd rfl e⟩
            simp only at hx
            rw [Tr.is_bind] at hx
            obtain ⟨⟨fin1, h1⟩, hst, hx⟩ := hx
            have hst := stepOT_is hst
            cases fin1 with
            | pan _ => exact (Tr.is_no.1 hx).elim
            | ret vf =>
            simp only at hx hst
            split at hx
            · rename_i F as has
              split at hx
              · rename_i fnF hF
                split at hx
                · exact (Tr.is_no.1 hx).elim
                rename_i hnm
                rw [Tr.is_bind] at hx
                obtain ⟨⟨x, fr2, h2⟩, hx2, hx⟩ := hx
                obtain ⟨pv, h5, hpv, hdef, hret⟩ := endD_end hx
                obtain ⟨vR, hvR, hcm⟩ := retT_is hret
                have hFinW : FinW h.length (.ret vR) h5 r.1 r.2 := tellFin_sound hcm
                -- the closure
                obtain ⟨first, cap, hfn, hasE⟩ : ∃ first cap, opnd (putO o1.dst vf fr0).get s = some (.fn F first cap) ∧ as = first ++ cap := by
                  unfold asFn at has
                  split at has
                  · rename_i f1 a b e; cases has; exact ⟨a, b, e, rfl⟩
                  · cases has
                have hbF : fnF.body.isSome = true := by
                  unfold defT at hdef
                  split at hdef
                  · rename_i e; rw [e]; rfl
                  · exact (Tr.is_no.1 hdef).elim
                have hEnF : Enters P F := ⟨fnF, hF, by cases hbb : fnF.body with | none => rw [hbb] at hbF; cases hbF | some _ => rfl, by simpa using hnm⟩
                rw [hdrop]
                refine wp_seq (wp_region ?_)
                have e1 : ops[0]? = some o1 := by rw [← Array.getElem?_toList, hops]; rfl
                have e2 : ops[1]? = some o2 := by rw [← Array.getElem?_toList, hops]; rfl
                have hsz : ops.size = 2 := by have := congrArg List.length hops; simpa using this
                have hg1 : o1.guard = none := by simpa using hg1
                have hin : ∀ d, o1.dst = some d → d < fn.ntmps := fun d hd => dstIn_iff (List.all_eq_true.1 hd1 o1 (by rw [hops]; simp)) d hd
                rw [hsz]
                show wpOps P ops _ [0, 1] a0 w0
                simp only [wpOps, e1, e2]
                rw [if_pos (by unfold Region.wanted; rw [hg1])]
                left
                rw [stepO_idx (j := h0.length) hmk] at hst
                refine stepO_wp (F := fun _ => False) hO s1.rel s1.fr (fun e => by rw [hmk] at e; cases e) hst _ _ ?_ (fun _ e => by cases e)
                intro v e w2 ρ2 I2 vf' hvf hR2 W2
                cases e
                have s2 : Sim fn.ntmps [] ρ2 I2 w2 (a0.put o1.dst vf') (putO o1.dst vf fr0).get h1 (fun _ => False) := by
                  refine ⟨by rw [put_size]; exact s1.size, by rw [put_defers]; exact s1.defers, ?_, hR2.weaken (fun i hi => hi.elim)⟩
                  rw [get_putO]
                  exact (s1.fr.le (W2.le s1.rel)).put hvf (fun d hd => by rw [s1.size]; exact hin d hd)
                have hov := opnd_sound s2.fr hfn
                obtain ⟨first', cap', hov', hfa, hca⟩ : ∃ first' cap', (a0.put o1.dst vf').eval s = .func (.func F) ⟨first'⟩ ⟨cap'⟩ ∧ VsRel I2 w2 ρ2 first first' ∧ VsRel I2 w2 ρ2 cap cap' := by
                  cases hv : (a0.put o1.dst vf').eval s <;> rw [hv] at hov <;> cases hov
                  exact ⟨_, _, rfl, ‹_›, ‹_›⟩
                obtain ⟨hrun, hg2, hdn⟩ := defOp_run (P := P) hs hov' w2
                rw [if_pos (by unfold Region.wanted; rw [hg2])]
                left
                unfold Oper.wp
                rw [hrun, Oper.upon_defer, hdn]
                show Code.wp P rest _ { (a0.put o1.dst vf') with defers := _ :: (a0.put o1.dst vf').defers } w2
                rw [s2.defers]
                refine execBX_sound (N := fn.ntmps) (n0 := h1.length) hO hm rest (hLr _) _ h1 x fr2 h2 hd2 hx2 _ [{ target := .fn (.func F) ⟨cap'⟩, args := ⟨first'⟩ }] ρ2 I2 w2 _ ⟨s2.size, rfl, s2.fr, s2.rel⟩ ?_
                rintro y f3 k3 ρ3 I3 w3 a3 e3 ⟨rfl, hwk3⟩ er3 s3 W3
                -- the state at the end of the body
                obtain ⟨ρ4, s4, W4, er4⟩ : ∃ ρ4, Sim fn.ntmps [{ target := .fn (.func F) ⟨cap'⟩, args := ⟨first'⟩ }] ρ4 I3 w3 a3 fr2.get h2 (fun _ => False) ∧ Went ρ2 I2 w2 h1 ρ4 I3 w3 h2 ∧ ERel I3 w3 ρ4 y e3 := by
                  cases y with
                  | pan v =>
                    obtain ⟨rfl, rfl⟩ := hwk3
                    exact ⟨ρ3, s3, W3.full s2.rel (Nat.le_refl _), er3⟩
                  | normal => obtain ⟨ρ4, a, b⟩ := hwk3 _ ρ3 I3 w3 a3 s3; exact ⟨ρ4, a, (W3.trans b).full s2.rel (Nat.le_refl _), er3⟩
                  | ret => obtain ⟨ρ4, a, b⟩ := hwk3 _ ρ3 I3 w3 a3 s3; exact ⟨ρ4, a, (W3.trans b).full s2.rel (Nat.le_refl _), er3⟩
                  | exit _ => rcases hpv with ⟨h0 | h0, _⟩ | ⟨_, h0, _⟩ <;> cases h0
                -- the deferred call
                have Lx := W4.le s2.rel
                have hargs : VsRel I3 w3 ρ4 as (first' ++ cap') := by rw [hasE]; exact VsRel.append (hca.le Lx) (hfa.le Lx)
                have leaves : ∀ u, UIs I3 w3 ρ4 pv u → Leaves P fn a3.tmps (fun e w' => ∃ ρ' I', Rel ρ' I' w' r.2 (fun i => r.2.length ≤ i) ∧ Went ρ I w h ρ' I' w' r.2 ∧ FinRel I' w' ρ' r.1 e) a3.defers u w3 := by
                  intro u hu
                  rw [s4.defers]
                  have hi : (invoke (.fn (.func F) ⟨cap'⟩) ⟨first'⟩).run P w3 = .ok (.enter F ⟨first' ++ cap'⟩) w3 := by
                    have : invoke (.fn (.func F) ⟨cap'⟩) ⟨first'⟩ = callFunc F ⟨first' ++ cap'⟩ := by simp [invoke]
                    rw [this, callFunc_enter hEnF]
                  refine leaves_cons ?_ hi ?_
                  · cases pv with
                    | none => rw [show u = .returning from hu]; exact fun e => by cases e
                    | some v => obtain ⟨v', _, rfl⟩ := hu; exact fun e => by cases e
                  · refine (defT_calls hO hm hF (hLF F fnF _ hF) hdef s4.rel hargs hu).mono ?_
                    rintro e u' w' ⟨⟨rv, rfl⟩, hset, ρ5, I5, R5, W5⟩
                    simp only
                    rw [hset]
                    obtain ⟨v', hv1, hv2⟩ := resV_sound (P := P) R5 (s4.fr.le (W5.le s4.rel)) hvR
                    refine ⟨v', hv1, ?_⟩
                    obtain ⟨ρ6, r6, w6, f6⟩ := hFinW ρ5 I5 w' R5
                    have WW := (((W1.trans W2.toN).trans W4.toN).trans W5.toN).trans w6
                    exact ⟨ρ6, I5, r6, WW.full R (Nat.le_refl _), f6 _ ⟨v', rfl, hv2⟩⟩
                rcases hpv with ⟨h0 | h0, hp⟩ | ⟨v, h0, hp⟩
                · subst h0; subst hp; cases er4; exact leaves _ rfl
                · subst h0; subst hp; cases er4; exact leaves _ rfl
                · subst h0; subst hp
                  obtain ⟨v', hv, rfl⟩ := er4
                  exact leaves _ ⟨v', hv, rfl⟩
              · exact (Tr.is_no.1 hx).elim
            · exact (Tr.is_no.1 hx).elim
          · exact (Tr.is_no.1 hx).elim
        · exact (Tr.is_no.1 hx).elim
      · exact (Tr.is_no.1 hx).elim
    · exact (Tr.is_no.1 hx).elim
  · exact (Tr.is_no.1 hx).elim
theorem fnDG (hO : OrcSound P T.o) (hm : P.follows .mixedOrders = true) (k : Nat) {f : FuncId} {fn : Func} {args : List V} {h : Heap} {fin : Fin} {h' : Heap} {sh : Tr.Sh} {t : Tr (Fin × Heap)} (hf : P.funcs[f]? = some fn)
    (hx : Tr.prune sh (execDG P T noLoopsT fuel k fn args h) = t) (hw : t.wp (fun r => r = (fin, h'))) : LFn P f args h fin h' := by
  subst hx
  exact execDG_sound (r := (fin, h')) hO hm hf (fun _ => LoopsOk.noneT) (fun _ _ _ _ => LoopsOk.noneT) (Tr.prune_is (Tr.is_of_wp hw))
end
end Go.Lh
end
section
namespace Go.Lh
theorem FinW.refl {n0 : Nat} {fin : Fin} {h : Heap} : FinW n0 fin h fin h := by
  intro ρ I w R
  exact ⟨ρ, ⟨R.blk, fun i hi => R.out i hi, R.out, R.apart, R.lt⟩, .refl, fun _ he => he⟩
section
variable {P : Program} {T : OrcT} {L : LoopsT} {n0 : Nat} {fn : Func} {fin : Fin} {h' : Heap}
theorem EndX.told {fr : Fr} {h : Heap} {v : V} (hr : resV P fn fr.get h = some (true, v)) : EndX P fn n0 (.ret v) h .normal fr h := ⟨fr, h, v, .refl, hr, .refl⟩
theorem EndX.weaker {f g : Fr} {h k : Heap} (hw : Weaker fn.ntmps n0 f h g k) (H : EndX P fn n0 fin h' .normal g k) : EndX P fn n0 fin h' .normal f h := by
  obtain ⟨f1, h1, v, a, b, c⟩ := H
  exact ⟨f1, h1, v, hw.trans a, b, c⟩
/-- a loop at the function's end -/
theorem EndsIn.loop0 {α : Type} {id : Nat} {c : Code} (S : α → Fr × Heap) (μ : α → Nat) (ok : α → Prop) (hO : OrcSound P T.o) (hm : P.follows .mixedOrders = true) (hL : ∀ d, d ∈ loopsOf c → LoopOk P fn.ntmps n0 L.o d) (hd : dstsIn fn.ntmps c = true)
    (round : ∀ a, ok a → ∃ on off fuel, (execBYE P T L fuel fn n0 on off c (S a).1 (S a).2).wp fun q => CloW on off q ∧
      ((∃ a', q = .inr (.normal, S a') ∧ ok a' ∧ μ a' < μ a) ∨ (∃ f g, q = .inr (.exit id, f, g) ∧ EndX P fn n0 fin h' .normal f g) ∨ ∃ g, q = .inl (fin, g) ∧ DeadOf g h'))
    {a0 : α} (h0 : ok a0) : EndsIn P fn n0 (.block id (.loop c)) (S a0).1 (S a0).2 fin h' := by
  refine Runs.block (Runs.loop (fun n fr h => ∃ a, ok a ∧ μ a = n ∧ fr = (S a).1 ∧ h = (S a).2) (n := μ a0) ⟨a0, h0, rfl, rfl, rfl⟩ ?_)
  rintro n fr h ⟨a, ha, rfl, rfl, rfl⟩
  obtain ⟨on, off, fuel, hw⟩ := round a ha
  obtain ⟨q, h1, hc, h2⟩ := Tr.wp_is hw
  have H := execBYE_sound hO hm hL hd h1 hc
  rcases h2 with ⟨a', rfl, q2, q3⟩ | ⟨f1, g1, rfl, hE⟩ | ⟨g, rfl, hdd⟩
  · refine H.mono ?_
    rintro y f k ⟨hy, hwk⟩
    simp only at hy
    subst hy
    exact ⟨μ a', (S a').1, (S a').2, q3, ⟨a', q2, rfl, rfl, rfl⟩, hwk⟩
  · refine H.mono ?_
    rintro y f k ⟨hy, hwk⟩
    simp only at hy
    subst hy
    simp only [thenX, inBlockX, if_true]
    exact EndX.weaker hwk hE
  · refine H.mono ?_
    rintro y f k ⟨hy, hE⟩
    have hE : EndX P fn n0 fin h' y f k := EndX.dead hdd hE
    cases y with
    | normal => exact absurd rfl hy
    | exit _ => exact hE.elim
    | ret => exact hE
    | pan _ => exact hE
/-- code at the function's end -/
theorem EndsIn.lastE {fuel : Nat} {c : Code} {fr : Fr} {h : Heap} {sh : Tr.Sh} {t : Tr ((Fin × Heap) ⊕ (X × Fr × Heap))} {on off : Tell} (hO : OrcSound P T.o) (hm : P.follows .mixedOrders = true) (hL : ∀ d, d ∈ loopsOf c → LoopOk P fn.ntmps n0 L.o d) (hd : dstsIn fn.ntmps c = true)
    (hx : Tr.prune sh (execBYE P T L fuel fn n0 on off c fr h) = t)
    (hw : t.wp fun q => CloW on off q ∧ ((∃ f g, q = .inr (.normal, f, g) ∧ EndX P fn n0 fin h' .normal f g) ∨ ∃ g, q = .inl (fin, g) ∧ DeadOf g h')) : EndsIn P fn n0 c fr h fin h' := by
  obtain ⟨q, h1, hcl, h2⟩ := Tr.wp_is (Tr.wp_prune hx hw)
  have H := execBYE_sound hO hm hL hd h1 hcl
  rcases h2 with ⟨f1, g1, rfl, hE⟩ | ⟨g, rfl, hdd⟩
  · refine H.mono ?_
    rintro y f k ⟨hy, hwk⟩
    simp only at hy
    subst hy
    exact EndX.weaker hwk hE
  · refine H.mono ?_
    rintro y f k ⟨hy, hE⟩
    exact EndX.dead hdd hE
end
end Go.Lh
end
section
namespace Go.Lh
def callOf (o : Oper) : Option (Operand × List Operand) := match o.op, o.guard with
  | .call { callee := .value f, args, .. }, none => some (f, args.toList)
  | _, _ => none
section
variable {P : Program} {N n0 : Nat}
theorem region_call {T : OrcT} {fuel id k : Nat} {ops : Array Oper} {oc : Oper} {fr fr1 fr2 : Fr} {h h1 h2 h3 : Heap} {cf : Operand} {cas : List Operand} {fid : FuncId} {first cap l : List V} {v : V} (hO : OrcSound P T.o) (hm : P.follows .mixedOrders = true) (hg : ops.toList.all (fun o => o.guard.isNone) = true) (hd : dstsIn N (.region id ops false) = true)
    (hA : (execB P T noLoopsT fuel (.region id ⟨ops.toList.take k⟩ false) fr h).is (.normal, fr1, h1)) (hw : Weaker N n0 fr1 h1 fr2 h2) (hdrop : ops.toList.drop k = [oc]) (hc : callOf oc = some (cf, cas)) (hf : opnd fr2.get cf = some (.fn fid first cap)) (hl : opnds fr2.get cas = some l) (hE : Enters P fid)
    (hL : LFn P fid (first ++ l ++ cap) h2 (.ret v) h3) : Runs P N n0 (.region id ops false) fr h (EndW N n0 .normal (putO oc.dst v fr2) h3) := by
  have hin : ∀ d, d ∈ ops.toList.filterMap (·.dst) → d < N := by
    intro d hd'
    obtain ⟨o, ho, hod⟩ := List.mem_filterMap.1 hd'
    exact dstIn_iff (List.all_eq_true.1 hd o ho) d hod
  have hab : ops.toList = ops.toList.take k ++ [oc] := by rw [← hdrop, List.take_append_drop]
  have hinA : ∀ d, d ∈ (⟨ops.toList.take k⟩ : Array Oper).toList.filterMap (·.dst) → d < N := fun d hd => hin d (by rw [hab, List.filterMap_append]; simp at hd; simp [hd])
  have ofI : ∀ {o : Array Oper} {f f' : Fr} {g g' : Heap}, (execB P T noLoopsT fuel (.region id o false) f g).is (.normal, f', g') → runRegion P T.o o false f g = some (true, none, f', g') := by
    intro o f f' g g' hx
    have := execB_is hx
    simp only [execD] at this
    split at this <;> simp only [Option.some.injEq, Prod.mk.injEq, reduceCtorEq] at this
    · rename_i q f2 g2 hr
      obtain ⟨rfl, _, rfl, rfl⟩ := this
      exact hr
    · exact this.2.1.elim
  intro Q dfs ρ I w a S K
  refine wp_region ?_
  have hkl : (ops.toList.take k).length = k := by
    have h4 := congrArg List.length hdrop
    rw [List.length_drop, List.length_singleton] at h4
    rw [List.length_take]; omega
  have hsz : ops.size = k + 1 := by
    have := congrArg List.length hab
    rw [List.length_append, hkl, List.length_singleton] at this
    simpa using this
  have hrange : List.range ops.size = (List.range (⟨ops.toList.take k⟩ : Array Oper).size).map id' ++ [k] := by
    rw [hsz, List.range_succ, show (⟨ops.toList.take k⟩ : Array Oper).size = k from hkl]
    rw [show (List.range k).map id' = List.range k from List.map_id _]
  have gA : ∀ i, i < (⟨ops.toList.take k⟩ : Array Oper).size → ∃ o, (⟨ops.toList.take k⟩ : Array Oper)[i]? = some o ∧ ops[id' i]? = some o ∧ o.guard = none := by
    intro i hi
    have e1 : ops[i]? = (⟨ops.toList.take k⟩ : Array Oper)[i]? := by
      refine Eq.trans ?_ (Array.getElem?_toList (xs := (⟨ops.toList.take k⟩ : Array Oper)))
      rw [← Array.getElem?_toList (xs := ops)]
      conv => lhs; rw [hab]
      rw [List.getElem?_append_left (by simpa using hi)]
    have e2 : (⟨ops.toList.take k⟩ : Array Oper)[i]? = some (⟨ops.toList.take k⟩ : Array Oper)[i] := Array.getElem?_eq_getElem hi
    refine ⟨_, e2, by show ops[i]? = _; rw [e1, e2], ?_⟩
    have := List.all_eq_true.1 hg (⟨ops.toList.take k⟩ : Array Oper)[i] (List.mem_of_getElem? (by rw [Array.getElem?_toList, e1, e2]))
    simpa using this
  rw [hrange]
  refine ops_gen (ops1 := ⟨ops.toList.take k⟩) (Q1 := fun e a' w' => e = .normal ∧ ∃ ρ' I', Sim N dfs ρ' I' w' a' fr1.get h1 (fun _ => False) ∧ Went ρ I w h ρ' I' w' h1) id' _ (fun e a w hne q => absurd q.1 hne) ?_ _ (fun i hi => gA i (List.mem_range.1 hi)) a w
    (region_ops hO hinA S (ofI hA) (fun ρ' I' w' a' s W => ⟨rfl, ρ', I', s, W⟩))
  rintro a1 w1 ⟨_, ρ1, I1, s1, W1⟩
  obtain ⟨ρ2, s2, W2⟩ := hw dfs ρ1 I1 w1 a1 s1
  have hoc : ops[k]? = some oc := by
    rw [← Array.getElem?_toList, hab, List.getElem?_append_right (by rw [hkl]; exact Nat.le_refl _), hkl, Nat.sub_self]; rfl
  -- the call
  unfold callOf at hc
  split at hc
  · rename_i f args ty ho hgd
    simp only [Option.some.injEq, Prod.mk.injEq] at hc
    obtain ⟨rfl, rfl⟩ := hc
    have hwn : ∀ y, Region.wanted oc y = true := by intro y; unfold Region.wanted; rw [hgd]
    simp only [wpOps, hoc, hwn, if_true]
    left
    have hfr := opnd_sound s2.fr hf
    have hlr := opnds_sound s2.fr hl
    obtain ⟨first', cap', hfe, hr1, hr2⟩ : ∃ first' cap', a1.eval f = .func (.func fid) ⟨first'⟩ ⟨cap'⟩ ∧ VsRel I1 w1 ρ2 first first' ∧ VsRel I1 w1 ρ2 cap cap' := by
      cases hv : a1.eval f <;> rw [hv] at hfr <;> cases hfr
      exact ⟨_, _, rfl, ‹_›, ‹_›⟩
    have hargs : VsRel I1 w1 ρ2 (first ++ l ++ cap) (first' ++ args.toList.map a1.eval ++ cap') := VsRel.append hr2 (VsRel.append hlr hr1)
    have hrun : (execOp a1.eval oc).run P w1 = (callFunc fid ⟨first' ++ args.toList.map a1.eval ++ cap'⟩).run P w1 := by
      simp only [execOp, ho, resolve, hfe, Deferred.ofValue, Sem.run_bind, Sem.run_pure, Result.andThen_ok, invoke]
      congr 2
      apply Array.ext'; simp
    unfold Oper.wp
    rw [hrun, callFunc_enter hE, Oper.upon_enter]
    have hR : Rel ρ2 I1 w1 h2 (fun i => h2.length ≤ i) := ⟨s2.rel.blk, fun i hi => s2.rel.out i hi, s2.rel.out, s2.rel.apart, s2.rel.lt⟩
    refine (hL ρ2 I1 w1 _ hR hargs).mono ?_
    rintro e w' ⟨ρ', I', r1, r2, r3⟩
    obtain ⟨v', rfl, hv⟩ := r3
    simp only
    refine K .normal _ _ ρ' I' w' _ .normal .rfl rfl ⟨by rw [put_size]; exact s2.size, by rw [put_defers]; exact s2.defers, ?_, r1.weaken (fun _ h => h.elim)⟩ ((W1.toN.trans W2).trans r2.toN)
    rw [get_putO]
    refine (s2.fr.le (r2.le s2.rel)).put hv ?_
    intro d hd'
    rw [s2.size]
    exact hin d (List.mem_filterMap.2 ⟨oc, by rw [hab]; simp, hd'⟩)
  · cases hc
variable {fn : Func} {fin : Fin} {h' : Heap}
/-- a loop at the function's end, by the runs of its rounds -/
theorem EndsIn.loop0R {α : Type} {id : Nat} {c : Code} (S : α → Fr × Heap) (μ : α → Nat) (ok : α → Prop)
    (round : ∀ a, ok a → Runs P fn.ntmps n0 c (S a).1 (S a).2 fun y f k => (y = .normal ∧ ∃ a', Weaker fn.ntmps n0 f k (S a').1 (S a').2 ∧ ok a' ∧ μ a' < μ a) ∨ (y = .exit id ∧ EndX P fn n0 fin h' .normal f k))
    {a0 : α} (h0 : ok a0) : EndsIn P fn n0 (.block id (.loop c)) (S a0).1 (S a0).2 fin h' := by
  refine Runs.block (Runs.loop (fun n fr h => ∃ a, ok a ∧ μ a = n ∧ fr = (S a).1 ∧ h = (S a).2) (n := μ a0) ⟨a0, h0, rfl, rfl, rfl⟩ ?_)
  rintro n fr h ⟨a, ha, rfl, rfl, rfl⟩
  refine (round a ha).mono ?_
  rintro y f k (⟨rfl, a', hw, q2, q3⟩ | ⟨rfl, hE⟩)
  · exact ⟨μ a', (S a').1, (S a').2, q3, ⟨a', q2, rfl, rfl, rfl⟩, hw⟩
  · simp only [thenX, inBlockX, if_true]
    exact hE
end
end Go.Lh
end
section
namespace Go.Lh
def isKeyB : TypeDesc → Value → Bool
  | .int .u8, .int .u8 _ => true
  | .string, .string _ => true
  | _, _ => false
theorem isKeyB_key {d : TypeDesc} {v : Value} (h : isKeyB d v = true) : MapKept.IsKey d v := by
  unfold isKeyB at h
  split at h
  · simp [MapKept.IsKey]
  · simp [MapKept.IsKey]
  · cases h
def valOp : Operand → Option Value
  | .const v => some v
  | .func f => some (.func (.func f) #[] #[])
  | _ => none
theorem valOp_eval {x : Operand} {v : Value} (h : valOp x = some v) (a : Act) : a.eval x = v := by
  cases x <;> simp only [valOp, Option.some.injEq, reduceCtorEq] at h
  · exact h
  · exact h
def litE (d : TypeDesc) (t m : Nat) (o : Oper) : Option (Value × Value) :=
  match o.op, o.dst, o.guard with
  | .insert m' (.tmp t') (.const k) x, none, none => if Nat.beq m' m && Nat.beq t' t && isKeyB d k then (match valOp x with | some v => some (k, v) | none => none) else none
  | _, _, _ => none
def litR (d : TypeDesc) (t m : Nat) : List Oper → List MapEntry → Option (List MapEntry)
  | [], acc => some acc
  | o :: r, acc => match litE d t m o with
    | some (k, v) => (match Instr.findNow d k acc 0 with
      | some none => litR d t m r (acc ++ [{ key := k, val := v, born := acc.length }])
      | _ => none)
    | none => none
structure LitW (w w' : World) (r : Nat) (es : List MapEntry) : Prop where
  os : w'.os = w.os
  tape : w'.tape = w.tape
  output : w'.output = w.output
  size : w'.heap.size = w.heap.size
  others : ∀ k, k ≠ r → w'.heap[k]? = w.heap[k]?
  here : w'.heap[r]? = some (.map es.toArray es.length)
section
variable {P : Program} {d : TypeDesc} {kt et m t r : Nat}
theorem litE_spec {o : Oper} {k v : Value} (h : litE d t m o = some (k, v)) : ∃ x, o.op = .insert m (.tmp t) (.const k) x ∧ o.dst = none ∧ o.guard = none ∧ isKeyB d k = true ∧ valOp x = some v := by
  unfold litE at h
  split at h
  · rename_i m' t' k' x e1 e2 e3
    split at h
    · rename_i hc
      simp only [Bool.and_eq_true] at hc
      obtain ⟨⟨h1, h2⟩, h3⟩ := hc
      have h1 := Nat.eq_of_beq_eq_true h1
      have h2 := Nat.eq_of_beq_eq_true h2
      subst h1; subst h2
      split at h <;> simp only [Option.some.injEq, Prod.mk.injEq, reduceCtorEq] at h
      rename_i v' hv
      obtain ⟨rfl, rfl⟩ := h
      exact ⟨x, e1, e2, e3, h3, hv⟩
    · cases h
  · cases h
theorem lit_ops (hm : P.underlying m = some (.map kt et)) (hd : P.underlying kt = some d) {ops : Array Oper} {Q : Exit → Act → World → Prop} {es : List MapEntry} {a : Act} (ht : a.tmps.getD t undef = .map (some r)) :
    ∀ (l : List Oper) (i : Nat) (acc : List MapEntry) (w : World), (∀ k o, l[k]? = some o → ops[i + k]? = some o) → litR d t m l acc = some es → w.heap[r]? = some (.map acc.toArray acc.length) →
      (∀ w', LitW w w' r es → Q .normal a w') → wpOps P ops Q (List.range' i l.length) a w
  | [], i, acc, w, _, hr, hb, K => by
    simp only [litR, Option.some.injEq] at hr
    subst hr
    exact K w ⟨rfl, rfl, rfl, rfl, fun _ _ => rfl, hb⟩
  | o :: l, i, acc, w, hl, hr, hb, K => by
    have ho : ops[i]? = some o := hl 0 o rfl
    simp only [litR] at hr
    split at hr <;> try simp only [reduceCtorEq] at hr
    rename_i k v he
    split at hr <;> try simp only [reduceCtorEq] at hr
    rename_i hf
    obtain ⟨x, e1, e2, e3, e4, e5⟩ := litE_spec he
    have hk := isKeyB_key e4
    have hw : ∀ y, Region.wanted o y = true := by intro y; unfold Region.wanted; rw [e3]
    have e6 := valOp_eval e5 a
    have e7 : a.eval (.tmp t) = .map (some r) := ht
    have e8 : a.eval (.const k) = k := rfl
    have hrun : (execOp a.eval o).run P w = .ok .skip { w with heap := w.heap.setIfInBounds r (.map (acc ++ [({ key := k, val := v, born := acc.length } : MapEntry)]).toArray (acc.length + 1)) } := by
      simp [execOp, e1, e6, e7, e8, Instr.mapUpdate, run_underlying hm, MapKept.run_getObj_map hb, MapKept.run_checkKey hd hk _ 9999, MapKept.run_findKey hd hf, MapKept.run_setObj_map _ hb, Result.andThen]
    simp only [List.length_cons, List.range'_succ, wpOps, ho, hw, if_true]
    left
    unfold Oper.wp
    rw [hrun, Oper.upon_skip, e2]
    have hp : a.put none undef = a := rfl
    rw [hp]
    have hs := MapKept.heap_set (o' := .map (acc ++ [({ key := k, val := v, born := acc.length } : MapEntry)]).toArray (acc.length + 1)) hb
    refine lit_ops hm hd ht l (i + 1) _ _ (fun j q hj => by have := hl (j + 1) q (by simpa using hj); rwa [show i + (j + 1) = i + 1 + j by omega] at this) hr ?_ (fun w' L => K w' ?_)
    · rw [hs.1]; simp
    · exact ⟨L.os, L.tape, L.output, by rw [L.size]; simp, fun j hj => (L.others j hj).trans (hs.2 j hj), L.here⟩
/-- the region's first part: a map, filled with constants -/
def litHead (d : TypeDesc) (t m : Nat) : List Oper → Option (List MapEntry)
  | o :: r => (match o.op, o.dst, o.guard with
    | .makeMap m' none, some t', none => if Nat.beq m' m && Nat.beq t' t then litR d t m r [] else none
    | _, _, _ => none)
  | [] => none
theorem BRel.alloc {I I' : Nat → Prop} {w w' : World} {ρ : Ren} {l : Loc} {b : Blk} (B : BRel I w ρ l b) (hI : ∀ b, I b → I' b) (hm : ∀ b, I b → w'.heap[b]? = w.heap[b]?) (hl : w'.heap[l.b]? = w.heap[l.b]?) : BRel I' w' ρ l b := by
  refine ⟨?_, B.fits, fun e n h => ⟨(B.ty e n h).1, by rw [hl]; exact (B.ty e n h).2⟩⟩
  obtain ⟨C, e, fz, h1, h2, h3, h4⟩ := B.mem
  exact ⟨C, e, fz, hl.trans h1, h2, h3, fun o ho => by obtain ⟨c, c1, c2⟩ := h4 o ho; exact ⟨c, c1, c2.mono hI hm _ (fun _ _ h => h)⟩⟩
theorem lit_region {N n0 : Nat} {dfs : List Deferred} {ρ : Ren} {I : Nat → Prop} {w : World} {a : Act} {fr : Fr} {h : Heap} (hm : P.underlying m = some (.map kt et)) (hd : P.underlying kt = some d) {ops : Array Oper} {es : List MapEntry} {mk : MapK}
    (hr : litHead d t m ops.toList = some es) (hmk : es.map (fun e => (e.key, e.val)) = mk.ents) (htN : t < N) (S : Sim N dfs ρ I w a fr.get h (fun _ => False)) :
    wpOps P ops (fun e a' w' => e = .normal ∧ ∃ ρ' I', Sim N dfs ρ' I' w' a' (fr.put t (.fmap mk)).get h (fun _ => False) ∧ WentN n0 ρ I w h ρ' I' w' h) (List.range ops.size) a w := by
  unfold litHead at hr
  split at hr <;> try simp only [reduceCtorEq] at hr
  rename_i o rest hl
  split at hr <;> try simp only [reduceCtorEq] at hr
  rename_i m' t' e1 e2 e3
  split at hr <;> try simp only [reduceCtorEq] at hr
  rename_i hc
  simp only [Bool.and_eq_true] at hc
  have h1 := Nat.eq_of_beq_eq_true hc.1
  have h2 := Nat.eq_of_beq_eq_true hc.2
  subst h1; subst h2
  have hw : ∀ y, Region.wanted o y = true := by intro y; unfold Region.wanted; rw [e3]
  have hsz : ops.size = rest.length + 1 := by rw [← Array.length_toList, hl]; rfl
  have h0 : ops[0]? = some o := by rw [← Array.getElem?_toList, hl]; rfl
  have hrun : (execOp a.eval o).run P w = .ok (.value (.map (some w.heap.size))) (w.alloc (.map #[] 0)) := by
    simp [execOp, e1, Instr.makeMap, Result.andThen]
  rw [hsz, List.range_eq_range', List.range'_succ]
  simp only [wpOps, h0, hw, if_true]
  left
  unfold Oper.wp
  rw [hrun, Oper.upon_value, e2]
  have hh := MapKept.heap_alloc w (.map #[] 0)
  have htm : (a.put (some t') (.map (some w.heap.size))).tmps.getD t' undef = .map (some w.heap.size) := by
    have := S.size
    simp [Act.put, Array.getD, this, htN]
  refine lit_ops hm hd htm rest 1 [] _ (fun k q hk => ?_) hr hh.1 (fun w' L => ⟨rfl, ρ, fun b => I b ∨ b = w.heap.size, ?_, ?_⟩)
  · rw [← Array.getElem?_toList, hl, Nat.add_comm, List.getElem?_cons_succ]; exact hk
  · have hlt : ∀ b, b < w.heap.size → w'.heap[b]? = w.heap[b]? := fun b hb => (L.others b (Nat.ne_of_lt hb)).trans (hh.2 b hb)
    have hIm : ∀ b, I b → w'.heap[b]? = w.heap[b]? := fun b hb => hlt b (S.rel.lt b hb)
    have hsize : w'.heap.size = w.heap.size + 1 := by rw [L.size]; show (w.heap.push _).size = _; simp
    refine ⟨?_, ?_, ?_, ?_⟩
    · rw [put_size]; exact S.size
    · rw [put_defers]; exact S.defers
    · rw [Fr.get_put]
      refine FRel.put (fun t v hg => (S.fr t v hg).mono (fun b h => .inl h) hIm _ (fun _ _ h => h)) ?_ (fun d hd => by cases hd; rw [S.size]; exact htN)
      exact .fmap ρ mk w.heap.size es.toArray es.length (.inr rfl) L.here hmk
    · refine ⟨fun i b hb hne => ?_, S.rel.free, S.rel.out, S.rel.apart, fun b hb => ?_⟩
      · obtain ⟨l, hl, B, hn⟩ := S.rel.blk i b hb hne
        have hlb : l.b < w.heap.size := by
          obtain ⟨C, e, fz, c1, _⟩ := B.mem
          exact (Array.getElem?_eq_some_iff.1 c1).1
        refine ⟨l, hl, B.alloc (fun b h => .inl h) hIm (hlt _ hlb), ?_⟩
        rintro (h | h)
        · exact hn h
        · omega
      · rcases hb with hb | rfl
        · have := S.rel.lt b hb; omega
        · omega
  · have hsize : w'.heap.size = w.heap.size + 1 := by rw [L.size]; show (w.heap.push _).size = _; simp
    refine Went.toN ⟨fun _ _ h => h, fun _ h => .inl h, L.os, L.tape, L.output, by omega, fun b hb _ => (L.others b (Nat.ne_of_lt hb)).trans (hh.2 b hb), fun b hb => .inl hb, fun b hb => ?_⟩
    rcases hb with hb | rfl
    · exact .inl hb
    · exact .inr (.inr (Nat.le_refl _))
end
end Go.Lh
end
section
namespace Go.Lh
def idxB (s : List (BitVec 8)) (c : BitVec 8) : Int := Lib.indexByte (s.map UInt8.ofBitVec) (UInt8.ofBitVec c)
def idxX : List V → Option (Bool × V)
  | [.str s, .u8 c] => some (true, .int .i64 (idxB s c))
  | _ => none
theorem idxX_at {P : Program} {f : FuncId} {fn : Func} (hf : P.funcs[f]? = some fn) (hname : (fn.name == "runtime.NumGoroutine") = false) (hb : fn.body.isNone = true) (hn : Extern.findNext fn = none)
    (he : Extern.find fn = some Extern.BytealgIndexByte.indexByte) : ExtAt P f idxX := by
  refine ⟨fun args v hx I w ρ args' ha => ?_⟩
  unfold idxX at hx
  split at hx <;> simp only [Option.some.injEq, Prod.mk.injEq, true_and, reduceCtorEq] at hx
  rename_i s c
  subst hx
  cases ha with
  | cons _ _ _ _ _ h1 r =>
    cases h1 with
    | str _ s =>
      cases r with
      | cons _ _ _ _ _ h2 r =>
        cases h2
        cases r
        refine ⟨_, callFunc_extern hf hname hb hn he (Lib.run_indexByteString s _ w), ?_⟩
        have e1 : (bytesOf s).map UInt8.ofBitVec = s.data.toList := by
          show (s.data.toList.map UInt8.toBitVec).map UInt8.ofBitVec = _
          rw [List.map_map]
          have : (UInt8.ofBitVec ∘ UInt8.toBitVec) = id := by funext x; rfl
          rw [this, List.map_id]
        have e2 : ((c.toNat : Int).toNat).toUInt8 = UInt8.ofBitVec c := by
          apply UInt8.toBitVec_inj.1
          simp
        unfold idxB
        rw [e1, ← e2]
        exact .int _ _ _ rfl
end Go.Lh
end
section
namespace Go.Lh
section
variable {P : Program} {T : OrcT} {fuel n0 N : Nat} {fn : Func} {c : Code} {fr fr3 : Fr} {h h3 h' : Heap} {fin : Fin} {on : List Nat} {d : TypeDesc} {kt et m t : Nat} {es : List MapEntry} {mk : MapK}
theorem region_lit {id : Nat} {ops opsA opsB : Array Oper} (hO : OrcSound P T.o) (hab : ops.toList = opsA.toList ++ opsB.toList) (hg : ops.toList.all (fun o => o.guard.isNone) = true) (hd : dstsIn N (.region id ops false) = true)
    (hmt : P.underlying m = some (.map kt et)) (hkt : P.underlying kt = some d) (hr : litHead d t m opsA.toList = some es) (hmk : es.map (fun e => (e.key, e.val)) = mk.ents) (htN : t < N)
    (hB : (execB P T noLoopsT fuel (.region id opsB false) (fr.put t (.fmap mk)) h).is (.normal, fr3, h3)) : Runs P N n0 (.region id ops false) fr h (EndW N n0 .normal fr3 h3) := by
  have hin : ∀ d, d ∈ ops.toList.filterMap (·.dst) → d < N := by
    intro d hd'
    obtain ⟨o, ho, hod⟩ := List.mem_filterMap.1 hd'
    exact dstIn_iff (List.all_eq_true.1 hd o ho) d hod
  have hinB : ∀ d, d ∈ opsB.toList.filterMap (·.dst) → d < N := fun d hd => hin d (by rw [hab, List.filterMap_append]; simp [hd])
  have ofI : ∀ {o : Array Oper} {f f' : Fr} {g g' : Heap}, (execB P T noLoopsT fuel (.region id o false) f g).is (.normal, f', g') → runRegion P T.o o false f g = some (true, none, f', g') := by
    intro o f f' g g' hx
    have := execB_is hx
    simp only [execD] at this
    split at this <;> simp only [Option.some.injEq, Prod.mk.injEq, reduceCtorEq] at this
    · rename_i q f2 g2 hr
      obtain ⟨rfl, _, rfl, rfl⟩ := this
      exact hr
    · exact this.2.1.elim
  intro Q dfs ρ I w a S K
  refine wp_region ?_
  have hsz : ops.size = opsA.size + opsB.size := by
    have := congrArg List.length hab
    simpa using this
  have hrange : List.range ops.size = (List.range opsA.size).map id' ++ (List.range opsB.size).map (fun i => opsA.size + i) := by
    rw [hsz, List.range_add]
    rw [show (List.range opsA.size).map id' = List.range opsA.size from List.map_id _]
  have gA : ∀ i, i < opsA.size → ∃ o, opsA[i]? = some o ∧ ops[id' i]? = some o ∧ o.guard = none := by
    intro i hi
    have e1 : ops[i]? = opsA[i]? := by
      rw [← Array.getElem?_toList, hab, List.getElem?_append_left (by simpa using hi), Array.getElem?_toList]
    have e2 : opsA[i]? = some opsA[i] := Array.getElem?_eq_getElem hi
    refine ⟨_, e2, by show ops[i]? = _; rw [e1, e2], ?_⟩
    have := List.all_eq_true.1 hg opsA[i] (List.mem_of_getElem? (by rw [Array.getElem?_toList, e1, e2]))
    simpa using this
  have gB : ∀ i, i < opsB.size → ∃ o, opsB[i]? = some o ∧ ops[opsA.size + i]? = some o ∧ o.guard = none := by
    intro i hi
    have e1 : ops[opsA.size + i]? = opsB[i]? := by
      rw [← Array.getElem?_toList, hab, List.getElem?_append_right (by simp), Array.getElem?_toList]
      simp
    have e2 : opsB[i]? = some opsB[i] := Array.getElem?_eq_getElem hi
    refine ⟨_, e2, by rw [e1, e2], ?_⟩
    have := List.all_eq_true.1 hg opsB[i] (List.mem_of_getElem? (by rw [Array.getElem?_toList, e1, e2]))
    simpa using this
  rw [hrange]
  refine ops_gen (ops1 := opsA) (Q1 := fun e a' w' => e = .normal ∧ ∃ ρ' I', Sim N dfs ρ' I' w' a' (fr.put t (.fmap mk)).get h (fun _ => False) ∧ WentN n0 ρ I w h ρ' I' w' h) id' _ (fun e a w hne q => absurd q.1 hne) ?_ _ (fun i hi => gA i (List.mem_range.1 hi)) a w
    (lit_region hmt hkt hr hmk htN S)
  rintro a1 w1 ⟨_, ρ1, I1, s1, W1⟩
  have hB' := ops_gen (P := P) (ops1 := opsB) (ops2 := ops) (Q1 := fun e a' w' => e = .normal ∧ Q .normal a' w') (Q2 := Q) (fun i => opsA.size + i) [] (fun e a w hne q => absurd q.1 hne) (fun a w q => q.2) (List.range opsB.size) (fun i hi => gB i (List.mem_range.1 hi)) a1 w1
    (region_ops hO hinB s1 (ofI hB) (fun ρ' I' w' a' s W => ⟨rfl, K .normal _ _ ρ' I' w' a' .normal .rfl rfl s (W1.trans W.toN)⟩))
  rw [List.append_nil] at hB'
  exact hB'
/-- a region that begins with a map literal of k operations -/
theorem EndsIn.lit (k : Nat) (hO : OrcSound P T.o) (hc : headOk c = true) (hd : dstsIn fn.ntmps c = true)
    (hmt : P.underlying m = some (.map kt et)) (hkt : P.underlying kt = some d) (hr : litHead d t m ((headOps c).toList.take k) = some es) (hmk : es.map (fun e => (e.key, e.val)) = mk.ents) (htN : Nat.blt t fn.ntmps = true)
    (hB : (execBN P T noLoopsT fuel n0 on [] (partB k c) (fr.put t (.fmap mk)) h).is (.normal, fr3, h3)) (H : EndsIn P fn n0 (tailC c) fr3 h3 fin h') : EndsIn P fn n0 c fr h fin h' := by
  have htN : t < fn.ntmps := by simpa [Nat.blt_eq] using htN
  unfold headOk at hc
  split at hc
  · rename_i id ops rest
    simp only [dstsIn, Bool.and_eq_true] at hd
    unfold execBN at hB
    rw [Tr.is_bind] at hB
    obtain ⟨⟨x, fr', g'⟩, hB1, hB2⟩ := hB
    have hx : x = .normal := by
      cases x with
      | normal => rfl
      | pan v => simp only at hB2; rw [Tr.is_leaf] at hB2; cases hB2
      | exit _ =>
        simp only at hB2
        split at hB2
        · rw [Tr.is_leaf] at hB2; cases hB2
        · exact (Tr.is_no.1 hB2).elim
      | ret =>
        simp only at hB2
        split at hB2
        · rw [Tr.is_leaf] at hB2; cases hB2
        · exact (Tr.is_no.1 hB2).elim
    subst hx
    simp only at hB2
    split at hB2
    · rename_i q ht
      rw [Tr.is_leaf] at hB2
      cases hB2
      refine Runs.seq ((region_lit (opsA := ⟨ops.toList.take k⟩) (opsB := ⟨ops.toList.drop k⟩) hO (List.take_append_drop k ops.toList).symm hc (by simpa only [dstsIn] using hd.1) hmt hkt hr hmk htN hB1).mono ?_)
      rintro y f g ⟨rfl, hw⟩
      exact Runs.weaken hw (Runs.weaken (tell_weaker ht) H)
    · exact (Tr.is_no.1 hB2).elim
  · cases hc
def constOf : Code → Option Nat
  | .seq (.region _ ops false) _ => (match ops.toList with
    | [o] => (match o.op, o.dst, o.guard with
      | .assign (.const _), some t, none => some t
      | _, _, _ => none)
    | _ => none)
  | _ => none
/-- a region that sets one slot, of which one wants to know nothing, to a constant -/
theorem EndsIn.skipC (hc : constOf c = some t) (ht : Nat.blt t fn.ntmps = true) (hf : fr.get t = none) (H : EndsIn P fn n0 (tailC c) fr h fin h') : EndsIn P fn n0 c fr h fin h' := by
  have htN : t < fn.ntmps := by simpa [Nat.blt_eq] using ht
  unfold constOf at hc
  split at hc <;> try simp only [reduceCtorEq] at hc
  rename_i id ops rest
  split at hc <;> try simp only [reduceCtorEq] at hc
  rename_i o hl
  split at hc <;> simp only [Option.some.injEq, reduceCtorEq] at hc
  rename_i v t' e1 e2 e3
  subst hc
  refine Runs.seq (Runs.mono (R := fun x f g => x = .normal ∧ f = fr ∧ g = h) ?_ ?_)
  · intro Q dfs ρ I w a S K
    refine wp_region ?_
    have h0 : ops[0]? = some o := by rw [← Array.getElem?_toList, hl]; rfl
    have hsz : ops.size = 1 := by rw [← Array.length_toList, hl]; rfl
    have hw : ∀ y, Region.wanted o y = true := by intro y; unfold Region.wanted; rw [e3]
    rw [hsz]
    show wpOps P ops Q [0] a w
    simp only [wpOps, h0, hw, if_true]
    left
    have hrun : (execOp a.eval o).run P w = .ok (.value v) w := by simp [execOp, e1]; rfl
    unfold Oper.wp
    rw [hrun, Oper.upon_value, e2]
    refine K .normal fr h ρ I w _ .normal ⟨rfl, rfl, rfl⟩ rfl ⟨?_, ?_, ?_, S.rel⟩ .refl
    · rw [put_size]; exact S.size
    · rw [put_defers]; exact S.defers
    · have F2 := FRel.put (dst := some t') (v := .any) (v' := v) S.fr (.any _ _) (fun d hd => by cases hd; rw [S.size]; exact htN)
      intro i u hg
      refine F2 i u ?_
      show (if i = t' then some V.any else fr.get i) = some u
      rw [if_neg (fun e => by subst e; rw [hf] at hg; cases hg)]
      exact hg
  · rintro x f g ⟨rfl, rfl, rfl⟩
    exact H
end
end Go.Lh
end
