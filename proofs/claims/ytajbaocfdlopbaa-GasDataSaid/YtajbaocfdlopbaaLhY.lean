/- Regions: sound. -/
import Derived.Test.YtajbaocfdlopbaaLhX
set_option linter.unusedSimpArgs false
set_option linter.unusedVariables false
namespace Go.Lh

theorem Rel.world {ρ : Ren} {I : Nat → Prop} {w w' : World} {h : Heap} {F : Nat → Prop} (R : Rel ρ I w h F) (e : w'.heap = w.heap) : Rel ρ I w' h F where
  blk i b hb hd := by
    obtain ⟨l, h1, ⟨⟨C, el, fz, m1, m2, m3, m4⟩, h3⟩, h4⟩ := R.blk i b hb hd
    refine ⟨l, h1, ⟨⟨C, el, fz, by rw [e]; exact m1, m2, m3, fun o ho => ?_⟩, h3⟩, h4⟩
    obtain ⟨c, c1, c2⟩ := m4 o ho
    exact ⟨c, c1, c2.mono (fun _ h => h) (fun _ _ => by rw [e]) _ (fun _ _ h => h)⟩
  free := R.free
  out := R.out
  apart := R.apart
  lt b hb := by rw [e]; exact R.lt b hb

theorem FRel.world {ρ : Ren} {I : Nat → Prop} {w w' : World} {g : Fm} {a : Act} (F : FRel I w ρ g a) (e : w'.heap = w.heap) : FRel I w' ρ g a :=
  fun t v h => (F t v h).mono (fun _ h => h) (fun _ _ => by rw [e]) _ (fun _ _ h => h)

theorem Went.world {ρ : Ren} {I : Nat → Prop} {w w' : World} {h : Heap} (e : w'.heap = w.heap) (e1 : w'.os = w.os) (e2 : w'.tape = w.tape) (e3 : w'.output = w.output) : Went ρ I w h ρ I w' h :=
  ⟨fun _ _ h => h, fun _ h => h, e1, e2, e3, by rw [e]; exact Nat.le_refl _, fun _ _ _ => by rw [e], fun _ h => .inl h, fun _ h => .inl h⟩

theorem pad_get {h : Heap} {n i : Nat} {b : Blk} (hb : (h ++ List.replicate n Blk.dead)[i]? = some b) (hd : b ≠ .dead) : h[i]? = some b := by
  rcases Nat.lt_or_ge i h.length with hlt | hge
  · rwa [List.getElem?_append_left hlt] at hb
  · rw [List.getElem?_append_right hge] at hb
    have := List.mem_of_getElem? hb
    rw [List.mem_replicate] at this
    exact (hd this.2).elim

theorem Rel.pad {ρ : Ren} {I : Nat → Prop} {w : World} {h : Heap} {F : Nat → Prop} (R : Rel ρ I w h F) (n : Nat) : Rel ρ I w (h ++ List.replicate n .dead) (fun i => h.length ≤ i) where
  blk i b hb hd := R.blk i b (pad_get hb hd) hd
  free i hi := R.out i hi
  out i hi := R.out i (by simp at hi; omega)
  apart i j x y l l' hij hx hxd hy hyd := R.apart i j x y l l' hij (pad_get hx hxd) hxd (pad_get hy hyd) hyd
  lt := R.lt

theorem Went.pad (ρ : Ren) (I : Nat → Prop) (w : World) (h : Heap) (n : Nat) : Went ρ I w h ρ I w (h ++ List.replicate n .dead) :=
  ⟨fun _ _ h => h, fun _ h => h, rfl, rfl, rfl, Nat.le_refl _, fun _ _ _ => rfl, fun _ ⟨i, x, l, h1, h2, h3⟩ => .inl ⟨i, x, l, pad_get h1 h2, h2, h3⟩, fun _ h => .inl h⟩

section
variable {P : Program} {O : Orc} {N : Nat}

def FreeOf (P : Program) (ops : Array Oper) (base : Nat) (listed : Array Bool) : Nat → Prop := fun i =>
  ∃ k o, ops[k]? = some o ∧ Op.makes P o.op = true ∧ listed.getD k true = false ∧ i = mkIdx P ops base k

theorem nMakes_take (P : Program) {l : List Oper} {k : Nat} {o : Oper} (h : l[k]? = some o) (hm : Op.makes P o.op = true) : nMakes P (l.take (k + 1)) = nMakes P (l.take k) + 1 := by
  rw [List.take_add_one, h, Option.toList_some, nMakes_append]
  simp [nMakes, hm]

theorem nMakes_take_le (P : Program) (l : List Oper) {i j : Nat} (h : i ≤ j) : nMakes P (l.take i) ≤ nMakes P (l.take j) := by
  obtain ⟨d, rfl⟩ := Nat.le.dest h
  rw [List.take_add, nMakes_append]
  omega

theorem nMakes_take_all (P : Program) (l : List Oper) (i : Nat) : nMakes P (l.take i) ≤ nMakes P l := by
  conv => rhs; rw [← List.take_append_drop i l, nMakes_append]
  omega

theorem mkIdx_lt {ops : Array Oper} {base i j : Nat} {o : Oper} (h : ops[i]? = some o) (hm : Op.makes P o.op = true) (hij : i < j) : mkIdx P ops base i < mkIdx P ops base j := by
  unfold mkIdx
  have h1 := nMakes_take P (l := ops.toList) (k := i) (by rw [Array.getElem?_toList]; exact h) hm
  have h2 := nMakes_take_le P ops.toList (i := i + 1) (j := j) hij
  omega

theorem mkIdx_top {ops : Array Oper} {base i : Nat} {o : Oper} (h : ops[i]? = some o) (hm : Op.makes P o.op = true) : mkIdx P ops base i < base + nMakes P ops.toList := by
  unfold mkIdx
  have h1 := nMakes_take P (l := ops.toList) (k := i) (by rw [Array.getElem?_toList]; exact h) hm
  have h2 := nMakes_take_all P ops.toList (i + 1)
  omega

theorem getD_false_set {l : Array Bool} {i k : Nat} (hk : k < l.size) (h : (l.setIfInBounds i true).getD k true = false) : k ≠ i ∧ l.getD k true = false := by
  by_cases e : i = k
  · subst e; simp [Array.getD, hk] at h
  · rw [getD_set_ne true e] at h; exact ⟨Ne.symm e, h⟩

theorem wpAny_of_LAny (hO : OrcSound P O) {ops : Array Oper} {D : List Tch} {base : Nat} (Q : Exit → Act → World → Prop) (Ql : LSt → Prop)
    (hin : ∀ d, d ∈ ops.toList.filterMap (·.dst) → d < N) :
    ∀ (fuel : Nat) (listed : Array Bool) (g : Fm) (h : Heap) (ρ : Ren) (I : Nat → Prop) (w : World) (a : Act), listed.size = ops.size →
      Sim N ρ I w a g h (FreeOf P ops base listed) → base + nMakes P ops.toList ≤ h.length → LAny ops (stC P O ops D base) Ql fuel listed (g, h) →
      (∀ ρ' I' w' a' g' h', Ql (g', h') → Sim N ρ' I' w' a' g' h' (fun _ => False) → Went ρ I w h ρ' I' w' h' → Q .normal a' w') →
      wpAny P .any ops Q fuel listed a w
  | 0, listed, g, h, ρ, I, w, a, _, S, _, H, hq =>
    ⟨H.1, hq ρ I w a g h H.2 ⟨S.size, S.defers, S.fr, S.rel.weaken (fun _ h => h.elim)⟩ (.refl _ _ _ _)⟩
  | fuel + 1, listed, g, h, ρ, I, w, a, hsz, S, hlen, H, hq => by
    refine ⟨fun e => hq ρ I w a g h (H.1 e) ⟨S.size, S.defers, S.fr, S.rel.weaken (fun _ h => h.elim)⟩ (.refl _ _ _ _), fun i hi => ?_⟩
    obtain ⟨⟨g1, h1⟩, hst, H'⟩ := H.2 i hi
    obtain ⟨hun, o, ho, _⟩ := mem_ready.1 hi
    have hilt : i < ops.size := (Array.getElem?_eq_some_iff.1 ho).1
    have hdst : ∀ d, o.dst = some d → d < N := fun d hd => hin d (List.mem_filterMap.2 ⟨o, Array.mem_toList_iff.2 (Array.mem_of_getElem? ho), hd⟩)
    have hFree : ∀ k, FreeOf P ops base (listed.setIfInBounds i true) k → FreeOf P ops base listed k ∧ (Op.makes P o.op = true → k ≠ mkIdx P ops base i) := by
      rintro k ⟨j, oj, hj, hmj, hlj, rfl⟩
      have hjs : j < listed.size := by rw [hsz]; exact (Array.getElem?_eq_some_iff.1 hj).1
      obtain ⟨hne, hlj'⟩ := getD_false_set hjs hlj
      refine ⟨⟨j, oj, hj, hmj, hlj', rfl⟩, fun hmi e => ?_⟩
      rcases Nat.lt_or_gt_of_ne hne with h0 | h0
      · have := mkIdx_lt (P := P) (base := base) hj hmj h0; omega
      · have := mkIdx_lt (P := P) (base := base) ho hmi h0; omega
    have hFlt : ∀ k, FreeOf P ops base listed k → k < base + nMakes P ops.toList := by
      rintro k ⟨j, oj, hj, hmj, hlj, rfl⟩
      exact mkIdx_top hj hmj
    unfold wpOp
    simp only [ho]
    unfold stC at hst
    simp only [ho] at hst
    split at hst <;> try simp only [reduceCtorEq] at hst
    rename_i o' t ho' ht
    simp only [Option.some.injEq] at ho'
    subst ho'
    split at hst <;> try simp only [reduceCtorEq] at hst
    · rename_i hw
      rw [want_sound (ops := ops) S.fr (by rw [S.size]; exact hin) hw]
      simp only [if_true]
      left
      split at hst <;> try simp only [reduceCtorEq] at hst
      rename_i R W c v h2 htch hstep
      split at hst <;> simp only [Option.some.injEq, Prod.mk.injEq, reduceCtorEq] at hst
      obtain ⟨rfl, rfl⟩ := hst
      have hle := stepO_len hstep
      obtain ⟨id2, hid2, hmk, hleft⟩ : ∃ id2, stepO P O (mkIdx P ops base i) g h o.op = stepO P O id2 g h o.op ∧ (Op.makes P o.op = true → FreeOf P ops base listed id2 ∧ h[id2]? = some .dead) ∧
          (∀ k, FreeOf P ops base (listed.setIfInBounds i true) k → FreeOf P ops base listed k ∧ k ≠ id2) := by
        cases hm : Op.makes P o.op with
        | true =>
          have hF : FreeOf P ops base listed (mkIdx P ops base i) := ⟨i, o, ho, hm, hun, rfl⟩
          exact ⟨_, rfl, fun _ => ⟨hF, dead_of_free S.rel hF (by have := hFlt _ hF; omega)⟩, fun k hk => ⟨(hFree k hk).1, (hFree k hk).2 hm⟩⟩
        | false =>
          exact ⟨h.length, stepO_idx hm, by simp, fun k hk => ⟨(hFree k hk).1, by have := hFlt _ (hFree k hk).1; omega⟩⟩
      rw [hid2] at hstep
      refine stepO_wp hO S.rel S.fr hmk hstep _ Q ?_ (fun _ e => by cases e)
      intro v' e w' ρ' I' u hu hR hW
      cases e
      have L := hW.le S.rel
      refine wpAny_of_LAny hO Q Ql hin fuel _ _ _ ρ' I' w' (a.put o.dst u) (by simpa using hsz)
        ⟨by rw [put_size]; exact S.size, by rw [put_defers]; exact S.defers, (S.fr.le L).put hu (fun d hd => by rw [S.size]; exact hdst d hd), hR.weaken (fun k hk => ?_)⟩
        (by omega) H' (fun ρ₂ I₂ w₂ a₂ g₂ h₂ e1 s1 w1 => hq ρ₂ I₂ w₂ a₂ g₂ h₂ e1 s1 (hW.trans w1))
      obtain ⟨q1, q2⟩ := hleft k hk
      refine ⟨q1, q2, ?_⟩
      have := hFlt k q1
      omega
    · rename_i hw
      rw [want_sound (ops := ops) S.fr (by rw [S.size]; exact hin) hw]
      simp only [Bool.false_eq_true, if_false]
      split at hst <;> simp only [Option.some.injEq, Prod.mk.injEq, reduceCtorEq] at hst
      obtain ⟨rfl, rfl⟩ := hst
      exact wpAny_of_LAny hO Q Ql hin fuel _ _ h ρ I w (a.put o.dst undef) (by simpa using hsz)
        ⟨by rw [put_size]; exact S.size, by rw [put_defers]; exact S.defers, S.fr.put (.tup _ _ _ (.nil _)) (fun d hd => by rw [S.size]; exact hdst d hd), S.rel.weaken (fun k hk => (hFree k hk).1)⟩
        hlen H' hq

theorem runRegion_sound (hO : OrcSound P O) {ops : Array Oper} {id : Nat} {draw : Bool} (hm : draw = true → P.follows .mixedOrders = true) (hin : ∀ d, d ∈ ops.toList.filterMap (·.dst) → d < N)
    {Q : Exit → Act → World → Prop} {ρ : Ren} {I : Nat → Prop} {w : World} {a : Act} {fr fr' : Fr} {h h' : Heap} {F : Nat → Prop} {x : Option V}
    (S : Sim N ρ I w a fr.get h F) (hr : runRegion P O ops draw fr h = some (true, x, fr', h'))
    (hq : ∀ ρ' I' w' a', x = none → Sim N ρ' I' w' a' fr'.get h' (fun _ => False) → Went ρ I w h ρ' I' w' h' → Q .normal a' w')
    (hp : ∀ v ρ' I' w' a' v', x = some v → VRel I' w' ρ' v v' → Sim N ρ' I' w' a' fr'.get h' (fun _ => False) → Went ρ I w h ρ' I' w' h' → Q (.panic [{ v := v', recovered := false }]) a' w') :
    (Code.region id ops draw).wp P Q a w := by
  unfold runRegion at hr
  simp only at hr
  have hl0 : h.length + nMakes P ops.toList ≤ (h ++ List.replicate (nMakes P ops.toList) Blk.dead).length := by simp
  split at hr
  · rename_i hd
    subst hd
    split at hr <;> try simp only [reduceCtorEq] at hr
    rename_i hok
    split at hr <;> try simp only [reduceCtorEq] at hr
    rename_i k r hrun
    simp only [Option.some.injEq, Prod.mk.injEq] at hr
    obtain ⟨rfl, rfl, rfl⟩ := hr
    refine wp_region_any (hm rfl) ?_
    unfold drawOk at hok
    simp only [Bool.and_eq_true] at hok
    obtain ⟨⟨_, hb⟩, hok⟩ := hok
    split at hok <;> try simp only [Bool.false_eq_true] at hok
    rename_i D ht
    have hL := LAny_lex (P := P) (O := O) (ops := ops) (base := h.length) (D := D) (Q := fun s => s = (fr'.get, h')) rfl ops.toList [] [] D fr _ (Array.replicate ops.size false) rfl rfl rfl ht hrun hok hb (by simp)
      (fun j hj => by simp [Array.getD, hj])
    refine wpAny_of_LAny (N := N) (P := P) (base := h.length) (D := D) hO Q (fun s => s = (fr'.get, h')) hin ops.size _ fr.get _ ρ I _ a (by simp) ⟨S.size, S.defers, S.fr.world rfl, ((S.rel.pad _).weaken ?_).world rfl⟩ hl0 ?_ ?_
    · rintro i ⟨k, o, _, _, _, rfl⟩
      unfold mkIdx; omega
    · simpa using hL
    · rintro ρ' I' w' a' g' h'' e s1 w1
      simp only [Prod.mk.injEq] at e
      obtain ⟨rfl, rfl⟩ := e
      exact hq ρ' I' w' a' rfl s1 ((Went.pad ρ I w h (nMakes P ops.toList)).trans (Went.trans (Went.world (w' := { w with drawn := w.drawn + 1 }) rfl rfl rfl rfl) w1))
  · rename_i hd
    have : draw = false := by simpa using hd
    subst this
    refine wp_region ?_
    have := runOps_sound (N := N) hO Q hin ops.toList [] h.length fr _ ρ I w a x fr' h' rfl ⟨S.size, S.defers, S.fr, (S.rel.pad _).weaken (fun i hi => hi.1)⟩ hl0 hr
      (fun ρ' I' w' a' e s1 w1 => hq ρ' I' w' a' e s1 ((Went.pad ρ I w h _).trans w1)) (fun v ρ' I' w' a' v' e r1 s1 w1 => hp v ρ' I' w' a' v' e r1 s1 ((Went.pad ρ I w h _).trans w1))
    simpa [List.range_eq_range'] using this
end
end Go.Lh
