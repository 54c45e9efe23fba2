/- Functions, and ways to tell a state. -/
import Derived.Test.YtajbaocfdlopbaaLhZ
set_option linter.unusedSimpArgs false
set_option linter.unusedVariables false
namespace Go.Lh

/-- a state told by fewer blocks and slots -/
def upto : Nat → List Nat
  | 0 => []
  | n + 1 => upto n ++ [n]

def prefixOk (rd : List Nat) : Nat → Bool
  | 0 => true
  | n + 1 => (match rd[n]? with | some i => Nat.beq i n | none => false) && prefixOk rd n

theorem prefixOk_iff {rd : List Nat} : ∀ {n : Nat}, prefixOk rd n = true → ∀ k, k < n → rd[k]? = some k
  | 0, _, k, hk => by omega
  | n + 1, h, k, hk => by
    simp only [prefixOk, Bool.and_eq_true] at h
    by_cases e : k = n
    · subst e
      have := h.1
      split at this
      · rename_i i hi; rw [hi, Nat.eq_of_beq_eq_true this]
      · cases this
    · exact prefixOk_iff h.2 k (by omega)

def nodupN : List Nat → Bool
  | [] => true
  | i :: r => !memN i r && nodupN r

theorem nodupN_iff : ∀ {l : List Nat}, nodupN l = true → l.Nodup
  | [], _ => .nil
  | i :: r, h => by
    simp only [nodupN, Bool.and_eq_true, Bool.not_eq_true'] at h
    refine List.nodup_cons.2 ⟨fun hm => ?_, nodupN_iff h.2⟩
    rw [(memN_iff i r).2 hm] at h
    cases h.1

def subRen (rd : List Nat) (ρ : Ren) : Ren := fun k => match rd[k]? with | some i => ρ i | none => none

section
variable {P : Program} {O : Orc} {N n0 : Nat} {fr : Fr} {h : Heap} {R R' : X → Fr → Heap → Prop} {I : Nat → Prop} {w : World} {ρ : Ren} {F : Nat → Prop}

theorem sub_rel {rd : List Nat} {hs2 : Heap} (hnd : rd.Nodup) (R : Rel ρ I w h F) (hsub : subHeap h (posOf rd) rd = some hs2) :
    (∀ i k q, posOf rd i = some k → ρ i = some q → subRen rd ρ k = some q) ∧ Rel (subRen rd ρ) I w hs2 (fun i => hs2.length ≤ i) ∧ ∀ b, Own (subRen rd ρ) hs2 b → Own ρ h b := by
  obtain ⟨sl, sg⟩ := subHeap_get hsub
  have hτ : ∀ i k q, posOf rd i = some k → ρ i = some q → subRen rd ρ k = some q := by
    intro i k q hk hq
    simp only [subRen, posOf_get hk, hq]
  have rdloc : ∀ (k i : Nat), rd[k]? = some i → ∃ (b : Blk) (q : Loc), h[i]? = some b ∧ b ≠ .dead ∧ ρ i = some q ∧ BRel I w ρ q b ∧ ¬ I q.b := by
    intro k i hk
    obtain ⟨b, _, hb, hd, _⟩ := sg k i hk
    have hne : b ≠ .dead := by rintro rfl; simp [isDead] at hd
    obtain ⟨q, h1, h2, h3⟩ := R.blk i b hb hne
    exact ⟨b, q, hb, hne, h1, h2, h3⟩
  refine ⟨hτ, ?_, ?_⟩
  · have hout : ∀ i, hs2.length ≤ i → subRen rd ρ i = none := by
      intro i hi
      simp only [subRen]
      rw [List.getElem?_eq_none (by omega)]
    refine ⟨?_, hout, hout, ?_, R.lt⟩
    · intro k b hb hne
      have hk : k < rd.length := by rw [← sl]; exact (List.getElem?_eq_some_iff.1 hb).1
      have hki : rd[k]? = some rd[k] := List.getElem?_eq_getElem hk
      obtain ⟨c, c', hc, hcd, hcr, hck⟩ := sg k _ hki
      rw [hb] at hck; cases hck
      have hne : c ≠ .dead := by rintro rfl; simp [isDead] at hcd
      obtain ⟨q, h1, h2, h3⟩ := R.blk _ c hc hne
      exact ⟨q, by simp only [subRen, hki, h1], renB_sound hτ hcr h2, h3⟩
    · intro i j x y li lj hij hx hxd hy hyd hli hlj
      have hi : i < rd.length := by rw [← sl]; exact (List.getElem?_eq_some_iff.1 hx).1
      have hj : j < rd.length := by rw [← sl]; exact (List.getElem?_eq_some_iff.1 hy).1
      have hki := List.getElem?_eq_getElem hi
      have hkj := List.getElem?_eq_getElem hj
      obtain ⟨b1, q1, a1, a2, a3, _⟩ := rdloc i _ hki
      obtain ⟨b2, q2, c1, c2, c3, _⟩ := rdloc j _ hkj
      simp only [subRen, hki] at hli
      simp only [subRen, hkj] at hlj
      exact R.apart _ _ b1 b2 li lj (fun (e : rd[i] = rd[j]) => hij (nodup_inj hnd hki (by rw [e]; exact hkj))) a1 a2 c1 c2 hli hlj
  · rintro b ⟨k, x, q, hx, hxd, hq, rfl⟩
    have hk : k < rd.length := by rw [← sl]; exact (List.getElem?_eq_some_iff.1 hx).1
    have hki := List.getElem?_eq_getElem hk
    obtain ⟨c, q2, a1, a2, a3, _⟩ := rdloc k _ hki
    simp only [subRen, hki] at hq
    exact ⟨_, c, q, a1, a2, hq, rfl⟩

theorem sub_went {rd : List Nat} {hs2 : Heap} (hp : prefixOk rd n0 = true) (ho : ∀ b, Own (subRen rd ρ) hs2 b → Own ρ h b) : WentN n0 ρ I w h (subRen rd ρ) I w hs2 where
  ren i l hi hl := by simp only [subRen, prefixOk_iff hp i hi, hl]
  imm _ h := h
  os := rfl
  tape := rfl
  output := rfl
  size := Nat.le_refl _
  keep _ _ _ := rfl
  own b hb := .inl (ho b hb)
  fresh _ hb := .inl hb

def subFr (τ : Nat → Option Nat) (fr : Fr) : List Nat → Option Fr
  | [] => some []
  | t :: r => match fr.get t, subFr τ fr r with
    | some v, some l => (match renV τ v with | some u => some ((t, u) :: l) | none => none)
    | _, _ => none

theorem subFr_get {τ : Nat → Option Nat} {fr : Fr} : ∀ {ts : List Nat} {f2 : Fr}, subFr τ fr ts = some f2 → ∀ t u, f2.get t = some u → ∃ v, fr.get t = some v ∧ renV τ v = some u
  | [], f2, h, t, u, hu => by simp only [subFr, Option.some.injEq] at h; subst h; simp [Fr.get] at hu
  | x :: r, f2, h, t, u, hu => by
    simp only [subFr] at h
    split at h <;> try simp only [reduceCtorEq] at h
    rename_i v l hv hl
    split at h <;> simp only [Option.some.injEq, reduceCtorEq] at h
    rename_i y hy
    subst h
    simp only [Fr.get] at hu
    split at hu
    · rename_i e
      have := Nat.eq_of_beq_eq_true e
      subst this
      cases hu
      exact ⟨v, hv, hy⟩
    · exact subFr_get hl t u hu

/-- the state, told by the blocks rd and the slots ts -/
def tell (n0 : Nat) (rd ts : List Nat) (fr : Fr) (h : Heap) : Option (Fr × Heap) :=
  if nodupN rd && prefixOk rd n0 then (match subFr (posOf rd) fr ts, subHeap h (posOf rd) rd with
    | some f, some k => some (f, k)
    | _, _ => none) else none

theorem tell_weaker {rd ts : List Nat} {f2 : Fr} {h2 : Heap} (ht : tell n0 rd ts fr h = some (f2, h2)) : Weaker N n0 fr h f2 h2 := by
  unfold tell at ht
  split at ht <;> try simp only [reduceCtorEq] at ht
  rename_i hc
  rw [Bool.and_eq_true] at hc
  split at ht <;> simp only [Option.some.injEq, Prod.mk.injEq, reduceCtorEq] at ht
  rename_i f k hf hk
  obtain ⟨rfl, rfl⟩ := ht
  intro ρ I w a S
  obtain ⟨h1, h2, h3⟩ := sub_rel (nodupN_iff hc.1) S.rel hk
  refine ⟨subRen rd ρ, ⟨S.size, S.defers, ?_, h2.weaken (fun _ h => h.elim)⟩, sub_went hc.2 h3⟩
  intro t u hu
  obtain ⟨v, hv, hr⟩ := subFr_get hf t u hu
  exact renV_sound h1 (S.fr t v hv) hr

/-! ### functions -/

def argsFr : Nat → List V → Fr
  | _, [] => []
  | i, v :: r => (i, v) :: argsFr (i + 1) r

theorem argsFr_get : ∀ (l : List V) (i t : Nat) (v : V), (argsFr i l).get t = some v → i ≤ t ∧ l[t - i]? = some v
  | [], i, t, v, h => by simp [argsFr, Fr.get] at h
  | x :: r, i, t, v, h => by
    simp only [argsFr, Fr.get] at h
    split at h
    · rename_i e
      have := Nat.eq_of_beq_eq_true e
      subst this
      cases h
      exact ⟨Nat.le_refl _, by simp⟩
    · obtain ⟨h1, h2⟩ := argsFr_get r (i + 1) t v h
      refine ⟨by omega, ?_⟩
      rw [show t - i = (t - (i + 1)) + 1 from by omega]
      simpa using h2

def resOne (P : Program) (g : Fm) (h : Heap) : ResultVar → Option (Bool × V)
  | .tmp t => (match g t with | some v => some (true, v) | none => none)
  | .cell a t => (match g a, isAggT P t, sizeT P t with
    | some (.ptr i o), some true, some n => (match h[i]? with
      | some b => if isDead b then none else some (decide (o + n ≤ b.len), .agg (b.atN o n))
      | none => none)
    | some (.ptr i o), some false, some _ => (match h[i]? with
      | some b => if isDead b then none else some (decide (o < b.len), b.at o)
      | none => none)
    | _, _, _ => none)

def resRun (P : Program) (w : World) (a : Act) (r : ResultVar) (v' : Value) : Prop :=
  match r with
  | .tmp t => a.tmps.getD t undef = v'
  | .cell x t => ∃ ad, (asAddr (a.tmps.getD x undef)).run P w = .ok ad w ∧ (loadVar t ad).run P w = .ok v' w

theorem resOne_sound {g : Fm} {a : Act} {r : ResultVar} {v : V} (R : Rel ρ I w h F) (FR : FRel I w ρ g a) (hs : resOne P g h r = some (true, v)) :
    ∃ v', resRun P w a r v' ∧ VRel I w ρ v v' := by
  cases r with
  | tmp t =>
    simp only [resOne] at hs
    split at hs <;> simp only [Option.some.injEq, Prod.mk.injEq, reduceCtorEq, true_and] at hs
    rename_i u hu
    subst hs
    exact ⟨_, rfl, FR t _ hu⟩
  | cell x t =>
    simp only [resOne] at hs
    split at hs <;> try simp only [reduceCtorEq] at hs
    · rename_i i q n hx hag hsz
      split at hs <;> try simp only [reduceCtorEq] at hs
      rename_i b hb
      split at hs <;> simp at hs
      rename_i hdead
      obtain ⟨h1, rfl⟩ := hs
      have r := FR x _ hx
      cases hv : a.tmps.getD x undef <;> rw [hv] at r <;> cases r
      rename_i l hl
      obtain ⟨C, e, fz, m1, m2, m3, m4, m5, m6⟩ := live_blk R hb (by simpa using hdead) hl
      have hat := atN_rel m4 n q h1
      rw [List.drop_drop] at hat
      refine ⟨.agg ⟨(C.toList.drop (l.d + q)).take n⟩, ?_, .agg _ _ _ hat⟩
      have hlen : ((C.toList.drop (l.d + q)).take n).length = n := by simp; omega
      have hrun := run_loadCells_list (P := P) (w := w) ⟨l.b, l.d + q, none⟩ ((C.toList.drop (l.d + q)).take n) (fun j c hj => by
        rw [add_eq, cell_at m1]
        rw [List.getElem?_take] at hj
        split at hj
        · rw [List.getElem?_drop, Array.getElem?_toList] at hj; exact hj
        · cases hj)
      rw [hlen] at hrun
      exact ⟨⟨l.b, l.d + q, none⟩, by rw [hv]; simp [asAddr], by simp [loadVar, run_isAggT hag, run_sizeT hsz, hrun]⟩
    · rename_i i q n hx hag hsz
      split at hs <;> try simp only [reduceCtorEq] at hs
      rename_i b hb
      split at hs <;> simp at hs
      rename_i hdead
      obtain ⟨h1, rfl⟩ := hs
      have r := FR x _ hx
      cases hv : a.tmps.getD x undef <;> rw [hv] at r <;> cases r
      rename_i l hl
      obtain ⟨C, e, fz, m1, m2, m3, m4, m5, m6⟩ := live_blk R hb (by simpa using hdead) hl
      obtain ⟨c, hc, hr⟩ := m4 q h1
      rw [List.getElem?_drop, Array.getElem?_toList] at hc
      refine ⟨c, ?_, hr⟩
      have : w.cell? ⟨l.b, l.d + q, none⟩ = some c := by rw [cell_at m1]; exact hc
      exact ⟨⟨l.b, l.d + q, none⟩, by rw [hv]; simp [asAddr], by simp [loadVar, run_isAggT hag, this]⟩

def resV (P : Program) (fn : Func) (g : Fm) (h : Heap) : Option (Bool × V) :=
  match fn.results.toList with
  | [] => some (true, .tup [])
  | [a] => resOne P g h a
  | [a, b] => (match resOne P g h a, resOne P g h b with | some (k, x), some (l, y) => some (k && l, .tup [x, y]) | _, _ => none)
  | [a, b, c] => (match resOne P g h a, resOne P g h b, resOne P g h c with | some (k, x), some (l, y), some (m, z) => some (k && l && m, .tup [x, y, z]) | _, _, _ => none)
  | _ => none

theorem resV_sound {fn : Func} {g : Fm} {a : Act} {v : V} (R : Rel ρ I w h F) (FR : FRel I w ρ g a) (hs : resV P fn g h = some (true, v)) : ∃ v', (results fn a.tmps).run P w = .ok v' w ∧ VRel I w ρ v v' := by
  unfold resV at hs
  split at hs
  · rename_i e
    cases hs
    have : fn.results = #[] := by apply Array.ext'; simpa using e
    exact ⟨_, results_none this _ _ _, .tup _ _ _ (.nil _)⟩
  · rename_i r e
    have : fn.results = #[r] := by apply Array.ext'; simpa using e
    obtain ⟨x, hx, hr⟩ := resOne_sound R FR hs
    refine ⟨x, ?_, hr⟩
    cases r with
    | tmp t => simp only [resRun] at hx; rw [Array.getD_eq_getD_getElem?] at hx; simp [results, this, hx]
    | cell x t => obtain ⟨ad, e1, e2⟩ := hx; rw [Array.getD_eq_getD_getElem?] at e1; simp [results, this, e1, e2]
  · rename_i r s e
    have : fn.results = #[r, s] := by apply Array.ext'; simpa using e
    split at hs <;> simp only [Option.some.injEq, Prod.mk.injEq, Bool.and_eq_true, reduceCtorEq] at hs
    rename_i k x l y h1 h2
    obtain ⟨⟨rfl, rfl⟩, rfl⟩ := hs
    obtain ⟨x', hx, hrx⟩ := resOne_sound R FR h1
    obtain ⟨y', hy, hry⟩ := resOne_sound R FR h2
    refine ⟨.tuple #[x', y'], ?_, .tup _ _ _ (.cons _ _ _ _ _ hrx (.cons _ _ _ _ _ hry (.nil _)))⟩
    cases r <;> cases s <;> simp only [resRun, Array.getD_eq_getD_getElem?] at hx hy <;> (try obtain ⟨ad, ha, hb⟩ := hx) <;> (try obtain ⟨ad2, ha2, hb2⟩ := hy) <;> simp [results, *]
  · rename_i r s t e
    have : fn.results = #[r, s, t] := by apply Array.ext'; simpa using e
    split at hs <;> simp only [Option.some.injEq, Prod.mk.injEq, Bool.and_eq_true, reduceCtorEq] at hs
    rename_i k x l y m z h1 h2 h3
    obtain ⟨⟨⟨rfl, rfl⟩, rfl⟩, rfl⟩ := hs
    obtain ⟨x', hx, hrx⟩ := resOne_sound R FR h1
    obtain ⟨y', hy, hry⟩ := resOne_sound R FR h2
    obtain ⟨z', hz, hrz⟩ := resOne_sound R FR h3
    refine ⟨.tuple #[x', y', z'], ?_, .tup _ _ _ (.cons _ _ _ _ _ hrx (.cons _ _ _ _ _ hry (.cons _ _ _ _ _ hrz (.nil _))))⟩
    cases r <;> cases s <;> cases t <;> simp only [resRun, Array.getD_eq_getD_getElem?] at hx hy hz <;> (try obtain ⟨ad, ha, hb⟩ := hx) <;> (try obtain ⟨ad2, ha2, hb2⟩ := hy) <;> (try obtain ⟨ad3, ha3, hb3⟩ := hz) <;> simp [results, *]
  · cases hs

/-- how a function's end is told: its outcome and its heap, by fewer blocks -/
def FinW (n0 : Nat) (fin : Fin) (h : Heap) (fin2 : Fin) (h2 : Heap) : Prop :=
  ∀ (ρ : Ren) (I : Nat → Prop) (w : World), Rel ρ I w h (fun _ => False) → ∃ ρ', Rel ρ' I w h2 (fun i => h2.length ≤ i) ∧ WentN n0 ρ I w h ρ' I w h2 ∧ ∀ e, FinRel I w ρ fin e → FinRel I w ρ' fin2 e

theorem renFin_sound {τ : Nat → Option Nat} {ρ₂ : Ren} (hτ : ∀ i k l, τ i = some k → ρ i = some l → ρ₂ k = some l) {fin fin2 : Fin} (h : renFin τ fin = some fin2) {e : Ending} (he : FinRel I w ρ fin e) : FinRel I w ρ₂ fin2 e := by
  cases fin <;> simp only [renFin] at h <;> split at h <;> simp only [Option.some.injEq, reduceCtorEq] at h <;> subst h
  all_goals
    rename_i hu
    obtain ⟨v', h1, h2⟩ := he
    exact ⟨v', h1, renV_sound hτ h2 hu⟩

def tellFin (n0 : Nat) (rd : List Nat) (fin : Fin) (h : Heap) : Option (Fin × Heap) :=
  if nodupN rd && prefixOk rd n0 then (match renFin (posOf rd) fin, subHeap h (posOf rd) rd with
    | some f, some k => some (f, k)
    | _, _ => none) else none

theorem tellFin_sound {rd : List Nat} {fin fin2 : Fin} {h2 : Heap} (ht : tellFin n0 rd fin h = some (fin2, h2)) : FinW n0 fin h fin2 h2 := by
  unfold tellFin at ht
  split at ht <;> try simp only [reduceCtorEq] at ht
  rename_i hc
  rw [Bool.and_eq_true] at hc
  split at ht <;> simp only [Option.some.injEq, Prod.mk.injEq, reduceCtorEq] at ht
  rename_i f k hf hk
  obtain ⟨rfl, rfl⟩ := ht
  intro ρ I w R
  obtain ⟨h1, h2, h3⟩ := sub_rel (nodupN_iff hc.1) R hk
  exact ⟨subRen rd ρ, h2, sub_went hc.2 h3, fun e he => renFin_sound h1 hf he⟩

def refsUpto (h : Heap) : Nat → List Nat
  | 0 => []
  | n + 1 => refsUpto h n ++ (match h[n]? with | some b => refsB b | none => [])

def refsFin : Fin → List Nat
  | .ret v => refsV v
  | .pan v => refsV v

def compact (n0 : Nat) (fin : Fin) (h : Heap) : Option (Fin × Heap) :=
  tellFin n0 (reach h 300 (refsFin fin ++ refsUpto h n0) (upto n0)) fin h

def EndX (P : Program) (fn : Func) (n0 : Nat) (fin : Fin) (h' : Heap) : X → Fr → Heap → Prop
  | .normal, fr, h => ∃ fr₁ h₁ v, Weaker fn.ntmps n0 fr h fr₁ h₁ ∧ resV P fn fr₁.get h₁ = some (true, v) ∧ FinW n0 (.ret v) h₁ fin h'
  | .ret, fr, h => ∃ fr₁ h₁ v, Weaker fn.ntmps n0 fr h fr₁ h₁ ∧ resV P fn fr₁.get h₁ = some (true, v) ∧ FinW n0 (.ret v) h₁ fin h'
  | .pan v, _, h => FinW n0 (.pan v) h fin h'
  | .exit _, _, _ => False

theorem LFn.of_runs {f : FuncId} {fn : Func} {c : Code} {args : List V} {fin : Fin} {h' : Heap} (hf : P.funcs[f]? = some fn) (hb : fn.body = some c) (hn : args.length ≤ fn.ntmps)
    (H : Runs P fn.ntmps h.length c (argsFr 0 args) h (EndX P fn h.length fin h')) : LFn P f args h fin h' := by
  intro ρ I w args' R ha
  refine calls_of_wp hf hb ?_
  have hal : args'.length = args.length := ha.length.symm
  refine H _ ρ I w _ ⟨by simp; omega, rfl, ?_, R.weaken (fun _ h => h.elim)⟩ ?_
  · intro t v hv
    obtain ⟨_, h2⟩ := argsFr_get args 0 t v hv
    obtain ⟨v', h3, h4⟩ := ha.get _ _ h2
    have hlt : t < args'.length := (List.getElem?_eq_some_iff.1 h3).1
    have e : ((⟨args'⟩ : Array Value) ++ Array.replicate (fn.ntmps - (⟨args'⟩ : Array Value).size) undef).getD t undef = v' := by
      rw [Array.getD_eq_getD_getElem?, Array.getElem?_append_left (by simpa using hlt)]
      simp only [Nat.sub_zero] at h3
      simp [h3]
    rw [e]; exact h4
  · intro x fr' h₁ ρ₁ I₁ w₁ a₁ e r er S₁ W₁
    have fin_of : ∀ (h₁ : Heap) (ρ₁ : Ren) (f0 : Fin) (e0 : Ending), Rel ρ₁ I₁ w₁ h₁ (fun _ => False) → WentN h.length ρ I w h ρ₁ I₁ w₁ h₁ → FinW h.length f0 h₁ fin h' → FinRel I₁ w₁ ρ₁ f0 e0 → ∃ ρ' I', Rel ρ' I' w₁ h' (fun i => h'.length ≤ i) ∧ Went ρ I w h ρ' I' w₁ h' ∧ FinRel I' w₁ ρ' fin e0 := by
      intro h₁ ρ₁ f0 e0 R₁ W₁ hW hF
      obtain ⟨ρ₂, r2, w2, f2⟩ := hW ρ₁ I₁ w₁ R₁
      have W := W₁.trans w2
      refine ⟨ρ₂, I₁, r2, ⟨fun i l hl => W.ren i l ?_ hl, W.imm, W.os, W.tape, W.output, W.size, W.keep, W.own, W.fresh⟩, f2 _ hF⟩
      rcases Nat.lt_or_ge i h.length with h0 | h0
      · exact h0
      · rw [R.out i h0] at hl; cases hl
    cases x with
    | normal =>
      cases er
      obtain ⟨fr₂, h₂, v, hWk, hv, hW⟩ := r
      obtain ⟨ρ₂, S₂, W₂⟩ := hWk ρ₁ I₁ w₁ a₁ S₁
      obtain ⟨v', h1, h2⟩ := resV_sound (P := P) S₂.rel S₂.fr hv
      exact ⟨S₁.defers, v', h1, fin_of _ ρ₂ _ _ S₂.rel (W₁.trans W₂) hW ⟨v', rfl, h2⟩⟩
    | ret =>
      cases er
      obtain ⟨fr₂, h₂, v, hWk, hv, hW⟩ := r
      obtain ⟨ρ₂, S₂, W₂⟩ := hWk ρ₁ I₁ w₁ a₁ S₁
      obtain ⟨v', h1, h2⟩ := resV_sound (P := P) S₂.rel S₂.fr hv
      exact ⟨S₁.defers, v', h1, fin_of _ ρ₂ _ _ S₂.rel (W₁.trans W₂) hW ⟨v', rfl, h2⟩⟩
    | pan v =>
      obtain ⟨v', hv, rfl⟩ := er
      exact ⟨S₁.defers, fin_of _ ρ₁ _ _ S₁.rel W₁ r ⟨v', rfl, hv⟩⟩
    | exit id => exact r.elim

/-- a function, by reckoning -/
def execFD (P : Program) (O : Orc) (L : Loops) (dec : List (Nat × Bool)) (fuel : Nat) (fn : Func) (args : List V) (h : Heap) : Option (Bool × Fin × Heap) :=
  match fn.body with
  | some c => if dstsIn fn.ntmps c && Nat.ble args.length fn.ntmps then (match execD P O L dec fuel c (argsFr 0 args) h with
      | some (k, .normal, fr', h') => (match resV P fn fr'.get h' with
        | some (q, v) => (match compact h.length (.ret v) h' with | some (f, h2) => some (k && q, f, h2) | none => none)
        | none => none)
      | some (k, .ret, fr', h') => (match resV P fn fr'.get h' with
        | some (q, v) => (match compact h.length (.ret v) h' with | some (f, h2) => some (k && q, f, h2) | none => none)
        | none => none)
      | some (k, .pan v, _, h') => (match compact h.length (.pan v) h' with | some (f, h2) => some (k, f, h2) | none => none)
      | _ => none) else none
  | none => none

theorem execFD_sound (hO : OrcSound P O) (hm : P.follows .mixedOrders = true) {L : Loops} {dec : List (Nat × Bool)} {fuel : Nat} {f : FuncId} {fn : Func} {args : List V} {fin : Fin} {h' : Heap} (hf : P.funcs[f]? = some fn) (hL : ∀ c, fn.body = some c → ∀ d, d ∈ loopsOf c → LoopOk P fn.ntmps h.length L d)
    (hx : execFD P O L dec fuel fn args h = some (true, fin, h')) : LFn P f args h fin h' := by
  unfold execFD at hx
  split at hx <;> try simp only [reduceCtorEq] at hx
  rename_i c hb
  split at hx <;> try simp only [reduceCtorEq] at hx
  rename_i hc
  rw [Bool.and_eq_true] at hc
  have hn : args.length ≤ fn.ntmps := Nat.le_of_ble_eq_true hc.2
  split at hx <;> try simp only [reduceCtorEq] at hx
  · rename_i k fr' h1 he
    split at hx <;> try simp only [reduceCtorEq] at hx
    rename_i q v hv
    split at hx <;> simp only [Option.some.injEq, Prod.mk.injEq, Bool.and_eq_true, reduceCtorEq] at hx
    rename_i f2 h2 hcm
    obtain ⟨⟨rfl, rfl⟩, rfl, rfl⟩ := hx
    refine LFn.of_runs hf hb hn ((execD_sound hO hm c (hL c hb) _ _ _ _ _ hc.1 he).mono ?_)
    rintro x f k ⟨rfl, hw⟩
    exact ⟨_, _, v, hw, hv, tellFin_sound hcm⟩
  · rename_i k fr' h1 he
    split at hx <;> try simp only [reduceCtorEq] at hx
    rename_i q v hv
    split at hx <;> simp only [Option.some.injEq, Prod.mk.injEq, Bool.and_eq_true, reduceCtorEq] at hx
    rename_i f2 h2 hcm
    obtain ⟨⟨rfl, rfl⟩, rfl, rfl⟩ := hx
    refine LFn.of_runs hf hb hn ((execD_sound hO hm c (hL c hb) _ _ _ _ _ hc.1 he).mono ?_)
    rintro x f k ⟨rfl, hw⟩
    exact ⟨_, _, v, hw, hv, tellFin_sound hcm⟩
  · rename_i k v fr' h1 he
    split at hx <;> simp only [Option.some.injEq, Prod.mk.injEq, reduceCtorEq] at hx
    rename_i f2 h2 hcm
    obtain ⟨rfl, rfl, rfl⟩ := hx
    refine LFn.of_runs hf hb hn ((execD_sound hO hm c (hL c hb) _ _ _ _ _ hc.1 he).mono ?_)
    rintro x f k ⟨rfl, rfl, rfl⟩
    exact tellFin_sound hcm

def execF (P : Program) (O : Orc) (L : Loops) (fuel : Nat) (fn : Func) (args : List V) (h : Heap) : Option (Bool × Fin × Heap) := execFD P O L [] fuel fn args h

theorem execF_sound (hO : OrcSound P O) (hm : P.follows .mixedOrders = true) {L : Loops} {fuel : Nat} {f : FuncId} {fn : Func} {args : List V} {fin : Fin} {h' : Heap} (hf : P.funcs[f]? = some fn)
    (hL : ∀ c, fn.body = some c → ∀ d, d ∈ loopsOf c → LoopOk P fn.ntmps h.length L d) (hx : execF P O L fuel fn args h = some (true, fin, h')) : LFn P f args h fin h' := execFD_sound hO hm hf hL hx

/-- code, and its end told by fewer blocks and slots -/
def execT (P : Program) (O : Orc) (L : Loops) (dec : List (Nat × Bool)) (fuel : Nat) (n0 : Nat) (rd ts : List Nat) (c : Code) (fr : Fr) (h : Heap) : Option (Bool × X × Fr × Heap) :=
  match execD P O L dec fuel c fr h with
  | some (k, x, fr', h') => (match tell n0 rd ts fr' h' with
    | some (f, g) => some (k, x, f, g)
    | none => none)
  | none => none

theorem execT_sound (hO : OrcSound P O) (hm : P.follows .mixedOrders = true) {L : Loops} {dec : List (Nat × Bool)} {fuel : Nat} {rd ts : List Nat} {c : Code} {x : X} {fr' : Fr} {h' : Heap} (hL : ∀ d, d ∈ loopsOf c → LoopOk P N n0 L d) (hd : dstsIn N c = true) (hp : ∀ v, x ≠ .pan v)
    (hx : execT P O L dec fuel n0 rd ts c fr h = some (true, x, fr', h')) : Runs P N n0 c fr h (EndW N n0 x fr' h') := by
  unfold execT at hx
  split at hx <;> try simp only [reduceCtorEq] at hx
  rename_i k y f g he
  split at hx <;> simp only [Option.some.injEq, Prod.mk.injEq, reduceCtorEq] at hx
  rename_i f2 g2 ht
  obtain ⟨rfl, rfl, rfl, rfl⟩ := hx
  refine (execD_sound hO hm c hL _ _ _ _ _ hd he).mono ?_
  rintro z f k ⟨rfl, hw⟩
  refine ⟨rfl, ?_⟩
  cases z with
  | pan _ => exact (hp _ rfl).elim
  | _ => exact Weaker.trans hw (tell_weaker ht)
end
end Go.Lh
