/- A reckoner for functions over a local heap: what each operation does, and that it is sound; numbers of 256 bits. -/
import Derived.Test.YtbgiickegljpoaaDoorLh3
set_option linter.unusedSimpArgs false
set_option linter.unusedVariables false
section
namespace Go.Lh
inductive Tr (α : Type) where
  | no
  | leaf (a : α)
  | chk (k : Bool) (t : Tr α)
  | br (c : Bool) (a b : Tr α)
namespace Tr
variable {α β : Type}
def mk (k : Bool) (t : Tr α) : Tr α := match t with
  | .chk q t => .chk (k && q) t
  | .no => .no
  | .leaf a => .chk k (.leaf a)
  | .br c a b => .chk k (.br c a b)
def out : Tr α → Option (Bool × α)
  | .no => none
  | .leaf a => some (true, a)
  | .chk k t => (match t.out with | some (q, a) => some (k && q, a) | none => none)
  | .br c a b => if c then a.out else b.out
def wp (Q : α → Prop) : Tr α → Prop
  | .no => False
  | .leaf a => Q a
  | .chk k t => k = true ∧ t.wp Q
  | .br c a b => (c = true → a.wp Q) ∧ (c = false → b.wp Q)
def bind : Tr α → (α → Tr β) → Tr β
  | .no, _ => .no
  | .leaf a, f => f a
  | .chk k t, f => mk k (t.bind f)
  | .br c a b, f => .br c (a.bind f) (b.bind f)
def is (t : Tr α) (a : α) : Prop := t.out = some (true, a)
theorem is_leaf {a b : α} : (Tr.leaf a).is b ↔ a = b := by simp [is, out]
theorem is_chk {k : Bool} {t : Tr α} {a : α} : (Tr.chk k t).is a ↔ k = true ∧ t.is a := by
  simp only [is, out]
  cases h : t.out with
  | none => simp
  | some p => obtain ⟨q, b⟩ := p; simp [and_assoc]
theorem is_no {a : α} : (Tr.no : Tr α).is a ↔ False := by simp [is, out]
theorem is_br {c : Bool} {s t : Tr α} {a : α} : (Tr.br c s t).is a ↔ (if c then s.is a else t.is a) := by
  cases c <;> simp [is, out]
theorem is_mk {k : Bool} {t : Tr α} {a : α} : (mk k t).is a ↔ k = true ∧ t.is a := by
  cases t with
  | chk q t => simp only [mk, is_chk, Bool.and_eq_true, and_assoc]
  | no => simp [mk, is_no]
  | leaf b => simp only [mk, is_chk]
  | br c s t => simp only [mk, is_chk]
theorem is_bind {f : α → Tr β} {b : β} : ∀ {t : Tr α}, (t.bind f).is b ↔ ∃ a, t.is a ∧ (f a).is b
  | .no => by simp [bind, is_no]
  | .leaf a => by simp [bind, is_leaf]
  | .chk k t => by simp only [bind, is_mk, is_chk, is_bind (t := t), and_assoc, exists_and_left]
  | .br c s t => by
    simp only [bind, is_br]
    cases c <;> simp only [Bool.false_eq_true, if_true, if_false]
    · exact is_bind (t := t)
    · exact is_bind (t := s)
theorem is_inj {t : Tr α} {a b : α} (h : t.is a) (h' : t.is b) : a = b := by
  unfold is at h h'; rw [h] at h'; simpa using h'
theorem wp_is {Q : α → Prop} : ∀ {t : Tr α}, t.wp Q → ∃ a, t.is a ∧ Q a
  | .no, h => h.elim
  | .leaf a, h => ⟨a, is_leaf.2 rfl, h⟩
  | .chk k t, h => by
    obtain ⟨a, h1, h2⟩ := wp_is (t := t) h.2
    exact ⟨a, is_chk.2 ⟨h.1, h1⟩, h2⟩
  | .br c s t, h => by
    cases c with
    | true =>
      obtain ⟨a, h1, h2⟩ := wp_is (t := s) (h.1 rfl)
      exact ⟨a, is_br.2 (by simpa using h1), h2⟩
    | false =>
      obtain ⟨a, h1, h2⟩ := wp_is (t := t) (h.2 rfl)
      exact ⟨a, is_br.2 (by simpa using h1), h2⟩
theorem wp_of_is {Q : α → Prop} : ∀ {t : Tr α} {a : α}, t.is a → Q a → t.wp Q
  | .no, a, h, _ => (is_no.1 h).elim
  | .leaf b, a, h, q => by rw [is_leaf] at h; subst h; exact q
  | .chk k t, a, h, q => by rw [is_chk] at h; exact ⟨h.1, wp_of_is h.2 q⟩
  | .br c s t, a, h, q => by
    rw [is_br] at h
    cases c with
    | true => exact ⟨fun _ => wp_of_is (by simpa using h) q, fun e => by cases e⟩
    | false => exact ⟨fun e => (by cases e), fun _ => wp_of_is (by simpa using h) q⟩
theorem is_of_wp {t : Tr α} {a : α} (h : t.wp (fun b => b = a)) : t.is a := by
  obtain ⟨b, h1, rfl⟩ := wp_is h; exact h1
inductive Sh where
  | any
  | both (a b : Sh)
  | l (a : Sh)
  | r (a : Sh)
def prune : Sh → Tr α → Tr α
  | _, .no => .no
  | _, .leaf a => .leaf a
  | s, .chk k t => mk k (prune s t)
  | .any, .br c a b => .br c a b
  | .both x y, .br c a b => .br c (prune x a) (prune y b)
  | .l x, .br c a b => mk c (prune x a)
  | .r x, .br c a b => mk (!c) (prune x b)
theorem prune_is : ∀ {s : Sh} {t : Tr α} {a : α}, (prune s t).is a → t.is a
  | s, .no, a, h => by cases s <;> exact h
  | s, .leaf b, a, h => by cases s <;> exact h
  | s, .chk k t, a, h => by
    have : (mk k (prune s t)).is a := by cases s <;> exact h
    rw [is_mk] at this
    exact is_chk.2 ⟨this.1, prune_is this.2⟩
  | .any, .br c x y, a, h => h
  | .both s1 s2, .br c x y, a, h => by
    simp only [prune, is_br] at h ⊢
    cases c
    · exact prune_is (t := y) h
    · exact prune_is (t := x) h
  | .l s1, .br c x y, a, h => by
    simp only [prune, is_mk] at h
    rw [is_br, h.1]; exact prune_is (t := x) h.2
  | .r s1, .br c x y, a, h => by
    simp only [prune, is_mk, Bool.not_eq_true'] at h
    rw [is_br, h.1]; exact prune_is (t := y) h.2
def ofOpt : Option (Bool × α) → Tr α
  | some (k, a) => .chk k (.leaf a)
  | none => .no
theorem ofOpt_is {o : Option (Bool × α)} {a : α} : (ofOpt o).is a ↔ o = some (true, a) := by
  cases o with
  | none => simp [ofOpt, is_no]
  | some p => obtain ⟨k, b⟩ := p; simp [ofOpt, is_chk, is_leaf]
end Tr
structure OrcT where
  fn : FuncId → List V → Heap → Tr (Fin × Heap)
  ext : FuncId → List V → Option (Bool × V)
  /-- may an append to nil go either way? -/
  nb : Bool := false
  ro : FuncId → Bool := fun _ => false
  roOk : ∀ f, ro f = true → ∀ args h r, (fn f args h).out = some r → r.2.2 = h := by intro _ h; cases h
def OrcT.o (T : OrcT) : Orc := { fn := fun f args h => (T.fn f args h).out, ext := T.ext, ro := T.ro, roOk := T.roOk }
def callT (fn : FuncId → List V → Heap → Tr (Fin × Heap)) (f : FuncId) (args : List V) (h : Heap) : Tr (Fin × Heap) :=
  let rd := reach h 100 (refsVs args) []
  match renVs (posOf rd) args, subHeap h (posOf rd) rd with
  | some args', some hs => (fn f args' hs).bind fun p => if rd.length ≤ p.2.length then
        (match renFin (backT rd h.length) p.1, renBs (backT rd h.length) p.2 with
        | some fin', some l => .leaf (fin', setAll h rd (l.take rd.length) ++ l.drop rd.length)
        | _, _ => .no) else .no
  | _, _ => .no
theorem callT_is {fn : FuncId → List V → Heap → Tr (Fin × Heap)} {f : FuncId} {args : List V} {h : Heap} {r : Fin × Heap} (hr : (callT fn f args h).is r) :
    callO (fun f args h => (fn f args h).out) f args h = some (true, r.1, r.2) := by
  unfold callT at hr
  unfold callO
  simp only at hr ⊢
  split at hr
  · rename_i args' hs e1 e2
    rw [Tr.is_bind] at hr
    obtain ⟨⟨fin, hs'⟩, h1, h2⟩ := hr
    unfold Tr.is at h1
    rw [e1, e2]
    simp only
    rw [h1]
    simp only
    simp only at h2
    split at h2
    · rename_i hle
      rw [if_pos hle]
      split at h2
      · rename_i fin' l e3 e4
        rw [Tr.is_leaf] at h2
        subst h2
        rw [e3, e4]
      · exact (Tr.is_no.1 h2).elim
    · exact (Tr.is_no.1 h2).elim
  · exact (Tr.is_no.1 hr).elim
def appArgs (P : Program) (g : Fm) (h : Heap) (op : Op) : Option (TypeId × Nat × V × Bool × Nat × Blk) :=
  match op with
  | .call { callee := .builtin .append, args, argTypes } => (match argTypes.toList, opnds g args.toList with
    | t :: t' :: _, some [x, y] => (match P.underlying t with
      | some (.slice e) => (match sizeT P e, P.underlying t' with
        | some s, some (.int _) => (match asIx y with
          | some n => (match zeroN P e n.toNat with
            | some c => some (e, s, x, decide (0 ≤ n) && decide (n ≤ (most46 : Nat)) && decide (n.toNat * bytesT P e ≤ most48) && decide (c.len = n.toNat * s), n.toNat, c)
            | none => none)
          | none => none)
        | some s, some _ => (match srcB h s y with
          | some (k, n, c) => some (e, s, x, k, n, c)
          | none => none)
        | _, _ => none)
      | _ => none)
    | _, _ => none)
  | _ => none
theorem appArgs_step {P : Program} {idx : Nat} {g : Fm} {h : Heap} {op : Op} {e : TypeId} {s : Nat} {x : V} {k : Bool} {n : Nat} {c : Blk} (ha : appArgs P g h op = some (e, s, x, k, n, c)) :
    stepH P idx g h op = (match appH P idx h e s x n c with | some (k', r) => some (k && k', r) | none => none) := by
  unfold appArgs at ha
  split at ha <;> try simp only [reduceCtorEq] at ha
  split at ha <;> try simp only [reduceCtorEq] at ha
  rename_i t t' ts x0 y0 e1 e2
  split at ha <;> try simp only [reduceCtorEq] at ha
  rename_i e0 e3
  split at ha <;> try simp only [reduceCtorEq] at ha
  · rename_i s0 ik e4 e5
    split at ha <;> try simp only [reduceCtorEq] at ha
    rename_i m e6
    split at ha <;> simp only [Option.some.injEq, Prod.mk.injEq, reduceCtorEq] at ha
    rename_i c0 e7
    obtain ⟨rfl, rfl, rfl, rfl, rfl, rfl⟩ := ha
    simp only [stepH, e1, e2, e3, e4, e5, e6, e7]
    cases appH P idx h e0 s0 x0 m.toNat c0 <;> rfl
  · rename_i s0 td e4 e5 e6
    split at ha <;> simp only [Option.some.injEq, Prod.mk.injEq, reduceCtorEq] at ha
    rename_i k0 n0 c0 e7
    obtain ⟨rfl, rfl, rfl, rfl, rfl, rfl⟩ := ha
    simp only [stepH, e1, e2, e3, e5]
    rw [e6]
    cases td with
    | int ik => exact (e4 ik rfl).elim
    | _ => simp only [e5, e7] <;> cases appH P idx h e0 s0 x0 n0 c0 <;> rfl
def stepOT (P : Program) (T : OrcT) (idx : Nat) (g : Fm) (h : Heap) (op : Op) : Tr (Fin × Heap) :=
  match op with
  | .call { callee := .value f, args, .. } => (match opnd g f, opnds g args.toList with
    | some (.fn fid first cap), some l => (match T.ext fid (first ++ l ++ cap) with
      | some (k, v) => .chk k (.leaf (.ret v, h))
      | none => callT T.fn fid (first ++ l ++ cap) h)
    | _, _ => .no)
  | op => (match T.nb, appArgs P g h op with
    | true, some (e, s, .nilSl, k, n, c) => (match stepT P g op with
      | none => .chk k (.br (decide (n = 0)) (.leaf (.ret .nilSl, h)) (.chk (appRoom P e s n) (.leaf (.ret (.sl idx 0 s n none), h.set idx (newB e c)))))
      | some _ => .no)
    | _, _ => Tr.ofOpt (stepO P T.o idx g h op))
theorem stepOT_is {P : Program} {T : OrcT} {idx : Nat} {g : Fm} {h : Heap} {op : Op} {r : Fin × Heap} (hr : (stepOT P T idx g h op).is r) : stepO P T.o idx g h op = some (true, r.1, r.2) := by
  unfold stepOT at hr
  split at hr
  · rename_i f args ty
    unfold stepO
    simp only
    split at hr
    · rename_i fid first cap l e1 e2
      rw [e1, e2]
      simp only [OrcT.o]
      split at hr
      · rename_i k v e3
        rw [e3]
        simp only
        rw [Tr.is_chk, Tr.is_leaf] at hr
        obtain ⟨rfl, rfl⟩ := hr
        rfl
      · rename_i e3
        rw [e3]
        simp only
        exact callT_is hr
    · exact (Tr.is_no.1 hr).elim
  · rename_i op0 hcall
    split at hr
    · rename_i e s k n c hnb ha
      split at hr
      · rename_i hst
        have hop : ∃ args ts, op = .call { callee := .builtin .append, args := args, argTypes := ts } := by
          unfold appArgs at ha
          split at ha
          · exact ⟨_, _, rfl⟩
          · cases ha
        obtain ⟨args, ts, rfl⟩ := hop
        rw [Tr.is_chk, Tr.is_br] at hr
        obtain ⟨hk, hr⟩ := hr
        subst hk
        have h1 := appArgs_step (idx := idx) ha
        simp only [stepO, OrcT.o, stepN, hst, h1, appH]
        by_cases hn : n = 0
        · rw [decide_eq_true hn, if_pos rfl, Tr.is_leaf] at hr
          subst hr
          rw [if_pos hn]
          rfl
        · rw [decide_eq_false hn] at hr
          simp only [Bool.false_eq_true, if_false] at hr
          rw [Tr.is_chk, Tr.is_leaf] at hr
          obtain ⟨hr1, hr2⟩ := hr
          subst hr2
          rw [if_neg hn, hr1]
          rfl
      · exact (Tr.is_no.1 hr).elim
    · exact Tr.ofOpt_is.1 hr
def guardT {β : Type} (ops : List Oper) (o : Oper) (fr : Fr) (A B : Fr → Tr β) : Tr β :=
  match o.guard with
  | none => A fr
  | some (j, want) => (match ops[j]? with
    | some oj => (match oj.dst with
      | some d => (match fr.get d with
        | some (.bool b) => if want then .br b (A (fr.put d (.bool true))) (B (fr.put d (.bool false))) else .br b (B (fr.put d (.bool true))) (A (fr.put d (.bool false)))
        | some (.tup _) => B fr
        | _ => .no)
      | none => .no)
    | none => .no)
theorem Fr.put_same : ∀ {fr : Fr} {t : Nat} {v : V}, fr.get t = some v → fr.put t v = fr
  | [], t, v, h => by simp [Fr.get] at h
  | (i, u) :: r, t, v, h => by
    rw [Fr.get_cons] at h
    rw [Fr.put_cons]
    split at h
    · rename_i e; cases h; rw [if_pos e]
    · rename_i e; rw [if_neg e, Fr.put_same h]
theorem guardT_is {β : Type} {ops : List Oper} {o : Oper} {fr : Fr} {A B : Fr → Tr β} {r : β} (hr : (guardT ops o fr A B).is r) : ∃ w, wantV ops fr.get o = some w ∧ (if w then (A fr).is r else (B fr).is r) := by
  unfold guardT at hr
  unfold wantV
  split at hr
  · rename_i e; rw [e]; exact ⟨true, rfl, hr⟩
  · rename_i j want e
    rw [e]
    simp only
    split at hr
    · rename_i oj ej
      rw [ej]
      simp only
      split at hr
      · rename_i d ed
        rw [ed]
        simp only
        split at hr
        · rename_i b eb
          rw [eb]
          refine ⟨b == want, rfl, ?_⟩
          cases want <;> cases b <;> simp only [if_true, if_false, Bool.false_eq_true, Tr.is_br, Fr.put_same eb] at hr <;> simpa using hr
        · rename_i eb
          rw [eb]
          exact ⟨false, rfl, hr⟩
        · exact (Tr.is_no.1 hr).elim
      · exact (Tr.is_no.1 hr).elim
    · exact (Tr.is_no.1 hr).elim
def runT (P : Program) (T : OrcT) (ops : List Oper) : List Oper → Nat → Fr → Heap → Tr (Option V × Fr × Heap)
  | [], _, fr, h => .leaf (none, fr, h)
  | o :: r, idx, fr, h => guardT ops o fr (fun fr => (stepOT P T idx fr.get h o.op).bind fun p => (match p with
        | (.ret v, h') => runT P T ops r (nextIdx P o idx) (putO o.dst v fr) h'
        | (.pan v, h') => .leaf (some v, fr, h'))) (fun fr => runT P T ops r (nextIdx P o idx) (putO o.dst (.tup []) fr) h)
theorem runT_is {P : Program} {T : OrcT} {ops : List Oper} : ∀ {l : List Oper} {idx : Nat} {fr : Fr} {h : Heap} {r : Option V × Fr × Heap}, (runT P T ops l idx fr h).is r → runOps P T.o ops l idx fr h = some (true, r)
  | [], idx, fr, h, r, hr => by
    rw [runT, Tr.is_leaf] at hr
    subst hr; rfl
  | o :: l, idx, fr, h, r, hr => by
    rw [runT] at hr
    rw [runOps]
    obtain ⟨w, e, hr⟩ := guardT_is hr
    rw [e]
    simp only
    split at hr
    · rename_i hw
      rw [if_pos hw]
      rw [Tr.is_bind] at hr
      obtain ⟨⟨fin, h'⟩, h1, h2⟩ := hr
      rw [stepOT_is h1]
      cases fin with
      | ret v =>
        simp only at h2 ⊢
        rw [runT_is h2]
        rfl
      | pan v =>
        simp only at h2 ⊢
        rw [Tr.is_leaf] at h2
        subst h2; rfl
    · rename_i hw
      rw [if_neg hw]
      exact runT_is hr
def runDT (P : Program) (T : OrcT) (ops : List Oper) : List Oper → Nat → Fr → Heap → Tr ((Fr × Heap) × List Tch)
  | [], _, fr, h => .leaf ((fr, h), [])
  | o :: r, idx, fr, h => guardT ops o fr (fun fr => (match touchO P T.o idx fr.get h o.op with
        | some (R, W, c) => (stepOT P T idx fr.get h o.op).bind fun p => (match p with
          | (.ret v, h') => (runDT P T ops r (nextIdx P o idx) (putO o.dst v fr) h').bind fun q => .leaf (q.1, ⟨R, W, c, h.length⟩ :: q.2)
          | (.pan _, _) => .no)
        | none => .no)) (fun fr => (runDT P T ops r (nextIdx P o idx) (putO o.dst (.tup []) fr) h).bind fun q => .leaf (q.1, ⟨[], [], false, h.length⟩ :: q.2))
theorem runDT_is {P : Program} {T : OrcT} {ops : List Oper} : ∀ {l : List Oper} {idx : Nat} {fr : Fr} {h : Heap} {r : (Fr × Heap) × List Tch}, (runDT P T ops l idx fr h).is r →
    runOps P T.o ops l idx fr h = some (true, none, r.1) ∧ touches P T.o ops l idx fr h = some r.2
  | [], idx, fr, h, r, hr => by
    rw [runDT, Tr.is_leaf] at hr
    subst hr; exact ⟨rfl, rfl⟩
  | o :: l, idx, fr, h, r, hr => by
    rw [runDT] at hr
    rw [runOps, touches]
    obtain ⟨w, e, hr⟩ := guardT_is hr
    rw [e]
    simp only
    split at hr
    · rename_i hw
      rw [if_pos hw, if_pos hw]
      split at hr
      · rename_i R W c et
        rw [Tr.is_bind] at hr
        obtain ⟨⟨fin, h'⟩, h1, h2⟩ := hr
        rw [stepOT_is h1, et]
        cases fin with
        | ret v =>
          simp only at h2 ⊢
          rw [Tr.is_bind] at h2
          obtain ⟨q, h3, h4⟩ := h2
          rw [Tr.is_leaf] at h4
          subst h4
          obtain ⟨g1, g2⟩ := runDT_is h3
          rw [g1, g2]
          exact ⟨rfl, rfl⟩
        | pan v => exact (Tr.is_no.1 h2).elim
      · exact (Tr.is_no.1 hr).elim
    · rename_i hw
      rw [if_neg hw, if_neg hw]
      rw [Tr.is_bind] at hr
      obtain ⟨q, h3, h4⟩ := hr
      rw [Tr.is_leaf] at h4
      subst h4
      obtain ⟨g1, g2⟩ := runDT_is h3
      rw [g1, g2]
      exact ⟨rfl, rfl⟩
def regT (P : Program) (T : OrcT) (ops : Array Oper) (draw : Bool) (fr : Fr) (h : Heap) : Tr (Option V × Fr × Heap) :=
  let h0 := h ++ List.replicate (nMakes P ops.toList) .dead
  if draw then (if Region.noSelect ops && backEdges 0 ops.toList then
      (runDT P T ops.toList ops.toList h.length fr h0).bind fun q => if allOk ops 0 ops.toList q.2 then .leaf (none, q.1) else .no
    else .no)
  else runT P T ops.toList ops.toList h.length fr h0
theorem regT_is {P : Program} {T : OrcT} {ops : Array Oper} {draw : Bool} {fr : Fr} {h : Heap} {r : Option V × Fr × Heap} (hr : (regT P T ops draw fr h).is r) : runRegion P T.o ops draw fr h = some (true, r) := by
  unfold regT at hr
  unfold runRegion
  simp only at hr ⊢
  split at hr
  · rename_i hd
    rw [if_pos hd]
    split at hr
    · rename_i hc
      rw [Tr.is_bind] at hr
      obtain ⟨q, h1, h2⟩ := hr
      split at h2
      · rename_i ha
        rw [Tr.is_leaf] at h2
        obtain ⟨g1, g2⟩ := runDT_is h1
        have : drawOk P T.o ops h.length fr (h ++ List.replicate (nMakes P ops.toList) Blk.dead) = true := by
          unfold drawOk
          rw [hc, g2]; simp only [ha, Bool.and_self]
        rw [if_pos this, g1]
        subst h2; rfl
      · exact (Tr.is_no.1 h2).elim
    · exact (Tr.is_no.1 hr).elim
  · rename_i hd
    rw [if_neg hd]
    exact runT_is hr
end Go.Lh
end
