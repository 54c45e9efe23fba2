/- One operation in a region; a region whose operations go in the text's order. -/
import Derived.Test.YtajbaocfdlopbaaLhS
set_option linter.unusedSimpArgs false
set_option linter.unusedVariables false
namespace Go.Lh

structure Orc where
  fn : Oracle
  ext : FuncId → List V → Option (Bool × V)
  /-- how comparisons come out, where one says so: by the number of the first slot that is compared -/
  asm : List (Nat × Bool) := []

def lookN : List (Nat × Bool) → Nat → Option Bool
  | [], _ => none
  | (i, b) :: r, t => if Nat.beq i t then some b else lookN r t

def asmOf (l : List (Nat × Bool)) : Op → Option Bool
  | .binOp _ _ (.tmp a) _ _ => lookN l a
  | .binOp _ _ _ (.tmp b) _ => lookN l b
  | .move (.tmp a) => lookN l a
  | _ => none

def asmRes (a : Option Bool) (r : Option (Bool × V × Heap)) : Option (Bool × Fin × Heap) :=
  match a with
  | none => (match r with | some (k, v, h') => some (k, .ret v, h') | none => none)
  | some b => (match r with
    | some (k, .bool x, h') => some (k && (if b then x else !x), .ret (.bool b), h')
    | some (k, v, h') => some (k, .ret v, h')
    | none => none)

theorem asmRes_true {a : Option Bool} {r : Option (Bool × V × Heap)} {fin : Fin} {h' : Heap} (h : asmRes a r = some (true, fin, h')) : ∃ v, r = some (true, v, h') ∧ fin = .ret v := by
  cases a with
  | none =>
    simp only [asmRes] at h
    split at h <;> simp only [Option.some.injEq, Prod.mk.injEq, reduceCtorEq] at h
    obtain ⟨rfl, rfl, rfl⟩ := h
    exact ⟨_, rfl, rfl⟩
  | some b =>
    simp only [asmRes] at h
    split at h <;> simp only [Option.some.injEq, Prod.mk.injEq, Bool.and_eq_true, reduceCtorEq] at h
    · rename_i k x h2
      obtain ⟨⟨rfl, hx⟩, rfl, rfl⟩ := h
      refine ⟨_, rfl, ?_⟩
      cases b <;> simp at hx <;> subst hx <;> rfl
    · obtain ⟨rfl, rfl, rfl⟩ := h
      exact ⟨_, rfl, rfl⟩

theorem asmRes_some {a : Option Bool} {r : Option (Bool × V × Heap)} {k : Bool} {fin : Fin} {h' : Heap} (h : asmRes a r = some (k, fin, h')) :
    ∃ k' v, r = some (k', v, h') ∧ (∃ u, fin = .ret u) ∧ ∀ h2, asmRes a (some (k', v, h2)) = some (k, fin, h2) := by
  cases a with
  | none =>
    simp only [asmRes] at h
    split at h <;> simp only [Option.some.injEq, Prod.mk.injEq, reduceCtorEq] at h
    obtain ⟨rfl, rfl, rfl⟩ := h
    exact ⟨_, _, rfl, ⟨_, rfl⟩, fun _ => rfl⟩
  | some b =>
    simp only [asmRes] at h
    split at h <;> simp only [Option.some.injEq, Prod.mk.injEq, reduceCtorEq] at h
    · obtain ⟨rfl, rfl, rfl⟩ := h
      exact ⟨_, _, rfl, ⟨_, rfl⟩, fun _ => rfl⟩
    · rename_i k1 v1 h1 hne
      obtain ⟨rfl, rfl, rfl⟩ := h
      refine ⟨_, _, rfl, ⟨_, rfl⟩, fun h2 => ?_⟩
      cases v1 with
      | bool x => exact (hne x rfl).elim
      | _ => rfl

def Enters (P : Program) (f : FuncId) : Prop := ∃ fn, P.funcs[f]? = some fn ∧ fn.body.isNone = false ∧ (fn.name == "runtime.NumGoroutine") = false

structure OrcSound (P : Program) (O : Orc) : Prop where
  fn : ∀ f args h fin h', O.fn f args h = some (true, fin, h') → LFn P f args h fin h'
  enters : ∀ f args h r, O.fn f args h = some r → Enters P f
  ext : ∀ f args v, O.ext f args = some (true, v) → ∀ (I : Nat → Prop) (w : World) (ρ : Ren) (args' : List Value), VsRel I w ρ args args' →
    ∃ v', (callFunc f ⟨args'⟩).run P w = .ok (.value v') w ∧ VRel I w ρ v v'

def stepO (P : Program) (O : Orc) (idx : Nat) (g : Fm) (h : Heap) (op : Op) : Option (Bool × Fin × Heap) :=
  match op with
  | .call { callee := .value f, args, .. } => (match opnd g f, opnds g args.toList with
    | some (.fn fid first cap), some l => (match O.ext fid (first ++ l ++ cap) with
      | some (k, v) => some (k, .ret v, h)
      | none => callO O.fn fid (first ++ l ++ cap) h)
    | _, _ => none)
  | .panic x => (match opnd g x with
    | some (.iface t v) => some (true, .pan (.iface t v), h)
    | _ => none)
  | op => asmRes (asmOf O.asm op) (stepN P idx g h op)

theorem FRel.put {I : Nat → Prop} {w : World} {ρ : Ren} {g : Fm} {a : Act} (F : FRel I w ρ g a) {dst : Option Tmp} {v : V} {v' : Value} (hv : VRel I w ρ v v') (hd : ∀ d, dst = some d → d < a.tmps.size) : FRel I w ρ (g.put dst v) (a.put dst v') := by
  intro t u hu
  cases dst with
  | none => exact F t u hu
  | some d =>
    simp only [Fm.put] at hu
    have hlt := hd d rfl
    simp only [Act.put]
    split at hu
    · rename_i e; subst e; cases hu
      have : (a.tmps.setIfInBounds t v').getD t undef = v' := by simp [Array.getD, hlt]
      rw [this]; exact hv
    · rename_i e
      have : (a.tmps.setIfInBounds d v').getD t undef = a.tmps.getD t undef := by
        simp [Array.getElem?_setIfInBounds_ne (Ne.symm e)]
      rw [this]; exact F t u hu

theorem FRel.le {I I' : Nat → Prop} {w w' : World} {ρ ρ' : Ren} {g : Fm} {a : Act} (F : FRel I w ρ g a) (L : Le ρ I w ρ' I' w') : FRel I' w' ρ' g a := fun t v h => (F t v h).le L

theorem put_size (a : Act) (dst : Option Tmp) (v : Value) : (a.put dst v).tmps.size = a.tmps.size := by
  cases dst <;> simp [Act.put]
theorem put_defers (a : Act) (dst : Option Tmp) (v : Value) : (a.put dst v).defers = a.defers := by
  cases dst <;> rfl

/-- which numbers are free behind an operation -/
def Left (F : Nat → Prop) (idx : Nat) (h h' : Heap) : Nat → Prop := fun i => F i ∧ i ≠ idx ∧ ¬ (h.length ≤ i ∧ i < h'.length)

section
variable {P : Program} {w : World} {I : Nat → Prop} {ρ : Ren} {h : Heap} {F : Nat → Prop} {idx : Nat} {a : Act} {o : Oper} {g : Fm} {O : Orc}

theorem callFunc_enter {f : FuncId} (hE : Enters P f) (args : Array Value) : (callFunc f args).run P w = .ok (.enter f args) w := by
  obtain ⟨fn, h1, h2, h3⟩ := hE
  simp only [callFunc, Sem.run_bind, run_program, Result.andThen_ok, h1, h3, Bool.false_eq_true, if_false, h2, Sem.run_pure]

theorem stepO_wp (hO : OrcSound P O) (R : Rel ρ I w h F) (FR : FRel I w ρ g a) (hmk : Op.makes P o.op = true → F idx ∧ h[idx]? = some .dead) {fin : Fin} {h' : Heap}
    (hs : stepO P O idx g h o.op = some (true, fin, h')) (next : Act → World → Prop) (Q : Exit → Act → World → Prop)
    (hret : ∀ v, fin = .ret v → ∀ w' ρ' I' v', VRel I' w' ρ' v v' → Rel ρ' I' w' h' (Left F idx h h') → Went ρ I w h ρ' I' w' h' → next (a.put o.dst v') w')
    (hpan : ∀ v, fin = .pan v → ∀ w' ρ' I' v', VRel I' w' ρ' v v' → Rel ρ' I' w' h' (Left F idx h h') → Went ρ I w h ρ' I' w' h' → Q (.panic [{ v := v', recovered := false }]) a w') :
    o.wp P a w next Q := by
  have quiet : ∀ {v : V} {h'' : Heap}, stepN P idx g h o.op = some (true, v, h'') → fin = .ret v → h'' = h' → o.wp P a w next Q := by
    intro v h'' hN hf hh
    subst hf; subst hh
    obtain ⟨nx, w', ρ', I', v', e1, e2, e3, e4, e5⟩ := (stepN_sound R FR hmk hN).run
    have := hret v rfl w' ρ' I' v' e3 (e4.weaken (fun i hi => ⟨hi.1, hi.2.1⟩)) e5
    unfold Oper.wp
    rw [e1]
    rcases e2 with rfl | ⟨rfl, rfl⟩
    · exact this
    · exact this
  unfold stepO at hs
  split at hs
  · rename_i f args ty ho
    split at hs <;> try simp only [reduceCtorEq] at hs
    rename_i fid first cap l hf hl
    have hfr := opnd_sound FR hf
    have hlr := opnds_sound FR hl
    obtain ⟨first', cap', hfe, hr1, hr2⟩ : ∃ first' cap', a.eval f = .func (.func fid) ⟨first'⟩ ⟨cap'⟩ ∧ VsRel I w ρ first first' ∧ VsRel I w ρ cap cap' := by
      cases hv : a.eval f <;> rw [hv] at hfr <;> cases hfr
      exact ⟨_, _, rfl, ‹_›, ‹_›⟩
    have hargs : VsRel I w ρ (first ++ l ++ cap) (first' ++ args.toList.map a.eval ++ cap') := VsRel.append hr2 (VsRel.append hlr hr1)
    have hrun : (execOp a.eval o).run P w = (callFunc fid ⟨first' ++ args.toList.map a.eval ++ cap'⟩).run P w := by
      simp only [execOp, ho, resolve, hfe, Deferred.ofValue, Sem.run_bind, Sem.run_pure, Result.andThen_ok, invoke]
      congr 2
      apply Array.ext'; simp
    split at hs
    · rename_i k v hx
      simp at hs
      obtain ⟨rfl, rfl, rfl⟩ := hs
      obtain ⟨v', e1, e2⟩ := hO.ext _ _ _ hx I w ρ _ hargs
      unfold Oper.wp
      rw [hrun, e1]
      exact hret v rfl w ρ I v' e2 (R.weaken (fun i hi => hi.1)) (.refl _ _ _ _)
    · have hen : Enters P fid := by
        unfold callO at hs
        simp only at hs
        split at hs <;> try simp only [reduceCtorEq] at hs
        split at hs <;> try simp only [reduceCtorEq] at hs
        rename_i hc
        exact hO.enters _ _ _ _ hc
      unfold Oper.wp
      rw [hrun, callFunc_enter hen]
      rw [Oper.upon_enter]
      refine (callO_sound (F := F) hO.fn R hargs hs).mono ?_
      rintro e w' ⟨ρ', I', r1, r2, r3⟩
      cases fin with
      | ret v =>
        obtain ⟨v', rfl, hv⟩ := r3
        exact hret v rfl w' ρ' I' v' hv (r1.weaken (fun i hi => ⟨hi.1, hi.2.2⟩)) r2
      | pan v =>
        obtain ⟨v', rfl, hv⟩ := r3
        exact hpan v rfl w' ρ' I' v' hv (r1.weaken (fun i hi => ⟨hi.1, hi.2.2⟩)) r2
  · rename_i x ho
    split at hs <;> simp at hs
    rename_i t v hx
    obtain ⟨rfl, rfl⟩ := hs
    have hr := opnd_sound FR hx
    cases hv : a.eval x <;> rw [hv] at hr <;> cases hr
    rename_i v1 hv1
    unfold Oper.wp
    have : (execOp a.eval o).run P w = .halt (.panic (.iface t v1)) w := by
      simp only [execOp, ho, hv, Instr.panic, Sem.run_bind]
      simp
    rw [this]
    exact hpan _ rfl w ρ I _ (.iface _ _ _ _ hv1) (R.weaken (fun i hi => hi.1)) (.refl _ _ _ _)
  · obtain ⟨v, hN, rfl⟩ := asmRes_true hs
    exact quiet hN rfl rfl
end
end Go.Lh
