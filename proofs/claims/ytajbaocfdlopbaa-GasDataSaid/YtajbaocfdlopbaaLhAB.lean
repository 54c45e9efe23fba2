/- Oracles put together. -/
import Derived.Test.YtajbaocfdlopbaaLhAA
import Derived.KernelRfl
set_option linter.unusedSimpArgs false
set_option linter.unusedVariables false
namespace Go.Lh
def noOrc : Orc := ⟨fun _ _ _ => none, fun _ _ => none, []⟩
theorem noOrc_sound (P : Program) : OrcSound P noOrc := ⟨fun _ _ _ _ _ h => by simp [noOrc] at h, fun _ _ _ _ h => by simp [noOrc] at h, fun _ _ _ h => by simp [noOrc] at h⟩

theorem LoopOk.none {P : Program} {N n0 : Nat} {c : Code} : LoopOk P N n0 noLoops c := fun _ _ _ _ _ h => by simp [noLoops] at h

/-- a function, walked in place -/
def inl (P : Program) (base : Orc) (f0 : FuncId) (fn : Func) : Orc :=
  { base with fn := fun f args h => if Nat.beq f f0 then execF P base noLoops 1000 fn args h else base.fn f args h }

theorem inl_sound {P : Program} {base : Orc} {f0 : FuncId} {fn : Func} (hb : OrcSound P base) (hm : P.follows .mixedOrders = true) (hf : P.funcs[f0]? = some fn) (hn : fn.body.isNone = false) (hg : (fn.name == "runtime.NumGoroutine") = false) : OrcSound P (inl P base f0 fn) := by
  refine ⟨fun f args h fin h' hx => ?_, fun f args h r hx => ?_, hb.ext⟩
  · simp only [inl] at hx
    split at hx
    · rename_i e; rw [Nat.eq_of_beq_eq_true e]; exact execF_sound hb hm hf (fun _ _ _ _ => LoopOk.none) hx
    · exact hb.fn _ _ _ _ _ hx
  · simp only [inl] at hx
    split at hx
    · rename_i e; rw [Nat.eq_of_beq_eq_true e]; exact ⟨fn, hf, hn, hg⟩
    · exact hb.enters _ _ _ _ hx

/-- a function, by what is known of it -/
def know (base : Orc) (f0 : FuncId) (g : List V → Heap → Option (Bool × Fin × Heap)) : Orc :=
  { base with fn := fun f args h => if Nat.beq f f0 then g args h else base.fn f args h }

theorem know_sound {P : Program} {base : Orc} {f0 : FuncId} {g : List V → Heap → Option (Bool × Fin × Heap)} (hb : OrcSound P base) (he : Enters P f0) (hg : ∀ args h fin h', g args h = some (true, fin, h') → LFn P f0 args h fin h') : OrcSound P (know base f0 g) := by
  refine ⟨fun f args h fin h' hx => ?_, fun f args h r hx => ?_, hb.ext⟩
  · simp only [know] at hx
    split at hx
    · rename_i e; rw [Nat.eq_of_beq_eq_true e]; exact hg _ _ _ _ hx
    · exact hb.fn _ _ _ _ _ hx
  · simp only [know] at hx
    split at hx
    · rename_i e; rw [Nat.eq_of_beq_eq_true e]; exact he
    · exact hb.enters _ _ _ _ hx

def withAsm (base : Orc) (l : List (Nat × Bool)) : Orc := { base with asm := l }
theorem withAsm_sound {P : Program} {base : Orc} {l : List (Nat × Bool)} (h : OrcSound P base) : OrcSound P (withAsm base l) := ⟨h.fn, h.enters, h.ext⟩
end Go.Lh
