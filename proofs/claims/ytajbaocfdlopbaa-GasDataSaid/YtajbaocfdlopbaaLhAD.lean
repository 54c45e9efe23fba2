/- From a function's contract to a law's row. -/
import Derived.Test.YtajbaocfdlopbaaLhAC
import Derived.Below
set_option linter.unusedSimpArgs false
set_option linter.unusedVariables false
namespace Go.Lh
/-- all that was there stands still -/
def Old (w : World) : Nat → Prop := fun b => b < w.heap.size
theorem LFn.law {P : Program} {f : FuncId} {args : List V} {args' : Array Value} {h' : Heap} (H : LFn P f args [] (.ret (.bool true)) h') (w : World) (ha : VsRel (Old w) w (fun _ => none) args args'.toList) :
    Calls P f args' w fun e w' => e = .returned (.bool true) ∧ Go.RowKit.Below w.heap.size w w' := by
  have R : Rel (fun _ => none) (Old w) w [] (fun i => ([] : Heap).length ≤ i) :=
    ⟨fun i b hb _ => by simp at hb, fun _ _ => rfl, fun _ _ => rfl, fun i j x y l l' _ hx => by simp at hx, fun b hb => hb⟩
  refine (H _ _ w args'.toList R ha).mono ?_
  rintro e w' ⟨ρ', I', _, W, v', rfl, hv⟩
  cases hv
  exact ⟨rfl, W.os, W.tape, W.output, W.size, fun k hk => W.keep k hk (by rintro ⟨i, x, l, hx, _⟩; simp at hx)⟩
end Go.Lh
