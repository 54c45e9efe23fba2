/- The functions that this law reaches: what each comes to. -/
import Derived.Test.YtajbaocfdlopbaaCMParts1
set_option linter.unusedSimpArgs false
set_option linter.unusedVariables false
section
open Go Go.Lh
namespace Go.Proofs.Ytajbaocfdlopbaa.K
noncomputable section
set_option maxRecDepth 100000
def ptS (n : BitVec 64) (s : List (BitVec 8)) (p : W4 × W4) : Fr × Heap := ([(0,.u64 n),(1,.str s),(7,.ptr 0 0),(8,.ptr 1 0),(11,.bool true)], [.b64 [p.1.a, p.1.b, p.1.c, p.1.d], .b64 [p.2.a, p.2.b, p.2.c, p.2.d]])
theorem memParts_fn (n : BitVec 64) (s : List (BitVec 8)) (hs : s.length < 9223372036854775808) (a z : W4) (b : Bool) : LFn Pr 3 [.u64 n, .str s, a.v, z.v, .bool b] [] (.ret (.bool true)) [] := by
  refine EndsIn.done (fn := Go.Proofs.Try.f3) (by kernel_rfl) (by kernel_rfl) (by kernel_rfl) ?_
  refine EndsIn.cut 3 (ptS n s) (fun _ => True) OPt_sound mixed (by kernel_rfl) noLoops_all (by kernel_rfl) (pt1_x n s a z b) ?_ ?_
  · rw [wp_chk_true, wp_br]
    exact ⟨fun _ => wp_chk_true.2 ⟨(⟨_, _, _, _⟩, ⟨_, _, _, _⟩), trivial, rfl⟩, fun _ => ⟨(a, z), trivial, rfl⟩⟩
  rintro ⟨a, z⟩ _
  refine EndsIn.cut 0 (ptS n s) (fun _ => True) OPt_sound mixed (by kernel_rfl) noLoops_all (by kernel_rfl) (pt2_x n s a z) ?_ ?_
  · simp only [wp_chk_true, wp_br, wp_leaf]
    exact ⟨fun _ => ⟨fun _ => ⟨fun _ => ⟨fun _ => ⟨(a, ⟨z.a, z.b, z.c, z.d % BitVec.ofInt 64 65536⟩), trivial, rfl⟩, fun _ => ⟨(a, z), trivial, rfl⟩⟩, fun _ => ⟨(a, z), trivial, rfl⟩⟩, fun _ => ⟨(a, z), trivial, rfl⟩⟩, fun _ => ⟨(a, z), trivial, rfl⟩⟩
  rintro ⟨a, z⟩ _
  refine EndsIn.last OPt_sound mixed noLoops_all (by kernel_rfl) (pt3_x n s a z) ?_
  rw [okN_iff.2 hs]
  simp only [wp_chk_true, wp_chk, wp_leaf, wp_br, ret_bool, Bool.and_true, Bool.true_and, beq_self_eq_true, Bool.and_self, and_true, true_and, true_implies, Bool.true_eq_false, false_implies, implies_true]
end
end Go.Proofs.Ytajbaocfdlopbaa.K
end
