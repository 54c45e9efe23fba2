/- The second seat: its program, the functions that the model answers. -/
import Derived.Test.YtajbaocfdlopbaaLhAG
import Derived.Test.YtajbaocfdlopbaaWB
import Derived.Test.YtajbaocfdlopbaaProg
set_option linter.unusedSimpArgs false
set_option linter.unusedVariables false
open Go Go.Lh
namespace Go.Proofs.Ytajbaocfdlopbaa.K
noncomputable section
set_option maxRecDepth 100000
abbrev Pr : Program := Go.Proofs.Try.prog
theorem mixed : Pr.follows .mixedOrders = true := by kernel_rfl
def ext : FuncId → List V → Option (Bool × V) := extL [(82, subX), (84, addX), (114, cntX)]
theorem ext_ok : ExtOk Pr ext :=
  extL_cons (subX_at (fn := Go.Proofs.Try.f82) (by kernel_rfl) (by kernel_rfl) (by kernel_rfl) (by kernel_rfl) (by kernel_rfl))
  (extL_cons (addX_at (fn := Go.Proofs.Try.f84) (by kernel_rfl) (by kernel_rfl) (by kernel_rfl) (by kernel_rfl) (by kernel_rfl))
  (extL_cons (cntX_at (fn := Go.Proofs.Try.f114) (by kernel_rfl) (by kernel_rfl) (by kernel_rfl) (by kernel_rfl) (by kernel_rfl)) extL_nil))
end
end Go.Proofs.Ytajbaocfdlopbaa.K
