/- The closed run of the merge laws. -/
import Derived.Test.YtfbaikkadndckaaNa
namespace Go.Proofs.Ytfbaikkadndckaa.Ev
open Go
attribute [local congr] ob_congr sq_congr cd_congr ite_congr1 iter_congr it1_congr jumps_congr
set_option maxRecDepth 100000
set_option linter.unusedSimpArgs false
set_option linter.unusedVariables false
theorem awake26_ev : evF Try.prog env xt 29 41 [] = some (.d (.s (.bool (true)))) := by kernel_rfl
end Go.Proofs.Ytfbaikkadndckaa.Ev
