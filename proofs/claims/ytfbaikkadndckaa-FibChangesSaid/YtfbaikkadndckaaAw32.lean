/- FibChanges' closed run. -/
import Derived.Test.YtfbaikkadndckaaNa
namespace Go.Proofs.Ytfbaikkadndckaa.Ev
open Go
attribute [local congr] ob_congr sq_congr cd_congr ite_congr1 iter_congr it1_congr jumps_congr
set_option maxRecDepth 100000
set_option linter.unusedSimpArgs false
set_option linter.unusedVariables false
theorem awake32_ev : evF Try.prog env noext 29 60 [] = some (.d (.s (.bool (true)))) := by kernel_rfl
end Go.Proofs.Ytfbaikkadndckaa.Ev
