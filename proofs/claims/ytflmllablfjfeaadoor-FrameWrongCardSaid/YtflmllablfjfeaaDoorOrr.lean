import Derived.Test.YtflmllablfjfeaaDoorOrq
import Derived.KernelRfl
namespace Go.Proofs.YtflmllablfjfeaaDoor
open Go.RowKit Go.HK Go.FR
set_option linter.unusedVariables false
set_option linter.unusedSimpArgs false
set_option linter.unusedSectionVars false
end Go.Proofs.YtflmllablfjfeaaDoor
