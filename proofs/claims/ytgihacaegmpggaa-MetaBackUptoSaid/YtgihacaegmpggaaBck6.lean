/- Texts of this claim's proof, laid behind each other by a program of ours, without what the proof does not reach: Printed by a program of ours (pp.sh), partly over contracts proved by hand -/
import Derived.Test.YtgihacaegmpggaaBck1
import Derived.Test.YtgihacaegmpggaaBck2
import Derived.Test.YtgihacaegmpggaaBck3
import Derived.Test.YtgihacaegmpggaaBck4
import Derived.Test.YtgihacaegmpggaaBck5
/- Printed by a program of ours (pp.sh), partly over contracts proved by hand. -/
namespace Go.Proofs.Ytgihacaegmpggaa.R
open Go.RowKit Go.Proofs.YtgihacaegmpggaaW.PrintWords Go.Proofs.YtgihacaegmpggaaW.PrintLast Go.Proofs.YtgihacaegmpggaaW.PrintMore
attribute [local go_sem] max2_int min2_int max_two min_two max_three min_three max_four min_four   -- for this text's walks alone
set_option linter.unusedVariables false
set_option linter.unusedSimpArgs false

/-! ### lacquerref13_Check: function 14 -/

/-! ### lacquerlaw13_MetaChecks: function 4 -/

end Go.Proofs.Ytgihacaegmpggaa.R
