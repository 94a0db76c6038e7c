/- A text of the claim for FnExactBlowUp: its part of the chain from the printed contracts and the plain laws to the row. It has no condition of its own. -/
import Derived.Test.YtbjbolblahlhcaaPFnExactBlowUpx0Z
import Derived.Test.YtbjbolblahlhcaaPFnExactBlowUpx1Z
import Derived.Test.YtbjbolblahlhcaaPFnExactBlowUpx2Z
import Derived.Test.YtbjbolblahlhcaaPFnExactBlowUpx3Z
import Derived.Test.YtbjbolblahlhcaaPFnExactBlowUpx4Z
import Derived.Test.YtbjbolblahlhcaaPFnExactBlowUpx5Z
import Derived.Test.YtbjbolblahlhcaaPFnExactBlowUpx6Z
import Derived.Test.YtbjbolblahlhcaaPFnExactBlowUpx7Z
import Derived.Test.YtbjbolblahlhcaaPFnExactBlowUpx8Z
import Derived.Test.YtbjbolblahlhcaaPFnExactBlowUpx9Z
import Derived.Test.YtbjbolblahlhcaaPFnExactBlowUpx10Z
import Derived.Test.YtbjbolblahlhcaaPFnExactBlowUpx11Z
import Derived.Test.YtbjbolblahlhcaaPFnExactBlowUpx12Z
import Derived.Test.YtbjbolblahlhcaaPFnExactBlowUpx13Z
import Derived.Test.YtbjbolblahlhcaaPFnExactBlowUpx14Z
namespace Go.Proofs.Ytbjbolblahlhcaa.PFnExactBlowUp
open Go.RowKit Go.Proofs.YtbjbolblahlhcaaW.PrintWords Go.Proofs.YtbjbolblahlhcaaW.PrintLast Go.Proofs.YtbjbolblahlhcaaW.PrintMore
attribute [local go_sem] max2_int min2_int max_two min_two max_three min_three max_four min_four
set_option linter.unusedVariables false
set_option linter.unusedSimpArgs false
end Go.Proofs.Ytbjbolblahlhcaa.PFnExactBlowUp
