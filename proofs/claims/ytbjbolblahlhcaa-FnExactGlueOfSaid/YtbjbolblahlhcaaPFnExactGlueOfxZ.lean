/- A text of the claim for FnExactGlueOf: its part of the chain from the printed contracts and the plain laws to the row. It has no condition of its own. -/
import Derived.Test.YtbjbolblahlhcaaPFnExactGlueOfx0Z
import Derived.Test.YtbjbolblahlhcaaPFnExactGlueOfx1Z
import Derived.Test.YtbjbolblahlhcaaPFnExactGlueOfx2Z
import Derived.Test.YtbjbolblahlhcaaPFnExactGlueOfx3Z
import Derived.Test.YtbjbolblahlhcaaPFnExactGlueOfx4Z
import Derived.Test.YtbjbolblahlhcaaPFnExactGlueOfx5Z
import Derived.Test.YtbjbolblahlhcaaPFnExactGlueOfx6Z
import Derived.Test.YtbjbolblahlhcaaPFnExactGlueOfx7Z
import Derived.Test.YtbjbolblahlhcaaPFnExactGlueOfx8Z
import Derived.Test.YtbjbolblahlhcaaPFnExactGlueOfx9Z
import Derived.Test.YtbjbolblahlhcaaPFnExactGlueOfx10Z
import Derived.Test.YtbjbolblahlhcaaPFnExactGlueOfx11Z
import Derived.Test.YtbjbolblahlhcaaPFnExactGlueOfx12Z
import Derived.Test.YtbjbolblahlhcaaPFnExactGlueOfx13Z
import Derived.Test.YtbjbolblahlhcaaPFnExactGlueOfx14Z
import Derived.Test.YtbjbolblahlhcaaPFnExactGlueOfx15Z
import Derived.Test.YtbjbolblahlhcaaPFnExactGlueOfx16Z
namespace Go.Proofs.Ytbjbolblahlhcaa.PFnExactGlueOf
open Go.RowKit Go.Proofs.YtbjbolblahlhcaaW.PrintWords Go.Proofs.YtbjbolblahlhcaaW.PrintLast Go.Proofs.YtbjbolblahlhcaaW.PrintMore
open Go.Proofs.Ytbjbolblahlhcaa.SortW (bk_ kr_ bl_)
attribute [local go_sem] max2_int min2_int max_two min_two max_three min_three max_four min_four
set_option linter.unusedVariables false
set_option linter.unusedSimpArgs false
end Go.Proofs.Ytbjbolblahlhcaa.PFnExactGlueOf
