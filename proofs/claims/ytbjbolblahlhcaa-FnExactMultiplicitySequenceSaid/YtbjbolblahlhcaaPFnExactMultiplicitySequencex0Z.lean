/- A text of the claim for FnExactMultiplicitySequence: its part of the chain from the printed contracts and the plain laws to the row. It has no condition of its own. -/
import Derived.Test.YtbjbolblahlhcaaProg
import Derived.Below
import Derived.Deep.Draws
import Derived.Deep.AppendLies
import Derived.Maps.AppendAt
import Derived.OwnWalk
import Derived.Laws.BytesArg
import Derived.Laws.MakeOwn
import Derived.Laws.OwnMore
import Derived.Deep.OwnRows
import Derived.Tactics
import Derived.Lib.ConvBytes
import Derived.Laws.Slices
import Derived.WalkKit
import Derived.KernelRfl
import Derived.RowKit3
import Derived.Deep.LoopGhost
import Derived.Deep.QuietTactic
import Derived.BigQuiet
import Derived.WideLaws
import Derived.Deep.DeepCutAuto
import Derived.Deep.CutBlock
import Derived.Deep.RegionHeld3
import Derived.Laws.Rows
import Derived.Lib.AppendStr
import Derived.ArgAppend
import Derived.Laws.IdiomCopy
import Derived.OrdersHeld
import Derived.Laws.BitsLemmas
import Derived.RowKit
import Derived.Test.YtbjbolblahlhcaaSortWZFnExactMultiplicitySequence
import Derived.Test.YtbjbolblahlhcaaShelfZFnExactMultiplicitySequence
import Derived.Test.YtbjbolblahlhcaaWWordsZFnExactMultiplicitySequence
import Derived.Test.YtbjbolblahlhcaaWLastZFnExactMultiplicitySequence
import Derived.Test.YtbjbolblahlhcaaWTabZFnExactMultiplicitySequence
import Derived.Test.YtbjbolblahlhcaaWFourZFnExactMultiplicitySequence
import Derived.Test.YtbjbolblahlhcaaWQPutZFnExactMultiplicitySequence
import Derived.Test.YtbjbolblahlhcaaWApartZFnExactMultiplicitySequence
import Derived.Test.YtbjbolblahlhcaaWArrZFnExactMultiplicitySequence
import Derived.Test.YtbjbolblahlhcaaWZerosZFnExactMultiplicitySequence
import Derived.Test.YtbjbolblahlhcaaWFootZFnExactMultiplicitySequence
import Derived.Test.YtbjbolblahlhcaaWKeptZFnExactMultiplicitySequence
import Derived.Test.YtbjbolblahlhcaaWShareZFnExactMultiplicitySequence
import Derived.Test.YtbjbolblahlhcaaWNZFnExactMultiplicitySequence
import Derived.Test.YtbjbolblahlhcaaWFootNeZFnExactMultiplicitySequence
import Derived.Test.YtbjbolblahlhcaaWAtZFnExactMultiplicitySequence
import Derived.Test.YtbjbolblahlhcaaWEqStructZFnExactMultiplicitySequence
import Derived.Test.YtbjbolblahlhcaaWRepsOneZFnExactMultiplicitySequence
import Derived.Test.YtbjbolblahlhcaaWInvZFnExactMultiplicitySequence
import Derived.Test.YtbjbolblahlhcaaWInvWordsZFnExactMultiplicitySequence
import Derived.Test.YtbjbolblahlhcaaWGuardZFnExactMultiplicitySequence
import Derived.Test.YtbjbolblahlhcaaWNEvZFnExactMultiplicitySequence
import Derived.Test.YtbjbolblahlhcaaWMoreZFnExactMultiplicitySequence
namespace Go.Proofs.Ytbjbolblahlhcaa.PFnExactMultiplicitySequence
open Go.RowKit Go.Proofs.YtbjbolblahlhcaaW.PrintWords Go.Proofs.YtbjbolblahlhcaaW.PrintLast Go.Proofs.YtbjbolblahlhcaaW.PrintMore
attribute [local go_sem] max2_int min2_int max_two min_two max_three min_three max_four min_four
set_option linter.unusedVariables false
set_option linter.unusedSimpArgs false
def errW : Option Int → Value
 | none => .nilIface
 | some c => .iface 0 (.int .i64 c)
theorem errW_none : errW none = .nilIface := rfl
theorem errW_some (c : Int) : errW (some c) = .iface 0 (.int .i64 c) := rfl
theorem info3 : (Try.prog.info? 3).map (fun i => (i.zero, i.size, i.bytes)) = some (some (.int .i64 0), 1, 8) := by kernel_rfl
theorem info4 : (Try.prog.info? 4).map (fun i => (i.zero, i.size, i.bytes)) = some (some (.bool false), 1, 1) := by kernel_rfl
end Go.Proofs.Ytbjbolblahlhcaa.PFnExactMultiplicitySequence
