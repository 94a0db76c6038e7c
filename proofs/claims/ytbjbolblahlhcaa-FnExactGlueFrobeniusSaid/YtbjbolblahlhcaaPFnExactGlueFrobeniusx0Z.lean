/- A text of the claim for FnExactGlueFrobenius: its part of the chain from the printed contracts and the plain laws to the row. It has no condition of its own. -/
import Derived.Test.YtbjbolblahlhcaaProg
import Derived.Below
import Derived.Deep.Draws
import Derived.Deep.AppendLies
import Derived.Maps.AppendAt
import Derived.OwnWalk
import Derived.Laws.BytesArg
import Derived.Laws.MakeOwn
import Derived.Laws.OwnMore
import Derived.Deep.OwnRows
import Derived.Tactics
import Derived.Lib.ConvBytes
import Derived.Laws.Slices
import Derived.WalkKit
import Derived.KernelRfl
import Derived.RowKit3
import Derived.Deep.LoopGhost
import Derived.Deep.QuietTactic
import Derived.BigQuiet
import Derived.WideLaws
import Derived.Deep.DeepCutAuto
import Derived.Deep.CutBlock
import Derived.Deep.RegionHeld3
import Derived.Laws.Rows
import Derived.Lib.AppendStr
import Derived.ArgAppend
import Derived.Laws.IdiomCopy
import Derived.OrdersHeld
import Derived.Laws.BitsLemmas
import Derived.RowKit
import Derived.Test.YtbjbolblahlhcaaSortWZFnExactGlueFrobenius
import Derived.Test.YtbjbolblahlhcaaShelfZFnExactGlueFrobenius
import Derived.Test.YtbjbolblahlhcaaWWordsZFnExactGlueFrobenius
import Derived.Test.YtbjbolblahlhcaaWLastZFnExactGlueFrobenius
import Derived.Test.YtbjbolblahlhcaaWTabZFnExactGlueFrobenius
import Derived.Test.YtbjbolblahlhcaaWFourZFnExactGlueFrobenius
import Derived.Test.YtbjbolblahlhcaaWQPutZFnExactGlueFrobenius
import Derived.Test.YtbjbolblahlhcaaWApartZFnExactGlueFrobenius
import Derived.Test.YtbjbolblahlhcaaWArrZFnExactGlueFrobenius
import Derived.Test.YtbjbolblahlhcaaWZerosZFnExactGlueFrobenius
import Derived.Test.YtbjbolblahlhcaaWFootZFnExactGlueFrobenius
import Derived.Test.YtbjbolblahlhcaaWKeptZFnExactGlueFrobenius
import Derived.Test.YtbjbolblahlhcaaWShareZFnExactGlueFrobenius
import Derived.Test.YtbjbolblahlhcaaWNZFnExactGlueFrobenius
import Derived.Test.YtbjbolblahlhcaaWFootNeZFnExactGlueFrobenius
import Derived.Test.YtbjbolblahlhcaaWAtZFnExactGlueFrobenius
import Derived.Test.YtbjbolblahlhcaaWEqStructZFnExactGlueFrobenius
import Derived.Test.YtbjbolblahlhcaaWRepsOneZFnExactGlueFrobenius
import Derived.Test.YtbjbolblahlhcaaWInvZFnExactGlueFrobenius
import Derived.Test.YtbjbolblahlhcaaWInvWordsZFnExactGlueFrobenius
import Derived.Test.YtbjbolblahlhcaaWGuardZFnExactGlueFrobenius
import Derived.Test.YtbjbolblahlhcaaWNEvZFnExactGlueFrobenius
import Derived.Test.YtbjbolblahlhcaaWMoreZFnExactGlueFrobenius
namespace Go.Proofs.Ytbjbolblahlhcaa.PFnExactGlueFrobenius
open Go.RowKit Go.Proofs.YtbjbolblahlhcaaW.PrintWords Go.Proofs.YtbjbolblahlhcaaW.PrintLast Go.Proofs.YtbjbolblahlhcaaW.PrintMore
open Go.Proofs.Ytbjbolblahlhcaa.SortW (bk_ kr_ bl_)
attribute [local go_sem] max2_int min2_int max_two min_two max_three min_three max_four min_four
set_option linter.unusedVariables false
set_option linter.unusedSimpArgs false
def errW : Option Int → Value
 | none => .nilIface
 | some c => .iface 0 (.int .i64 c)
theorem errW_none : errW none = .nilIface := rfl
theorem errW_some (c : Int) : errW (some c) = .iface 0 (.int .i64 c) := rfl
theorem info3 : (Try.prog.info? 3).map (fun i => (i.zero, i.size, i.bytes)) = some (some (.int .i64 0), 1, 8) := by kernel_rfl
theorem info4 : (Try.prog.info? 4).map (fun i => (i.zero, i.size, i.bytes)) = some (some (.bool false), 1, 1) := by kernel_rfl
end Go.Proofs.Ytbjbolblahlhcaa.PFnExactGlueFrobenius
