/- A text of the claim for FnExactGlueFrobenius: its part of the chain from the printed contracts and the plain laws to the row. It has no condition of its own. -/
import Derived.Test.YtbjbolblahlhcaaWInvZFnExactGlueFrobenius
import Derived.Test.YtbjbolblahlhcaaWFootNeZFnExactGlueFrobenius
namespace Go.Proofs.YtbjbolblahlhcaaW.PrintWords
open Go.RowKit
end Go.Proofs.YtbjbolblahlhcaaW.PrintWords
namespace Go.Proofs.YtbjbolblahlhcaaW.PrintLast
section
variable {ops : Array Oper} {a : Act} {o og : Oper} {g : Nat} {t : Tmp} {u : Bool}
end
end Go.Proofs.YtbjbolblahlhcaaW.PrintLast
