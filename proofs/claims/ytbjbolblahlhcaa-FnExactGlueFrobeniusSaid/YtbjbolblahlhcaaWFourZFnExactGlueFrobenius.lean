/- A text of the claim for FnExactGlueFrobenius: its part of the chain from the printed contracts and the plain laws to the row. It has no condition of its own. -/
import Derived.Test.YtbjbolblahlhcaaWTabZFnExactGlueFrobenius
namespace Go.Proofs.YtbjbolblahlhcaaW.PrintLast
section
variable {P : Program} {ops : Array Oper} {Q : Exit → Act → World → Prop} {md : Region.Mode} {S : World → Prop} {ds : List Nat} {T : Bool × List (List Nat × List Nat)}
end
end Go.Proofs.YtbjbolblahlhcaaW.PrintLast
