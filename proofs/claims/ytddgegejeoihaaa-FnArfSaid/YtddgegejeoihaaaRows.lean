/-
  No cell of these rows narrows 'for every input' (looked for: loops, veiled, ifaces, maps, wideKeys, modest, calm, conditions, laid).
  DERIVED. THE GIVEN ROWS OF THIS SEAT. 4 by the template 'for every input the law returns true; each argument reads behind the call as it read before'; 0 by the template 'total and deterministic' (their statements: YtddgegejeoihaaaTotals.lean).
  GIVEN WITH THE SEED: the statements are not yours to turn. If you find one false, say at which input.
  Laid BY PROGRAM, IN A SANDBOX (cutbox-rows.mjs): the forced cells as the released guide's own fill.sh prints them over the translation f0861aea2d678d38… (all of the seat's roots in one cut). By AI agents, Wed Nov 11 2026. No macro, syntax, notation, axiom, sorry.
-/
import Derived.Test.YtddgegejeoihaaaChecked
import GoSem.Claim
import GoSem.ClaimJoined
import GoSem.ClaimMapViews
import Derived.JoinedTies
import Derived.KernelRfl
namespace Go.Proofs.Ytddgegejeoihaaa
/- THE CELL 'sum', in the pinned program and in every row, IS THE sha256 OF THE DUMP (.gsa) THAT YtddgegejeoihaaaProg.lean LOADS. Nothing in Lean hashes anything: it is a label: what it is worth is what the hold of that sum in a sandbox is worth. -/
noncomputable def Try.pinned : Pinned := { name := "ytddgegejeoihaaa", sum := "f0861aea2d678d383391d9e3d162e3b7fc25506cbfc66b278226ec99688cc06e", checked := Try.checked }
namespace Rows
def none {H : Type} : Left H := { results := [], args := [] }

/-- 'laws.FnExactIrreducibleOvers': WHATEVER THE INPUT: true; the input reads as it did. -/
def fnExactIrreducibleOversSpec : ChangeSpec := { name := "fnExactIrreducibleOvers", fn := fun _ => fun
  | [d] => { results := [.lit (.bool true)], args := [d] }
  | _ => none }
def fnExactIrreducibleOversRow : OpenClaim := { program := "ytddgegejeoihaaa", sum := "f0861aea2d678d383391d9e3d162e3b7fc25506cbfc66b278226ec99688cc06e", func := "loop.example/g00595/laws.FnExactIrreducibleOvers", spec := "fnExactIrreducibleOvers", unfollowed := true, recurses := true, apart := false }
def FnExactIrreducibleOversSaid : Prop := fnExactIrreducibleOversRow.holds Try.pinned (OpenSpec.ofChange fnExactIrreducibleOversSpec)

/-- ITS FALSE NEIGHBOUR: 'it returns false'. Refute it at one input. -/
def fnExactIrreducibleOversWrong : ChangeSpec := { name := "fnExactIrreducibleOvers", fn := fun _ => fun
  | [d] => { results := [.lit (.bool false)], args := [d] }
  | _ => none }
def FnExactIrreducibleOversWrongFalsely : Prop := fnExactIrreducibleOversRow.holds Try.pinned (OpenSpec.ofChange fnExactIrreducibleOversWrong)

/-- 'laws.FnArf': WHATEVER THE INPUT: true; the input reads as it did. -/
def fnArfSpec : ChangeSpec := { name := "fnArf", fn := fun _ => fun
  | [d] => { results := [.lit (.bool true)], args := [d] }
  | _ => none }
def fnArfRow : OpenClaim := { program := "ytddgegejeoihaaa", sum := "f0861aea2d678d383391d9e3d162e3b7fc25506cbfc66b278226ec99688cc06e", func := "loop.example/g00595/laws.FnArf", spec := "fnArf", unfollowed := true, recurses := true, apart := false }
def FnArfSaid : Prop := fnArfRow.holds Try.pinned (OpenSpec.ofChange fnArfSpec)

/-- ITS FALSE NEIGHBOUR: 'it returns false'. Refute it at one input. -/
def fnArfWrong : ChangeSpec := { name := "fnArf", fn := fun _ => fun
  | [d] => { results := [.lit (.bool false)], args := [d] }
  | _ => none }
def FnArfWrongFalsely : Prop := fnArfRow.holds Try.pinned (OpenSpec.ofChange fnArfWrong)

/-- 'laws.FnExactCountGenus': WHATEVER THE INPUT: true; the input reads as it did. -/
def fnExactCountGenusSpec : ChangeSpec := { name := "fnExactCountGenus", fn := fun _ => fun
  | [d] => { results := [.lit (.bool true)], args := [d] }
  | _ => none }
def fnExactCountGenusRow : OpenClaim := { program := "ytddgegejeoihaaa", sum := "f0861aea2d678d383391d9e3d162e3b7fc25506cbfc66b278226ec99688cc06e", func := "loop.example/g00595/laws.FnExactCountGenus", spec := "fnExactCountGenus", unfollowed := true, recurses := true, apart := false }
def FnExactCountGenusSaid : Prop := fnExactCountGenusRow.holds Try.pinned (OpenSpec.ofChange fnExactCountGenusSpec)

/-- ITS FALSE NEIGHBOUR: 'it returns false'. Refute it at one input. -/
def fnExactCountGenusWrong : ChangeSpec := { name := "fnExactCountGenus", fn := fun _ => fun
  | [d] => { results := [.lit (.bool false)], args := [d] }
  | _ => none }
def FnExactCountGenusWrongFalsely : Prop := fnExactCountGenusRow.holds Try.pinned (OpenSpec.ofChange fnExactCountGenusWrong)

/-- 'laws.FnExactAllOfGenus': WHATEVER THE INPUT: true; the input reads as it did. -/
def fnExactAllOfGenusSpec : ChangeSpec := { name := "fnExactAllOfGenus", fn := fun _ => fun
  | [d] => { results := [.lit (.bool true)], args := [d] }
  | _ => none }
def fnExactAllOfGenusRow : OpenClaim := { program := "ytddgegejeoihaaa", sum := "f0861aea2d678d383391d9e3d162e3b7fc25506cbfc66b278226ec99688cc06e", func := "loop.example/g00595/laws.FnExactAllOfGenus", spec := "fnExactAllOfGenus", unfollowed := true, recurses := true, apart := false }
def FnExactAllOfGenusSaid : Prop := fnExactAllOfGenusRow.holds Try.pinned (OpenSpec.ofChange fnExactAllOfGenusSpec)

/-- ITS FALSE NEIGHBOUR: 'it returns false'. Refute it at one input. -/
def fnExactAllOfGenusWrong : ChangeSpec := { name := "fnExactAllOfGenus", fn := fun _ => fun
  | [d] => { results := [.lit (.bool false)], args := [d] }
  | _ => none }
def FnExactAllOfGenusWrongFalsely : Prop := fnExactAllOfGenusRow.holds Try.pinned (OpenSpec.ofChange fnExactAllOfGenusWrong)

/- THE SECOND FORM. 'bulk': how many values and letters a reading holds, each counted each time it is reached (what is shared counts as often as it is met; a slice's spare places count too). A statement '..UptoSaid' is the law's where the arguments, and the package variables that the reading takes, are together of bulk at most 1048576: NARROWER than '..Said'. Prove '..Said' where nothing that the law and all that it calls make is longer than what came in: it says more and counts as full. Else prove '..UptoSaid'. A law counts once. -/
mutual
def uptoBulk {H : Type} : DataW H → Nat
  | .lit (.string bytes) => bytes.length + 1
  | .lit _ => 1
  | .nil => 1
  | .ptr d => uptoBulk d + 1
  | .slice elems spare => uptoBulkAll elems + uptoBulkAll spare + 1
  | .agg parts => uptoBulkAll parts + 1
  | .iface _ d => uptoBulk d + 1
  | .map entries => uptoBulkEntries entries + 1
  | .held _ => 1
def uptoBulkAll {H : Type} : List (DataW H) → Nat
  | [] => 0
  | d :: r => uptoBulk d + uptoBulkAll r
def uptoBulkEntries {H : Type} : List (Lit × DataW H) → Nat
  | [] => 0
  | x :: r => uptoBulkEntry x + uptoBulkEntries r
def uptoBulkEntry {H : Type} : Lit × DataW H → Nat
  | (.string bytes, d) => bytes.length + uptoBulk d + 1
  | (_, d) => uptoBulk d + 1
 end
def uptoSmall : (H : Type) → List (DataW H) → Bool := fun _ ds => decide (uptoBulkAll ds ≤ 1048576)
def OpenSpec.upto (s : _root_.Go.ChangeSpec) : _root_.Go.OpenSpec := { _root_.Go.OpenSpec.ofChange s with cond := some uptoSmall }

/-- 'laws.FnExactIrreducibleOvers', WHERE WHAT IT READS IS OF BULK AT MOST 1048576: true; the input reads as it did. -/
def fnExactIrreducibleOversUptoRow : OpenClaim := { program := "ytddgegejeoihaaa", sum := "f0861aea2d678d383391d9e3d162e3b7fc25506cbfc66b278226ec99688cc06e", func := "loop.example/g00595/laws.FnExactIrreducibleOvers", spec := "fnExactIrreducibleOvers", unfollowed := true, recurses := true, apart := false, narrowed := true }
def FnExactIrreducibleOversUptoSaid : Prop := fnExactIrreducibleOversUptoRow.holds Try.pinned (OpenSpec.upto fnExactIrreducibleOversSpec)

/-- 'laws.FnArf', WHERE WHAT IT READS IS OF BULK AT MOST 1048576: true; the input reads as it did. -/
def fnArfUptoRow : OpenClaim := { program := "ytddgegejeoihaaa", sum := "f0861aea2d678d383391d9e3d162e3b7fc25506cbfc66b278226ec99688cc06e", func := "loop.example/g00595/laws.FnArf", spec := "fnArf", unfollowed := true, recurses := true, apart := false, narrowed := true }
def FnArfUptoSaid : Prop := fnArfUptoRow.holds Try.pinned (OpenSpec.upto fnArfSpec)

/-- 'laws.FnExactCountGenus', WHERE WHAT IT READS IS OF BULK AT MOST 1048576: true; the input reads as it did. -/
def fnExactCountGenusUptoRow : OpenClaim := { program := "ytddgegejeoihaaa", sum := "f0861aea2d678d383391d9e3d162e3b7fc25506cbfc66b278226ec99688cc06e", func := "loop.example/g00595/laws.FnExactCountGenus", spec := "fnExactCountGenus", unfollowed := true, recurses := true, apart := false, narrowed := true }
def FnExactCountGenusUptoSaid : Prop := fnExactCountGenusUptoRow.holds Try.pinned (OpenSpec.upto fnExactCountGenusSpec)

/-- 'laws.FnExactAllOfGenus', WHERE WHAT IT READS IS OF BULK AT MOST 1048576: true; the input reads as it did. -/
def fnExactAllOfGenusUptoRow : OpenClaim := { program := "ytddgegejeoihaaa", sum := "f0861aea2d678d383391d9e3d162e3b7fc25506cbfc66b278226ec99688cc06e", func := "loop.example/g00595/laws.FnExactAllOfGenus", spec := "fnExactAllOfGenus", unfollowed := true, recurses := true, apart := false, narrowed := true }
def FnExactAllOfGenusUptoSaid : Prop := fnExactAllOfGenusUptoRow.holds Try.pinned (OpenSpec.upto fnExactAllOfGenusSpec)

end Rows
end Go.Proofs.Ytddgegejeoihaaa
