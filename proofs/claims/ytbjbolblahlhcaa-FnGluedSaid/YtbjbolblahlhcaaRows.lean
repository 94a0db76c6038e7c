/-
  No cell of these rows narrows 'for every input' (looked for: loops, veiled, ifaces, maps, wideKeys, modest, calm, conditions, laid).
  DERIVED. THE GIVEN ROWS OF THIS SEAT. 9 by the template 'for every input the law returns true; each argument reads behind the call as it read before'; 0 by the template 'total and deterministic' (their statements: YtbjbolblahlhcaaTotals.lean).
  GIVEN WITH THE SEED: the statements are not yours to turn. If you find one false, say at which input.
  Laid BY PROGRAM, IN A SANDBOX (cutbox-rows.mjs): the forced cells as the released guide's own fill.sh prints them over the translation 047643cc9ce6f09b… (all of the seat's roots in one cut). By AI agents, Wed Nov 11 2026. No macro, syntax, notation, axiom, sorry.
-/
import Derived.Test.YtbjbolblahlhcaaChecked
import GoSem.Claim
import GoSem.ClaimJoined
import GoSem.ClaimMapViews
import Derived.JoinedTies
import Derived.KernelRfl
namespace Go.Proofs.Ytbjbolblahlhcaa
/- THE CELL 'sum', in the pinned program and in every row, IS THE sha256 OF THE DUMP (.gsa) THAT YtbjbolblahlhcaaProg.lean LOADS. Nothing in Lean hashes anything: it is a label: what it is worth is what the hold of that sum in a sandbox is worth. -/
noncomputable def Try.pinned : Pinned := { name := "ytbjbolblahlhcaa", sum := "047643cc9ce6f09b21b3fbe65812b0004e05136ea4afc287e43c3c77d3e3b3eb", checked := Try.checked }
namespace Rows
def none {H : Type} : Left H := { results := [], args := [] }

/-- 'laws.FnExactBestStamps': WHATEVER THE INPUT: true; the input reads as it did. -/
def fnExactBestStampsSpec : ChangeSpec := { name := "fnExactBestStamps", fn := fun _ => fun
  | [d1, d2] => { results := [.lit (.bool true)], args := [d1, d2] }
  | _ => none }
def fnExactBestStampsRow : OpenClaim := { program := "ytbjbolblahlhcaa", sum := "047643cc9ce6f09b21b3fbe65812b0004e05136ea4afc287e43c3c77d3e3b3eb", func := "loop.example/g00595/laws.FnExactBestStamps", spec := "fnExactBestStamps", unfollowed := true, recurses := true, apart := false }
def FnExactBestStampsSaid : Prop := fnExactBestStampsRow.holds Try.pinned (OpenSpec.ofChange fnExactBestStampsSpec)

/-- ITS FALSE NEIGHBOUR: 'it returns false'. Refute it at one input. -/
def fnExactBestStampsWrong : ChangeSpec := { name := "fnExactBestStamps", fn := fun _ => fun
  | [d1, d2] => { results := [.lit (.bool false)], args := [d1, d2] }
  | _ => none }
def FnExactBestStampsWrongFalsely : Prop := fnExactBestStampsRow.holds Try.pinned (OpenSpec.ofChange fnExactBestStampsWrong)

/-- 'laws.FnStamps': WHATEVER THE INPUT: true; the input reads as it did. -/
def fnStampsSpec : ChangeSpec := { name := "fnStamps", fn := fun _ => fun
  | [d] => { results := [.lit (.bool true)], args := [d] }
  | _ => none }
def fnStampsRow : OpenClaim := { program := "ytbjbolblahlhcaa", sum := "047643cc9ce6f09b21b3fbe65812b0004e05136ea4afc287e43c3c77d3e3b3eb", func := "loop.example/g00595/laws.FnStamps", spec := "fnStamps", unfollowed := true, recurses := true, apart := false }
def FnStampsSaid : Prop := fnStampsRow.holds Try.pinned (OpenSpec.ofChange fnStampsSpec)

/-- ITS FALSE NEIGHBOUR: 'it returns false'. Refute it at one input. -/
def fnStampsWrong : ChangeSpec := { name := "fnStamps", fn := fun _ => fun
  | [d] => { results := [.lit (.bool false)], args := [d] }
  | _ => none }
def FnStampsWrongFalsely : Prop := fnStampsRow.holds Try.pinned (OpenSpec.ofChange fnStampsWrong)

/-- 'laws.FnWilf': WHATEVER THE INPUT: true; the input reads as it did. -/
def fnWilfSpec : ChangeSpec := { name := "fnWilf", fn := fun _ => fun
  | [d] => { results := [.lit (.bool true)], args := [d] }
  | _ => none }
def fnWilfRow : OpenClaim := { program := "ytbjbolblahlhcaa", sum := "047643cc9ce6f09b21b3fbe65812b0004e05136ea4afc287e43c3c77d3e3b3eb", func := "loop.example/g00595/laws.FnWilf", spec := "fnWilf", apart := false }
def FnWilfSaid : Prop := fnWilfRow.holds Try.pinned (OpenSpec.ofChange fnWilfSpec)

/-- ITS FALSE NEIGHBOUR: 'it returns false'. Refute it at one input. -/
def fnWilfWrong : ChangeSpec := { name := "fnWilf", fn := fun _ => fun
  | [d] => { results := [.lit (.bool false)], args := [d] }
  | _ => none }
def FnWilfWrongFalsely : Prop := fnWilfRow.holds Try.pinned (OpenSpec.ofChange fnWilfWrong)

/-- 'laws.FnExactBlowUp': WHATEVER THE INPUT: true; the input reads as it did. -/
def fnExactBlowUpSpec : ChangeSpec := { name := "fnExactBlowUp", fn := fun _ => fun
  | [d] => { results := [.lit (.bool true)], args := [d] }
  | _ => none }
def fnExactBlowUpRow : OpenClaim := { program := "ytbjbolblahlhcaa", sum := "047643cc9ce6f09b21b3fbe65812b0004e05136ea4afc287e43c3c77d3e3b3eb", func := "loop.example/g00595/laws.FnExactBlowUp", spec := "fnExactBlowUp", recurses := true, apart := false }
def FnExactBlowUpSaid : Prop := fnExactBlowUpRow.holds Try.pinned (OpenSpec.ofChange fnExactBlowUpSpec)

/-- ITS FALSE NEIGHBOUR: 'it returns false'. Refute it at one input. -/
def fnExactBlowUpWrong : ChangeSpec := { name := "fnExactBlowUp", fn := fun _ => fun
  | [d] => { results := [.lit (.bool false)], args := [d] }
  | _ => none }
def FnExactBlowUpWrongFalsely : Prop := fnExactBlowUpRow.holds Try.pinned (OpenSpec.ofChange fnExactBlowUpWrong)

/-- 'laws.FnExactMultiplicitySequence': WHATEVER THE INPUT: true; the input reads as it did. -/
def fnExactMultiplicitySequenceSpec : ChangeSpec := { name := "fnExactMultiplicitySequence", fn := fun _ => fun
  | [d] => { results := [.lit (.bool true)], args := [d] }
  | _ => none }
def fnExactMultiplicitySequenceRow : OpenClaim := { program := "ytbjbolblahlhcaa", sum := "047643cc9ce6f09b21b3fbe65812b0004e05136ea4afc287e43c3c77d3e3b3eb", func := "loop.example/g00595/laws.FnExactMultiplicitySequence", spec := "fnExactMultiplicitySequence", recurses := true, apart := false }
def FnExactMultiplicitySequenceSaid : Prop := fnExactMultiplicitySequenceRow.holds Try.pinned (OpenSpec.ofChange fnExactMultiplicitySequenceSpec)

/-- ITS FALSE NEIGHBOUR: 'it returns false'. Refute it at one input. -/
def fnExactMultiplicitySequenceWrong : ChangeSpec := { name := "fnExactMultiplicitySequence", fn := fun _ => fun
  | [d] => { results := [.lit (.bool false)], args := [d] }
  | _ => none }
def FnExactMultiplicitySequenceWrongFalsely : Prop := fnExactMultiplicitySequenceRow.holds Try.pinned (OpenSpec.ofChange fnExactMultiplicitySequenceWrong)

/-- 'laws.FnExactGlueOf': WHATEVER THE INPUT: true; the input reads as it did. -/
def fnExactGlueOfSpec : ChangeSpec := { name := "fnExactGlueOf", fn := fun _ => fun
  | [d1, d2, d3, d4] => { results := [.lit (.bool true)], args := [d1, d2, d3, d4] }
  | _ => none }
def fnExactGlueOfRow : OpenClaim := { program := "ytbjbolblahlhcaa", sum := "047643cc9ce6f09b21b3fbe65812b0004e05136ea4afc287e43c3c77d3e3b3eb", func := "loop.example/g00595/laws.FnExactGlueOf", spec := "fnExactGlueOf", recurses := true, apart := false }
def FnExactGlueOfSaid : Prop := fnExactGlueOfRow.holds Try.pinned (OpenSpec.ofChange fnExactGlueOfSpec)

/-- ITS FALSE NEIGHBOUR: 'it returns false'. Refute it at one input. -/
def fnExactGlueOfWrong : ChangeSpec := { name := "fnExactGlueOf", fn := fun _ => fun
  | [d1, d2, d3, d4] => { results := [.lit (.bool false)], args := [d1, d2, d3, d4] }
  | _ => none }
def FnExactGlueOfWrongFalsely : Prop := fnExactGlueOfRow.holds Try.pinned (OpenSpec.ofChange fnExactGlueOfWrong)

/-- 'laws.FnExactGlueFrobenius': WHATEVER THE INPUT: true; the input reads as it did. -/
def fnExactGlueFrobeniusSpec : ChangeSpec := { name := "fnExactGlueFrobenius", fn := fun _ => fun
  | [d1, d2, d3, d4] => { results := [.lit (.bool true)], args := [d1, d2, d3, d4] }
  | _ => none }
def fnExactGlueFrobeniusRow : OpenClaim := { program := "ytbjbolblahlhcaa", sum := "047643cc9ce6f09b21b3fbe65812b0004e05136ea4afc287e43c3c77d3e3b3eb", func := "loop.example/g00595/laws.FnExactGlueFrobenius", spec := "fnExactGlueFrobenius", recurses := true, apart := false }
def FnExactGlueFrobeniusSaid : Prop := fnExactGlueFrobeniusRow.holds Try.pinned (OpenSpec.ofChange fnExactGlueFrobeniusSpec)

/-- ITS FALSE NEIGHBOUR: 'it returns false'. Refute it at one input. -/
def fnExactGlueFrobeniusWrong : ChangeSpec := { name := "fnExactGlueFrobenius", fn := fun _ => fun
  | [d1, d2, d3, d4] => { results := [.lit (.bool false)], args := [d1, d2, d3, d4] }
  | _ => none }
def FnExactGlueFrobeniusWrongFalsely : Prop := fnExactGlueFrobeniusRow.holds Try.pinned (OpenSpec.ofChange fnExactGlueFrobeniusWrong)

/-- 'laws.FnExactMeetOfAll': WHATEVER THE INPUT: true; the input reads as it did. -/
def fnExactMeetOfAllSpec : ChangeSpec := { name := "fnExactMeetOfAll", fn := fun _ => fun
  | [d] => { results := [.lit (.bool true)], args := [d] }
  | _ => none }
def fnExactMeetOfAllRow : OpenClaim := { program := "ytbjbolblahlhcaa", sum := "047643cc9ce6f09b21b3fbe65812b0004e05136ea4afc287e43c3c77d3e3b3eb", func := "loop.example/g00595/laws.FnExactMeetOfAll", spec := "fnExactMeetOfAll", recurses := true, apart := false }
def FnExactMeetOfAllSaid : Prop := fnExactMeetOfAllRow.holds Try.pinned (OpenSpec.ofChange fnExactMeetOfAllSpec)

/-- ITS FALSE NEIGHBOUR: 'it returns false'. Refute it at one input. -/
def fnExactMeetOfAllWrong : ChangeSpec := { name := "fnExactMeetOfAll", fn := fun _ => fun
  | [d] => { results := [.lit (.bool false)], args := [d] }
  | _ => none }
def FnExactMeetOfAllWrongFalsely : Prop := fnExactMeetOfAllRow.holds Try.pinned (OpenSpec.ofChange fnExactMeetOfAllWrong)

/-- 'laws.FnGlued': WHATEVER THE INPUT: true; the input reads as it did. -/
def fnGluedSpec : ChangeSpec := { name := "fnGlued", fn := fun _ => fun
  | [d] => { results := [.lit (.bool true)], args := [d] }
  | _ => none }
def fnGluedRow : OpenClaim := { program := "ytbjbolblahlhcaa", sum := "047643cc9ce6f09b21b3fbe65812b0004e05136ea4afc287e43c3c77d3e3b3eb", func := "loop.example/g00595/laws.FnGlued", spec := "fnGlued", recurses := true, apart := false }
def FnGluedSaid : Prop := fnGluedRow.holds Try.pinned (OpenSpec.ofChange fnGluedSpec)

/-- ITS FALSE NEIGHBOUR: 'it returns false'. Refute it at one input. -/
def fnGluedWrong : ChangeSpec := { name := "fnGlued", fn := fun _ => fun
  | [d] => { results := [.lit (.bool false)], args := [d] }
  | _ => none }
def FnGluedWrongFalsely : Prop := fnGluedRow.holds Try.pinned (OpenSpec.ofChange fnGluedWrong)

/- THE SECOND FORM. 'bulk': how many values and letters a reading holds, each counted each time it is reached (what is shared counts as often as it is met; a slice's spare places count too). A statement '..UptoSaid' is the law's where the arguments, and the package variables that the reading takes, are together of bulk at most 1048576: NARROWER than '..Said'. Prove '..Said' where nothing that the law and all that it calls make is longer than what came in: it says more and counts as full. Else prove '..UptoSaid'. A law counts once. -/
mutual
def uptoBulk {H : Type} : DataW H → Nat
  | .lit (.string bytes) => bytes.length + 1
  | .lit _ => 1
  | .nil => 1
  | .ptr d => uptoBulk d + 1
  | .slice elems spare => uptoBulkAll elems + uptoBulkAll spare + 1
  | .agg parts => uptoBulkAll parts + 1
  | .iface _ d => uptoBulk d + 1
  | .map entries => uptoBulkEntries entries + 1
  | .held _ => 1
def uptoBulkAll {H : Type} : List (DataW H) → Nat
  | [] => 0
  | d :: r => uptoBulk d + uptoBulkAll r
def uptoBulkEntries {H : Type} : List (Lit × DataW H) → Nat
  | [] => 0
  | x :: r => uptoBulkEntry x + uptoBulkEntries r
def uptoBulkEntry {H : Type} : Lit × DataW H → Nat
  | (.string bytes, d) => bytes.length + uptoBulk d + 1
  | (_, d) => uptoBulk d + 1
 end
def uptoSmall : (H : Type) → List (DataW H) → Bool := fun _ ds => decide (uptoBulkAll ds ≤ 1048576)
def OpenSpec.upto (s : _root_.Go.ChangeSpec) : _root_.Go.OpenSpec := { _root_.Go.OpenSpec.ofChange s with cond := some uptoSmall }

/-- 'laws.FnExactBestStamps', WHERE WHAT IT READS IS OF BULK AT MOST 1048576: true; the input reads as it did. -/
def fnExactBestStampsUptoRow : OpenClaim := { program := "ytbjbolblahlhcaa", sum := "047643cc9ce6f09b21b3fbe65812b0004e05136ea4afc287e43c3c77d3e3b3eb", func := "loop.example/g00595/laws.FnExactBestStamps", spec := "fnExactBestStamps", unfollowed := true, recurses := true, apart := false, narrowed := true }
def FnExactBestStampsUptoSaid : Prop := fnExactBestStampsUptoRow.holds Try.pinned (OpenSpec.upto fnExactBestStampsSpec)

/-- 'laws.FnStamps', WHERE WHAT IT READS IS OF BULK AT MOST 1048576: true; the input reads as it did. -/
def fnStampsUptoRow : OpenClaim := { program := "ytbjbolblahlhcaa", sum := "047643cc9ce6f09b21b3fbe65812b0004e05136ea4afc287e43c3c77d3e3b3eb", func := "loop.example/g00595/laws.FnStamps", spec := "fnStamps", unfollowed := true, recurses := true, apart := false, narrowed := true }
def FnStampsUptoSaid : Prop := fnStampsUptoRow.holds Try.pinned (OpenSpec.upto fnStampsSpec)

/-- 'laws.FnWilf', WHERE WHAT IT READS IS OF BULK AT MOST 1048576: true; the input reads as it did. -/
def fnWilfUptoRow : OpenClaim := { program := "ytbjbolblahlhcaa", sum := "047643cc9ce6f09b21b3fbe65812b0004e05136ea4afc287e43c3c77d3e3b3eb", func := "loop.example/g00595/laws.FnWilf", spec := "fnWilf", apart := false, narrowed := true }
def FnWilfUptoSaid : Prop := fnWilfUptoRow.holds Try.pinned (OpenSpec.upto fnWilfSpec)

/-- 'laws.FnExactBlowUp', WHERE WHAT IT READS IS OF BULK AT MOST 1048576: true; the input reads as it did. -/
def fnExactBlowUpUptoRow : OpenClaim := { program := "ytbjbolblahlhcaa", sum := "047643cc9ce6f09b21b3fbe65812b0004e05136ea4afc287e43c3c77d3e3b3eb", func := "loop.example/g00595/laws.FnExactBlowUp", spec := "fnExactBlowUp", recurses := true, apart := false, narrowed := true }
def FnExactBlowUpUptoSaid : Prop := fnExactBlowUpUptoRow.holds Try.pinned (OpenSpec.upto fnExactBlowUpSpec)

/-- 'laws.FnExactMultiplicitySequence', WHERE WHAT IT READS IS OF BULK AT MOST 1048576: true; the input reads as it did. -/
def fnExactMultiplicitySequenceUptoRow : OpenClaim := { program := "ytbjbolblahlhcaa", sum := "047643cc9ce6f09b21b3fbe65812b0004e05136ea4afc287e43c3c77d3e3b3eb", func := "loop.example/g00595/laws.FnExactMultiplicitySequence", spec := "fnExactMultiplicitySequence", recurses := true, apart := false, narrowed := true }
def FnExactMultiplicitySequenceUptoSaid : Prop := fnExactMultiplicitySequenceUptoRow.holds Try.pinned (OpenSpec.upto fnExactMultiplicitySequenceSpec)

/-- 'laws.FnExactGlueOf', WHERE WHAT IT READS IS OF BULK AT MOST 1048576: true; the input reads as it did. -/
def fnExactGlueOfUptoRow : OpenClaim := { program := "ytbjbolblahlhcaa", sum := "047643cc9ce6f09b21b3fbe65812b0004e05136ea4afc287e43c3c77d3e3b3eb", func := "loop.example/g00595/laws.FnExactGlueOf", spec := "fnExactGlueOf", recurses := true, apart := false, narrowed := true }
def FnExactGlueOfUptoSaid : Prop := fnExactGlueOfUptoRow.holds Try.pinned (OpenSpec.upto fnExactGlueOfSpec)

/-- 'laws.FnExactGlueFrobenius', WHERE WHAT IT READS IS OF BULK AT MOST 1048576: true; the input reads as it did. -/
def fnExactGlueFrobeniusUptoRow : OpenClaim := { program := "ytbjbolblahlhcaa", sum := "047643cc9ce6f09b21b3fbe65812b0004e05136ea4afc287e43c3c77d3e3b3eb", func := "loop.example/g00595/laws.FnExactGlueFrobenius", spec := "fnExactGlueFrobenius", recurses := true, apart := false, narrowed := true }
def FnExactGlueFrobeniusUptoSaid : Prop := fnExactGlueFrobeniusUptoRow.holds Try.pinned (OpenSpec.upto fnExactGlueFrobeniusSpec)

/-- 'laws.FnExactMeetOfAll', WHERE WHAT IT READS IS OF BULK AT MOST 1048576: true; the input reads as it did. -/
def fnExactMeetOfAllUptoRow : OpenClaim := { program := "ytbjbolblahlhcaa", sum := "047643cc9ce6f09b21b3fbe65812b0004e05136ea4afc287e43c3c77d3e3b3eb", func := "loop.example/g00595/laws.FnExactMeetOfAll", spec := "fnExactMeetOfAll", recurses := true, apart := false, narrowed := true }
def FnExactMeetOfAllUptoSaid : Prop := fnExactMeetOfAllUptoRow.holds Try.pinned (OpenSpec.upto fnExactMeetOfAllSpec)

/-- 'laws.FnGlued', WHERE WHAT IT READS IS OF BULK AT MOST 1048576: true; the input reads as it did. -/
def fnGluedUptoRow : OpenClaim := { program := "ytbjbolblahlhcaa", sum := "047643cc9ce6f09b21b3fbe65812b0004e05136ea4afc287e43c3c77d3e3b3eb", func := "loop.example/g00595/laws.FnGlued", spec := "fnGlued", recurses := true, apart := false, narrowed := true }
def FnGluedUptoSaid : Prop := fnGluedUptoRow.holds Try.pinned (OpenSpec.upto fnGluedSpec)

end Rows
end Go.Proofs.Ytbjbolblahlhcaa
