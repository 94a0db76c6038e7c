/- What the laws' helpers on a semigroup answer: bulk, copy, equality, marks. Conditions: the lengths that the statements name. -/
import Derived.Test.YtbjbolblahlhcaaFLFnExactGlueFrobeniusZ
namespace Go.Proofs.Ytbjbolblahlhcaa.FFnExactGlueFrobenius
open Go Go.RowKit Go.Proofs.YtbjbolblahlhcaaW.PrintWords Go.Proofs.Ytbjbolblahlhcaa.M Go.Proofs.Ytbjbolblahlhcaa.PFnExactGlueFrobenius
theorem szSG (l : List Int) (hl : l.length ≤ maxLen) (left : Int) (h0 : 0 ≤ left) (h1 : left ≤ 1048576) : laws_szSemigroup.f l left = some (if (l.length : Int) ≤ left then left - l.length else -1) := by
 unfold maxLen at hl
 unfold laws_szSemigroup.f laws_szIntS.f
 rw [w64 (x := left - l.length) (by omega) (by omega)]
 by_cases h : (l.length : Int) ≤ left
 ·rw [if_neg (by omega), if_pos h]
  simp only [Option.bind_some]
  rw [if_neg (by omega)]
 ·rw [if_pos (by omega), if_neg h]
  rfl
theorem toSG (l : List Int) (hl : l.length ≤ 1048576) : Ev (fun k => laws_toSemigroup.f k l) l := by
 unfold laws_toSemigroup.f
 exact Ev.bind (toIntS l hl) (Ev.now _)
theorem eqSG (a b : List Int) (hl : a.length ≤ 1048576) : EvB (fun k => laws_eqSemigroup.f k a b) (a = b) := by
 unfold laws_eqSemigroup.f
 by_cases h : a = b
 ·exact EvB.bind ((eqIntS a b (by omega)).yes h) (EvB.pos rfl (EvB.of_true (Ev.now _) h))
 ·exact EvB.bind ((eqIntS a b (by omega)).no h) (EvB.neg (by simp) (EvB.of_false (Ev.now _) h))
end Go.Proofs.Ytbjbolblahlhcaa.FFnExactGlueFrobenius
