/- The law of GlueFrobenius, over lists and numbers alone: the program's answer and the reference's are the same number. Conditions: none but the lists' own bounds. -/
import Derived.Test.YtbjbolblahlhcaaF8FnExactGlueFrobeniusZ
import Derived.Test.YtbjbolblahlhcaaFLSFnExactGlueFrobeniusZ
namespace Go.Proofs.Ytbjbolblahlhcaa.FFnExactGlueFrobenius
open Go Go.RowKit Go.Proofs.YtbjbolblahlhcaaW.PrintWords Go.Proofs.Ytbjbolblahlhcaa.M Go.Proofs.Ytbjbolblahlhcaa.PFnExactGlueFrobenius
theorem glueFrob (a b : List Int) (x y : Int) (ha : a.length ≤ 1048576) (hb : b.length ≤ 1048576) : ∃ n, Ev (fun k => spec_GlueFrobenius.f k a b x y) n ∧ Ev (fun k => impl_GlueFrobenius.f k a b x y) n := by
 obtain ⟨r, a1, a2⟩ := sGL a b x y ha hb
 obtain ⟨r', b1, b2⟩ := iGL a b x y ha hb
 have := a2.uniq b2
 subst this
 obtain ⟨g, b⟩ := r
 unfold spec_GlueFrobenius.f impl_GlueFrobenius.f
 cases b with
 | true =>
  obtain ⟨ga, _, c1, c2⟩ := frobBoth a ha
  obtain ⟨gb, _, d1, d2⟩ := frobBoth b hb
  exact ⟨_, Ev.bind a1 (Ev.pos rfl (Ev.bind c1 (Ev.bind d1 (Ev.now _)))), Ev.bind b1 (Ev.pos rfl (Ev.bind c2 (Ev.bind d2 (Ev.now _))))⟩
 | false => exact ⟨_, Ev.bind a1 (Ev.neg (by simp) (Ev.now _)), Ev.bind b1 (Ev.neg (by simp) (Ev.now _))⟩
theorem law (a : List Int) (ha : a.length ≤ maxLen) (b : List Int) (hb : b.length ≤ maxLen) (x : Int) (_ : -9223372036854775808 ≤ x ∧ x ≤ 9223372036854775807) (y : Int) (_ : -9223372036854775808 ≤ y ∧ y ≤ 9223372036854775807) : ∃ k, laws_FnExactGlueFrobenius.f k a b x y = some true := by
 refine Ev.rounds ?_
 unfold laws_FnExactGlueFrobenius.f
 refine Ev.call (szSG a ha 1048576 (by omega) (by omega)) ?_
 by_cases hs : (a.length : Int) ≤ 1048576
 case neg => rw [if_neg hs]; exact Ev.pos (by omega) (Ev.now _)
 rw [if_pos hs]
 refine Ev.neg (by omega) ?_
 refine Ev.call (szSG b hb _ (by omega) (by omega)) ?_
 by_cases hs2 : (b.length : Int) ≤ 1048576 - a.length
 case neg => rw [if_neg hs2]; exact Ev.pos (by omega) (Ev.now _)
 rw [if_pos hs2]
 refine Ev.neg (by omega) ?_
 have ha2 : a.length ≤ 1048576 := by omega
 have hb2 : b.length ≤ 1048576 := by omega
 obtain ⟨n, a1, b1⟩ := glueFrob a b x y ha2 hb2
 refine Ev.bind (toSG a ha2) ?_
 refine Ev.bind (toSG b hb2) ?_
 refine Ev.bind a1 ?_
 refine Ev.bind (toSG a ha2) ?_
 refine Ev.bind (toSG b hb2) ?_
 refine Ev.bind b1 ?_
 refine Ev.pos rfl ?_
 refine Ev.bind (toSG a ha2) ?_
 refine Ev.bind ((eqSG a a ha2).yes rfl) (Ev.pos rfl ?_)
 refine Ev.bind (toSG b hb2) ?_
 exact Ev.bind ((eqSG b b hb2).yes rfl) (Ev.pos rfl (Ev.now _))
end Go.Proofs.Ytbjbolblahlhcaa.FFnExactGlueFrobenius
