/- The law of GlueOf, over lists and numbers alone: the program's answer and the reference's are the same list and flag. Conditions: none but the lists' own bounds. -/
import Derived.Test.YtbjbolblahlhcaaF7FnExactGlueOfZ
import Derived.Test.YtbjbolblahlhcaaFLSFnExactGlueOfZ
namespace Go.Proofs.Ytbjbolblahlhcaa.FFnExactGlueOf
open Go Go.RowKit Go.Proofs.YtbjbolblahlhcaaW.PrintWords Go.Proofs.Ytbjbolblahlhcaa.M Go.Proofs.Ytbjbolblahlhcaa.PFnExactGlueOf
theorem law (a : List Int) (ha : a.length ≤ maxLen) (b : List Int) (hb : b.length ≤ maxLen) (x : Int) (_ : -9223372036854775808 ≤ x ∧ x ≤ 9223372036854775807) (y : Int) (_ : -9223372036854775808 ≤ y ∧ y ≤ 9223372036854775807) : ∃ k, laws_FnExactGlueOf.f k a b x y = some true := by
 refine Ev.rounds ?_
 unfold laws_FnExactGlueOf.f
 refine Ev.call (szSG a ha 1048576 (by omega) (by omega)) ?_
 by_cases hs : (a.length : Int) ≤ 1048576
 case neg => rw [if_neg hs]; exact Ev.pos (by omega) (Ev.now _)
 rw [if_pos hs]
 refine Ev.neg (by omega) ?_
 refine Ev.call (szSG b hb _ (by omega) (by omega)) ?_
 by_cases hs2 : (b.length : Int) ≤ 1048576 - a.length
 case neg => rw [if_neg hs2]; exact Ev.pos (by omega) (Ev.now _)
 rw [if_pos hs2]
 refine Ev.neg (by omega) ?_
 have ha2 : a.length ≤ 1048576 := by omega
 have hb2 : b.length ≤ 1048576 := by omega
 obtain ⟨r, a1, a2⟩ := sGL a b x y ha2 hb2
 obtain ⟨r', b1, b2⟩ := iGL a b x y ha2 hb2
 have := a2.uniq b2
 subst this
 have hr : r.1.length ≤ 1048576 := by
  rcases a2.cases with ⟨_, h⟩ | h
  ·have := h.le; omega
  ·rw [h]; simp
 refine Ev.bind (toSG a ha2) ?_
 refine Ev.bind (toSG b hb2) ?_
 refine Ev.bind a1 ?_
 refine Ev.bind (toSG a ha2) ?_
 refine Ev.bind (toSG b hb2) ?_
 refine Ev.bind b1 ?_
 refine Ev.bind ((eqSG r.1 r.1 hr).yes rfl) (Ev.pos rfl ?_)
 refine Ev.neg (by simp) ?_
 refine Ev.bind (toSG a ha2) ?_
 refine Ev.bind ((eqSG a a ha2).yes rfl) (Ev.pos rfl ?_)
 refine Ev.bind (toSG b hb2) ?_
 refine Ev.bind ((eqSG b b hb2).yes rfl) (Ev.pos rfl ?_)
 obtain ⟨x1, m1, _, _⟩ := markSG a 1 ha2 (by omega) (by omega)
 refine Ev.bind m1 ?_
 obtain ⟨x1', m1', _, _⟩ := markSG b (1 + a.length) hb2 (by omega) (by omega)
 refine Ev.bind m1' ?_
 refine Ev.neg (by simp only; omega) ?_
 refine Ev.bind ((eqSG r.1 r.1 hr).yes rfl) (Ev.pos rfl ?_)
 obtain ⟨x2, m2, m3, m4⟩ := markSG r.1 1 hr (by omega) (by omega)
 refine Ev.bind m2 ?_
 have held := heldSG x2 1 (by omega) (by omega) (by omega) m4
 rw [m3] at held
 refine Ev.bind held ?_
 refine Ev.neg (by omega) ?_
 refine Ev.pos rfl ?_
 refine Ev.bind (toSG a ha2) ?_
 refine Ev.bind (toSG b hb2) ?_
 refine Ev.bind b1 ?_
 refine Ev.bind ((eqSG r.1 r.1 hr).yes rfl) (Ev.pos rfl ?_)
 refine Ev.neg (by simp) ?_
 refine Ev.bind held ?_
 refine Ev.neg (by omega) ?_
 exact Ev.pos rfl (Ev.now _)
end Go.Proofs.Ytbjbolblahlhcaa.FFnExactGlueOf
