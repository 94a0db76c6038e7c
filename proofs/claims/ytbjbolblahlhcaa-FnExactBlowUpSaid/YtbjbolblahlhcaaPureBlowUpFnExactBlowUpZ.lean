/- The law of BlowUp, over lists alone: the program's BlowUp and the reference's answer the same list and flag. Conditions: none but the lists' own bounds. -/
import Derived.Test.YtbjbolblahlhcaaF5FnExactBlowUpZ
import Derived.Test.YtbjbolblahlhcaaFLSFnExactBlowUpZ
namespace Go.Proofs.Ytbjbolblahlhcaa.FFnExactBlowUp
open Go Go.RowKit Go.Proofs.YtbjbolblahlhcaaW.PrintWords Go.Proofs.Ytbjbolblahlhcaa.M Go.Proofs.Ytbjbolblahlhcaa.PFnExactBlowUp
theorem law (l : List Int) (hl : l.length ≤ maxLen) : ∃ k, laws_FnExactBlowUp.f k l = some true := by
 refine Ev.rounds ?_
 unfold laws_FnExactBlowUp.f
 refine Ev.call (szSG l hl 1048576 (by omega) (by omega)) ?_
 by_cases hs : (l.length : Int) ≤ 1048576
 case neg => rw [if_neg hs]; exact Ev.pos (by omega) (Ev.now _)
 rw [if_pos hs]
 refine Ev.neg (by omega) ?_
 have hl2 : l.length ≤ 1048576 := by omega
 obtain ⟨r, a1, a2⟩ := sBU l hl2
 obtain ⟨r', b1, b2⟩ := iBU l hl2
 have := a2.uniq b2
 subst this
 have hr : r.1.length ≤ 1048576 := by
  rcases a2.cases with ⟨_, h⟩ | h
  ·have := h.le; omega
  ·rw [h]; simp
 refine Ev.bind (toSG l hl2) ?_
 refine Ev.bind a1 ?_
 refine Ev.bind (toSG l hl2) ?_
 refine Ev.bind b1 ?_
 refine Ev.bind ((eqSG r.1 r.1 hr).yes rfl) (Ev.pos rfl ?_)
 rw [show (r.2 != r.2) = false by simp]
 refine Ev.step (fun _ => laws_FnExactBlowUp.j0.eq_2 ..) ?_
 refine Ev.neg (by simp) ?_
 refine Ev.bind (toSG l hl2) ?_
 refine Ev.bind ((eqSG l l hl2).yes rfl) (Ev.pos rfl ?_)
 obtain ⟨x1, m1, _, _⟩ := markSG l 1 hl2 (by omega) (by omega)
 refine Ev.bind m1 ?_
 refine Ev.neg (by simp only; omega) ?_
 refine Ev.bind ((eqSG r.1 r.1 hr).yes rfl) (Ev.pos rfl ?_)
 rw [show (r.2 != r.2) = false by simp]
 refine Ev.step (fun _ => laws_FnExactBlowUp.j1.eq_2 ..) ?_
 refine Ev.neg (by simp) ?_
 obtain ⟨x2, m2, m3, m4⟩ := markSG r.1 1 hr (by omega) (by omega)
 refine Ev.bind m2 ?_
 have held := heldSG x2 1 (by omega) (by omega) (by omega) m4
 rw [m3] at held
 refine Ev.bind held ?_
 refine Ev.neg (by omega) ?_
 refine Ev.pos rfl ?_
 refine Ev.bind (toSG l hl2) ?_
 refine Ev.bind b1 ?_
 refine Ev.bind ((eqSG r.1 r.1 hr).yes rfl) (Ev.pos rfl ?_)
 rw [show (r.2 != r.2) = false by simp]
 refine Ev.step (fun _ => laws_FnExactBlowUp.j2.eq_2 ..) ?_
 refine Ev.neg (by simp) ?_
 refine Ev.bind held ?_
 refine Ev.neg (by omega) ?_
 exact Ev.pos rfl (Ev.now _)
end Go.Proofs.Ytbjbolblahlhcaa.FFnExactBlowUp
