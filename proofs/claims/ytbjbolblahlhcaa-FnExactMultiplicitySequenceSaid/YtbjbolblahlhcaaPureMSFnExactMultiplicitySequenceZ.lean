/- The law of MultiplicitySequence, over lists alone: the program's answer and the reference's are the same list and flag. Conditions: none but the lists' own bounds. -/
import Derived.Test.YtbjbolblahlhcaaF6FnExactMultiplicitySequenceZ
import Derived.Test.YtbjbolblahlhcaaFLSFnExactMultiplicitySequenceZ
namespace Go.Proofs.Ytbjbolblahlhcaa.FFnExactMultiplicitySequence
open Go Go.RowKit Go.Proofs.YtbjbolblahlhcaaW.PrintWords Go.Proofs.Ytbjbolblahlhcaa.M Go.Proofs.Ytbjbolblahlhcaa.PFnExactMultiplicitySequence
theorem law (l : List Int) (hl : l.length ≤ maxLen) : ∃ k, laws_FnExactMultiplicitySequence.f k l = some true := by
 refine Ev.rounds ?_
 unfold laws_FnExactMultiplicitySequence.f
 refine Ev.call (szSG l hl 1048576 (by omega) (by omega)) ?_
 by_cases hs : (l.length : Int) ≤ 1048576
 case neg => rw [if_neg hs]; exact Ev.pos (by omega) (Ev.now _)
 rw [if_pos hs]
 refine Ev.neg (by omega) ?_
 have hl2 : l.length ≤ 1048576 := by omega
 obtain ⟨r, a1, b1, hr⟩ := MS l hl2
 refine Ev.bind (toSG l hl2) ?_
 refine Ev.bind a1 ?_
 refine Ev.bind (toSG l hl2) ?_
 refine Ev.bind b1 ?_
 refine Ev.bind ((eqIntS r.1 r.1 (by omega)).yes rfl) (Ev.pos rfl ?_)
 rw [show (r.2 != r.2) = false by simp]
 refine Ev.step (fun _ => laws_FnExactMultiplicitySequence.j0.eq_2 ..) ?_
 refine Ev.neg (by simp) ?_
 refine Ev.bind (toSG l hl2) ?_
 refine Ev.bind ((eqSG l l hl2).yes rfl) (Ev.pos rfl ?_)
 obtain ⟨x1, m1, _, _⟩ := markSG l 1 hl2 (by omega) (by omega)
 refine Ev.bind m1 ?_
 refine Ev.neg (by simp only; omega) ?_
 refine Ev.bind ((eqIntS r.1 r.1 (by omega)).yes rfl) (Ev.pos rfl ?_)
 rw [show (r.2 != r.2) = false by simp]
 refine Ev.step (fun _ => laws_FnExactMultiplicitySequence.j1.eq_2 ..) ?_
 refine Ev.neg (by simp) ?_
 obtain ⟨x2, m2, m3, m4⟩ := markIntS r.1 1 (by omega) (by omega) (by omega)
 refine Ev.bind m2 ?_
 have held := heldIntS x2 1 (by omega) (by omega) (by omega) m4
 rw [m3] at held
 refine Ev.bind held ?_
 refine Ev.neg (by omega) ?_
 refine Ev.pos rfl ?_
 refine Ev.bind (toSG l hl2) ?_
 refine Ev.bind b1 ?_
 refine Ev.bind ((eqIntS r.1 r.1 (by omega)).yes rfl) (Ev.pos rfl ?_)
 rw [show (r.2 != r.2) = false by simp]
 refine Ev.step (fun _ => laws_FnExactMultiplicitySequence.j2.eq_2 ..) ?_
 refine Ev.neg (by simp) ?_
 refine Ev.bind held ?_
 refine Ev.neg (by omega) ?_
 exact Ev.pos rfl (Ev.now _)
end Go.Proofs.Ytbjbolblahlhcaa.FFnExactMultiplicitySequence
