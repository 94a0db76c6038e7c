/- What BlowUp of the reference and of the program answers: the same. Condition: the list's length. -/
import Derived.Test.YtbjbolblahlhcaaF4FnExactMultiplicitySequenceZ
namespace Go.Proofs.Ytbjbolblahlhcaa.FFnExactMultiplicitySequence
open Go Go.RowKit Go.Proofs.YtbjbolblahlhcaaW.PrintWords Go.Proofs.Ytbjbolblahlhcaa.M Go.Proofs.Ytbjbolblahlhcaa.PFnExactMultiplicitySequence
def Blow (l : List Int) : List Int := rd l 0 :: (l.drop 1).map (fun g => g - rd l 0)
def BU (l : List Int) (r : List Int × Bool) : Prop := (IsSG l ∧ FG (Blow l) r) ∨ (¬ IsSG l ∧ r = ([], false))
theorem BU.uniq {l : List Int} {r r' : List Int × Bool} (h : BU l r) (h' : BU l r') : r = r' := by
 rcases h with ⟨a, b⟩ | ⟨a, rfl⟩ <;> rcases h' with ⟨a', b'⟩ | ⟨a', rfl⟩
 ·exact b.uniq b'
 ·exact absurd a a'
 ·exact absurd a' a
 ·rfl
theorem BU.cases {l : List Int} {r : List Int × Bool} (h : BU l r) : (r.2 = true ∧ IsSG r.1) ∨ r = ([], false) := by
 rcases h with ⟨_, h⟩ | ⟨_, h⟩
 ·exact h.cases
 ·exact .inr h
theorem sBU_l0 (l : List Int) (h : IsSG l) (r : List Int × Bool) : ∀ (d j : Nat) (acc : List Int), l.length - j = d → j ≤ l.length → acc.length ≤ j → Ev (fun k => spec_FromGens.f k (acc ++ (l.drop j).map (fun g => g - rd l 0))) r → Ev (fun k => spec_BlowUp.l0 k acc (j : Int) l) r := by
 have hle := h.le
 have hpos := h.pos
 have h0 : 1 ≤ rd l 0 ∧ rd l 0 ≤ 60 := h.rng _ (rd_mem (i := 0) (by omega))
 intro d
 induction d with
 | zero =>
  intro j acc hd hj ha hr
  rw [List.drop_of_length_le (by omega), List.map_nil, List.append_nil] at hr
  refine Ev.step (fun _ => spec_BlowUp.l0.eq_2 ..) ?_
  refine Ev.neg (by omega) ?_
  exact Ev.bind hr (Ev.now _)
 | succ d ih =>
  intro j acc hd hj ha hr
  have hlt : j < l.length := by omega
  have hx := h.rng _ (List.getElem_mem hlt)
  refine Ev.step (fun _ => spec_BlowUp.l0.eq_2 ..) ?_
  refine Ev.pos (by omega) ?_
  refine Ev.pos (by omega) ?_
  refine Ev.pos (by omega) ?_
  refine Ev.pos (by omega) ?_
  rw [w64s (by omega), rd_get hlt, w64 (by omega) (by omega)]
  refine ih (j + 1) _ (by omega) (by omega) (by simp <;> omega) ?_
  rw [drop_cons hlt, List.map_cons] at hr
  rw [List.append_assoc, List.singleton_append]
  exact hr
theorem sBU (l : List Int) (hl : l.length ≤ 1048576) : ∃ r, Ev (fun k => spec_BlowUp.f k l) r ∧ BU l r := by
 by_cases h : IsSG l
 ·have hle := h.le
  have hpos := h.pos
  obtain ⟨r, h1, h2⟩ := sFG (Blow l) (by unfold Blow; simp <;> omega)
  refine ⟨r, ?_, .inl ⟨h, h2⟩⟩
  unfold spec_BlowUp.f
  refine Ev.bind ((sIsSG l hl).yes h) (Ev.pos rfl ?_)
  refine Ev.pos (by omega) ?_
  exact sBU_l0 l h r (l.length - 1) 1 [rd l 0] (by omega) (by omega) (by simp) h1
 ·refine ⟨([], false), ?_, .inr ⟨h, rfl⟩⟩
  unfold spec_BlowUp.f
  exact Ev.bind ((sIsSG l hl).no h) (Ev.neg (by simp) (Ev.now _))
theorem iBU_l0 (l : List Int) (h : IsSG l) (r : List Int × Bool) : ∀ (d j : Nat) (acc : List Int), (l.drop 1).length - j = d → j ≤ (l.drop 1).length → acc.length ≤ j + 1 → Ev (fun k => impl_FromGens.f k (acc ++ ((l.drop 1).drop j).map (fun g => g - rd l 0))) r → Ev (fun k => impl_BlowUp.l0 k acc (l.drop 1) ((l.drop 1).length : Int) (j : Int) l) r := by
 have hle := h.le
 have hpos := h.pos
 have h0 : 1 ≤ rd l 0 ∧ rd l 0 ≤ 60 := h.rng _ (rd_mem (i := 0) (by omega))
 have hdl : (l.drop 1).length = l.length - 1 := by simp
 intro d
 induction d with
 | zero =>
  intro j acc hd hj ha hr
  rw [List.drop_of_length_le (by omega), List.map_nil, List.append_nil] at hr
  refine Ev.step (fun _ => impl_BlowUp.l0.eq_2 ..) ?_
  refine Ev.neg (by omega) ?_
  exact Ev.bind hr (Ev.now _)
 | succ d ih =>
  intro j acc hd hj ha hr
  have hlt : j < (l.drop 1).length := by omega
  have hx := h.rng _ (List.mem_of_mem_drop (List.getElem_mem hlt))
  refine Ev.step (fun _ => impl_BlowUp.l0.eq_2 ..) ?_
  refine Ev.pos (by omega) ?_
  refine Ev.pos (by omega) ?_
  refine Ev.pos (by omega) ?_
  refine Ev.pos (by omega) ?_
  refine Ev.pos (by omega) ?_
  rw [w64s (by omega), rd_get hlt, w64 (by omega) (by omega)]
  refine ih (j + 1) _ (by omega) (by omega) (by simp <;> omega) ?_
  rw [drop_cons hlt, List.map_cons] at hr
  rw [List.append_assoc, List.singleton_append]
  exact hr
theorem iBU (l : List Int) (hl : l.length ≤ 1048576) : ∃ r, Ev (fun k => impl_BlowUp.f k l) r ∧ BU l r := by
 by_cases h : IsSG l
 ·have hle := h.le
  have hpos := h.pos
  obtain ⟨r, h1, h2⟩ := iFG (Blow l) (by unfold Blow; simp <;> omega)
  refine ⟨r, ?_, .inl ⟨h, h2⟩⟩
  unfold impl_BlowUp.f
  refine Ev.bind ((iIsSG l hl).yes h) (Ev.pos rfl ?_)
  refine Ev.pos (by omega) ?_
  refine Ev.pos (by omega) ?_
  exact iBU_l0 l h r (l.drop 1).length 0 [rd l 0] (by omega) (by omega) (by simp) h1
 ·refine ⟨([], false), ?_, .inr ⟨h, rfl⟩⟩
  unfold impl_BlowUp.f
  exact Ev.bind ((iIsSG l hl).no h) (Ev.neg (by simp) (Ev.now _))
end Go.Proofs.Ytbjbolblahlhcaa.FFnExactMultiplicitySequence
