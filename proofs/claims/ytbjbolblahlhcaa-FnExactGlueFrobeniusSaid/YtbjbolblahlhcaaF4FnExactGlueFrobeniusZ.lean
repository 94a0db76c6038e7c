/- What FromGens of the reference and of the program answers: the same. Condition: the list's length. -/
import Derived.Test.YtbjbolblahlhcaaF3FnExactGlueFrobeniusZ
namespace Go.Proofs.Ytbjbolblahlhcaa.FFnExactGlueFrobenius
open Go Go.RowKit Go.Proofs.YtbjbolblahlhcaaW.PrintWords Go.Proofs.Ytbjbolblahlhcaa.M Go.Proofs.Ytbjbolblahlhcaa.PFnExactGlueFrobenius
def FG (l : List Int) (r : List Int × Bool) : Prop := ∃ s, Sorted l s ∧ ((Use l ∧ IsSG (minOf [] s) ∧ r = (minOf [] s, true)) ∨ (¬ (Use l ∧ IsSG (minOf [] s)) ∧ r = ([], false)))
theorem FG.uniq {l : List Int} {r r' : List Int × Bool} (h : FG l r) (h' : FG l r') : r = r' := by
 obtain ⟨s, hs, h⟩ := h
 obtain ⟨s', hs', h'⟩ := h'
 have := hs.uniq hs'
 subst this
 rcases h with ⟨a, b, rfl⟩ | ⟨a, rfl⟩ <;> rcases h' with ⟨a', b', rfl⟩ | ⟨a', rfl⟩
 ·rfl
 ·exact absurd ⟨a, b⟩ a'
 ·exact absurd ⟨a', b'⟩ a
 ·rfl
theorem FG.ok {l g : List Int} (h : FG l (g, true)) : IsSG g := by
 obtain ⟨s, _, ⟨_, b, e⟩ | ⟨_, e⟩⟩ := h
 ·injection e with e1 _; subst e1; exact b
 ·injection e with _ e2; cases e2
theorem FG.no {l g : List Int} (h : FG l (g, false)) : g = [] := by
 obtain ⟨s, _, ⟨_, b, e⟩ | ⟨_, e⟩⟩ := h
 ·injection e with _ e2; cases e2
 ·injection e
theorem FG.cases {l : List Int} {r : List Int × Bool} (h : FG l r) : (r.2 = true ∧ IsSG r.1) ∨ r = ([], false) := by
 obtain ⟨g, b⟩ := r
 cases b with
 | true => exact .inl ⟨rfl, h.ok⟩
 | false => right; rw [h.no]
theorem sFG (l : List Int) (hl : l.length ≤ 1048576) : ∃ r, Ev (fun k => spec_FromGens.f k l) r ∧ FG l r := by
 by_cases hu : Use l
 ·obtain ⟨s, hs, hm⟩ := l3Minimal l hl (hu.1.mono (Int.le_refl _) (by omega))
  have hlen : (minOf [] s).length ≤ 1048576 := by have := (minOf_sublist s []).length_le; have := hs.2.2; omega
  by_cases hg : IsSG (minOf [] s)
  ·refine ⟨(minOf [] s, true), ?_, s, hs, .inl ⟨hu, hg, rfl⟩⟩
   unfold spec_FromGens.f
   refine Ev.bind ((l3Gens l (by omega)).yes hu) (Ev.pos rfl ?_)
   refine Ev.bind hm ?_
   exact Ev.bind ((sIsSG _ hlen).yes hg) (Ev.pos rfl (Ev.now _))
  ·refine ⟨([], false), ?_, s, hs, .inr ⟨fun h => hg h.2, rfl⟩⟩
   unfold spec_FromGens.f
   refine Ev.bind ((l3Gens l (by omega)).yes hu) (Ev.pos rfl ?_)
   refine Ev.bind hm ?_
   exact Ev.bind ((sIsSG _ hlen).no hg) (Ev.neg (by simp) (Ev.now _))
 ·obtain ⟨s, _, hs⟩ := sSort l hl
  refine ⟨([], false), ?_, s, hs, .inr ⟨fun h => hu h.1, rfl⟩⟩
  unfold spec_FromGens.f
  exact Ev.bind ((l3Gens l (by omega)).no hu) (Ev.neg (by simp) (Ev.now _))
theorem sums_append_congr {A B C : List Int} (h : ∀ n, Sums A n ↔ Sums B n) (n : Int) : Sums (A ++ C) n ↔ Sums (B ++ C) n := by
 constructor
 ·refine Sums.sub fun x hx => ?_
  rcases List.mem_append.1 hx with k | k
  ·exact ((h x).1 (.one k)).mono fun y hy => List.mem_append_left _ hy
  ·exact .one (List.mem_append_right _ k)
 ·refine Sums.sub fun x hx => ?_
  rcases List.mem_append.1 hx with k | k
  ·exact ((h x).2 (.one k)).mono fun y hy => List.mem_append_left _ hy
  ·exact .one (List.mem_append_right _ k)
theorem iFG_l0 (s : List Int) (hl : s.length ≤ 20) (hg : InR 1 60 s) (F : List Int) (r : List Int × Bool) (hr : (IsSG F ∧ r = (F, true)) ∨ (¬ IsSG F ∧ r = ([], false))) : ∀ (d j : Nat) (out : List Int), s.length - j = d → j ≤ s.length → out.length ≤ j → (∀ x ∈ out, x ∈ s) → (∀ n, Sums out n ↔ Sums (s.take j) n) → out ++ minOf (s.take j) (s.drop j) = F →
 Ev (fun k => impl_FromGens.l0 k s (s.length : Int) (j : Int) out) r := by
 intro d
 induction d with
 | zero =>
  intro j out hd hj ho hsub hS hF
  rw [List.drop_of_length_le (by omega)] at hF
  simp only [minOf, List.append_nil] at hF
  subst hF
  refine Ev.step (fun _ => impl_FromGens.l0.eq_2 ..) ?_
  refine Ev.neg (by omega) ?_
  rcases hr with ⟨h, rfl⟩ | ⟨h, rfl⟩
  ·exact Ev.bind ((iIsSG out (by omega)).yes h) (Ev.pos rfl (Ev.now _))
  ·exact Ev.bind ((iIsSG out (by omega)).no h) (Ev.neg (by simp) (Ev.now _))
 | succ d ih =>
  intro j out hd hj ho hsub hS hF
  have hlt : j < s.length := by omega
  have hx := hg _ (List.getElem_mem hlt)
  rw [drop_cons hlt, minOf] at hF
  have keep : ¬ Sums (s.take j) s[j] → Ev (fun k => impl_FromGens.l0 k s (s.length : Int) ((j + 1 : Nat) : Int) (out ++ [s[j]])) r := by
   intro h
   rw [if_neg h] at hF
   refine ih (j + 1) _ (by omega) (by omega) (by simp <;> omega) (fun x hx => ?_) (fun n => ?_) ?_
   ·rcases List.mem_append.1 hx with k | k
    ·exact hsub x k
    ·rw [List.mem_singleton] at k; subst k; exact List.getElem_mem hlt
   ·rw [take_snoc' hlt]; exact sums_append_congr hS n
   ·rw [take_snoc' hlt, List.append_assoc, List.singleton_append]; exact hF
  have skip : Sums (s.take j) s[j] → Ev (fun k => impl_FromGens.l0 k s (s.length : Int) ((j + 1 : Nat) : Int) out) r := by
   intro h
   rw [if_pos h] at hF
   refine ih (j + 1) _ (by omega) (by omega) (by omega) hsub (fun n => ?_) ?_
   ·rw [hS, take_snoc' hlt]
    constructor
    ·exact Sums.mono fun x hx => List.mem_append_left _ hx
    ·refine Sums.sub fun x hx => ?_
     rcases List.mem_append.1 hx with k | k
     ·exact .one k
     ·rw [List.mem_singleton] at k; subst k; exact h
   ·rw [take_snoc' hlt]; exact hF
  refine Ev.step (fun _ => impl_FromGens.l0.eq_2 ..) ?_
  refine Ev.pos (by omega) ?_
  refine Ev.pos (by omega) ?_
  refine Ev.pos (by omega) ?_
  rw [rd_get hlt, w64s (by omega)]
  by_cases h0 : out.length = 0
  ·refine Ev.pos (by omega) ?_
   refine Ev.pos (by omega) (keep fun h => ?_)
   have h1 := (hS _).2 h
   rw [List.length_eq_zero_iff.1 h0] at h1
   have := h1.nil
   omega
  ·refine Ev.neg (by omega) ?_
   have hu : Use out := ⟨hg.sub hsub, by omega, by omega⟩
   have hG := iGenerates out (by omega) s[j]
   by_cases c : Sums (s.take j) s[j]
   ·exact Ev.bind (hG.yes ⟨hu, by omega, (hS _).2 c⟩) (Ev.pos rfl (skip c))
   ·refine Ev.bind (hG.no fun h => c ((hS _).1 h.2.2)) (Ev.neg (by simp) ?_)
    exact Ev.pos (by omega) (keep c)
theorem iFG (l : List Int) (hl : l.length ≤ 1048576) : ∃ r, Ev (fun k => impl_FromGens.f k l) r ∧ FG l r := by
 obtain ⟨s, h1, hs⟩ := iSort l hl
 by_cases hu : Use l
 ·have hls : s.length ≤ 20 := by have := hs.2.2; have := hu.2.2; omega
  have hgs : InR 1 60 s := hu.1.sub fun x hx => (hs.2.1 x).1 hx
  have go : ∀ r : List Int × Bool, (IsSG (minOf [] s) ∧ r = (minOf [] s, true)) ∨ (¬ IsSG (minOf [] s) ∧ r = ([], false)) → Ev (fun k => impl_FromGens.f k l) r := by
   intro r hr
   unfold impl_FromGens.f
   refine Ev.bind ((usable l (by omega)).yes hu) (Ev.pos rfl ?_)
   refine Ev.call h1 ?_
   exact iFG_l0 s hls hgs (minOf [] s) r hr s.length 0 [] (by omega) (by omega) (by simp) (by simp) (by simp) (by simp)
  by_cases hg : IsSG (minOf [] s)
  ·exact ⟨_, go _ (.inl ⟨hg, rfl⟩), s, hs, .inl ⟨hu, hg, rfl⟩⟩
  ·exact ⟨_, go _ (.inr ⟨hg, rfl⟩), s, hs, .inr ⟨fun h => hg h.2, rfl⟩⟩
 ·refine ⟨([], false), ?_, s, hs, .inr ⟨fun h => hu h.1, rfl⟩⟩
  unfold impl_FromGens.f
  exact Ev.bind ((usable l (by omega)).no hu) (Ev.neg (by simp) (Ev.now _))
end Go.Proofs.Ytbjbolblahlhcaa.FFnExactGlueFrobenius
