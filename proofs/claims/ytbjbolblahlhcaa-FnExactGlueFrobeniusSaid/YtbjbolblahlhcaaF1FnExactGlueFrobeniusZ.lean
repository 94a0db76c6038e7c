/- What the printed functions of numbers and lists answer: bounds, greatest common divisors, ascending lists, equality. No condition but the lengths that the statements name. -/
import Derived.Test.YtbjbolblahlhcaaE1ZFnExactGlueFrobenius
import Derived.Test.YtbjbolblahlhcaaPFnExactGlueFrobeniusxZ
namespace Go.Proofs.Ytbjbolblahlhcaa.FFnExactGlueFrobenius
open Go Go.RowKit Go.Proofs.YtbjbolblahlhcaaW.PrintWords Go.Proofs.Ytbjbolblahlhcaa.M Go.Proofs.Ytbjbolblahlhcaa.PFnExactGlueFrobenius
theorem l1In (a lo hi : Int) : spec_l1In.f a lo hi = some (decide (lo ≤ a ∧ a ≤ hi)) := by
 unfold spec_l1In.f
 by_cases h : a ≥ lo
 ·rw [if_pos h]; congr 1; simp only [decide_eq_decide]; omega
 ·rw [if_neg h]; congr 1; symm; rw [decide_eq_false_iff_not]; omega
theorem within (a lo hi : Int) : impl_within.f a lo hi = some (decide (lo ≤ a ∧ a ≤ hi)) := by
 unfold impl_within.f
 by_cases h : a ≥ lo
 ·rw [if_pos h]; congr 1; simp only [decide_eq_decide]; omega
 ·rw [if_neg h]; congr 1; symm; rw [decide_eq_false_iff_not]; omega
theorem within_yes {a lo hi : Int} (h : lo ≤ a ∧ a ≤ hi) : impl_within.f a lo hi = some true := by rw [within, decide_eq_true h]
theorem within_no {a lo hi : Int} (h : ¬ (lo ≤ a ∧ a ≤ hi)) : impl_within.f a lo hi = some false := by rw [within, decide_eq_false h]
theorem InR_drop {lo hi : Int} {l : List Int} {j : Nat} (h : j < l.length) : InR lo hi (l.drop j) ↔ (lo ≤ l[j] ∧ l[j] ≤ hi) ∧ InR lo hi (l.drop (j + 1)) := by
 unfold InR
 rw [drop_cons h]
 simp only [List.mem_cons, forall_eq_or_imp]
theorem InR_nil (lo hi : Int) : InR lo hi [] := fun _ h => by simp at h
theorem l3Gens_l0 (l : List Int) (hl : l.length ≤ 4611686018427387904) : ∀ (d j : Nat), l.length - j = d → j ≤ l.length → EvB (fun k => spec_l3Gens.l0 k l (j : Int)) (InR 1 60 (l.drop j) ∧ 1 ≤ l.length ∧ l.length ≤ 20) := by
 intro d
 induction d with
 | zero =>
  intro j hd hj
  refine EvB.step (fun _ => spec_l3Gens.l0.eq_2 ..) ?_
  refine EvB.neg (by omega) ?_
  refine EvB.call (l1In _ _ _) ?_
  refine EvB.dec ?_
  have : j = l.length := by omega
  subst this
  simp [InR_nil]; omega
 | succ d ih =>
  intro j hd hj
  have hlt : j < l.length := by omega
  refine EvB.step (fun _ => spec_l3Gens.l0.eq_2 ..) ?_
  refine EvB.pos (by omega) ?_
  refine EvB.pos (by omega) ?_
  refine EvB.call (l1In _ _ _) ?_
  rw [rd_get hlt]
  by_cases h : 1 ≤ l[j] ∧ l[j] ≤ 60
  ·refine EvB.pos (by simpa using h) ?_
   rw [w64s (by omega)]
   refine (ih (j + 1) (by omega) (by omega)).iff ?_
   rw [InR_drop hlt]; simp [h]
  ·refine EvB.neg (by simpa using h) ?_
   refine EvB.of_false (Ev.now _) ?_
   rw [InR_drop hlt]
   exact fun h' => h h'.1.1
def Use (l : List Int) : Prop := InR 1 60 l ∧ 1 ≤ l.length ∧ l.length ≤ 20
theorem l3Gens (l : List Int) (hl : l.length ≤ 4611686018427387904) : EvB (fun k => spec_l3Gens.f k l) (Use l) := by
 have := l3Gens_l0 l hl l.length 0 (by omega) (by omega)
 exact this
theorem allWithin_l0 (lo hi : Int) (l : List Int) (hl : l.length ≤ 4611686018427387904) : ∀ (d j : Nat), l.length - j = d → j ≤ l.length → EvB (fun k => impl_allWithin.l0 k lo hi l (l.length : Int) (j : Int)) (InR lo hi (l.drop j)) := by
 intro d
 induction d with
 | zero =>
  intro j hd hj
  refine EvB.step (fun _ => impl_allWithin.l0.eq_2 ..) ?_
  refine EvB.neg (by omega) ?_
  refine EvB.of_true (Ev.now _) ?_
  have : j = l.length := by omega
  subst this
  simp [InR_nil]
 | succ d ih =>
  intro j hd hj
  have hlt : j < l.length := by omega
  refine EvB.step (fun _ => impl_allWithin.l0.eq_2 ..) ?_
  refine EvB.pos (by omega) ?_
  refine EvB.pos (by omega) ?_
  refine EvB.pos (by omega) ?_
  refine EvB.call (within _ _ _) ?_
  rw [rd_get hlt]
  by_cases h : lo ≤ l[j] ∧ l[j] ≤ hi
  ·refine EvB.pos (by simpa using h) ?_
   rw [w64s (by omega)]
   refine (ih (j + 1) (by omega) (by omega)).iff ?_
   rw [InR_drop hlt]; simp [h]
  ·refine EvB.neg (by simpa using h) ?_
   refine EvB.of_false (Ev.now _) ?_
   rw [InR_drop hlt]
   exact fun h' => h h'.1
theorem allWithin (lo hi : Int) (l : List Int) (hl : l.length ≤ 4611686018427387904) : EvB (fun k => impl_allWithin.f k l lo hi) (InR lo hi l) :=
 allWithin_l0 lo hi l hl l.length 0 (by omega) (by omega)
theorem usable (l : List Int) (hl : l.length ≤ 4611686018427387904) : EvB (fun k => impl_usable.f k l) (Use l) := by
 show EvB (fun k => (impl_within.f (l.length : Int) 1 20).bind fun t => (if t = true then ((impl_allWithin.f k l 1 60).bind fun t' => some t') else (some false))) _
 refine EvB.call (within _ _ _) ?_
 by_cases h : (1 : Int) ≤ l.length ∧ (l.length : Int) ≤ 20
 ·refine EvB.pos (by simpa using h) ?_
  obtain ⟨b, hb, hP⟩ := allWithin 1 60 l hl
  refine EvB.bind hb ⟨b, Ev.now _, hP.trans ?_⟩
  unfold Use
  constructor
  ·intro k; exact ⟨k, by omega, by omega⟩
  ·intro k; exact k.1
 ·refine EvB.neg (by simpa using h) ?_
  refine EvB.of_false (Ev.now _) ?_
  unfold Use; omega
theorem l1Max (a b : Int) : spec_l1Max.f a b = some (max a b) := by
 unfold spec_l1Max.f
 split
 ·congr 1; omega
 ·congr 1; omega
theorem l2Small (a : Int) : spec_l2Small.f a = some (decide (-1000000 ≤ a ∧ a ≤ 1000000)) := by
 unfold spec_l2Small.f
 rw [l1In]; rfl
theorem tmod_nat (a b : Nat) : Int.tmod (a : Int) (b : Int) = ((a % b : Nat) : Int) := by rw [tmod_pos (by omega)]; rfl
theorem sGcd_l0 : ∀ (b a : Nat), Ev (fun k => spec_GcdOf.l0 k (a : Int) (b : Int)) ((Nat.gcd a b : Nat) : Int) := by
 intro b
 induction b using Nat.strongRecOn with
 | _ b ih =>
  intro a
  refine Ev.step (fun _ => spec_GcdOf.l0.eq_2 ..) ?_
  by_cases h : b = 0
  ·subst h
   refine Ev.neg (by omega) ?_
   rw [Nat.gcd_zero_right]; exact Ev.now _
  ·refine Ev.pos (by omega) ?_
   refine Ev.neg (by omega) ?_
   rw [tmod_nat, Nat.gcd_comm a b, Nat.gcd_rec b a, Nat.gcd_comm]
   exact ih (a % b) (Nat.mod_lt _ (by omega)) b
theorem sGcd (a b : Nat) (ha : a ≤ 1000000) (hb : b ≤ 1000000) : Ev (fun k => spec_GcdOf.f k (a : Int) (b : Int)) ((Nat.gcd a b : Nat) : Int) := by
 show Ev (fun k => (spec_l2Small.f a).bind fun t => (if t = true then ((spec_l2Small.f b).bind fun t' => (spec_GcdOf.j0 k a b (!t'))) else (spec_GcdOf.j0 k a b true))) _
 refine Ev.call (l2Small _) ?_
 refine Ev.pos (by simp; omega) ?_
 refine Ev.call (l2Small _) ?_
 rw [decide_eq_true (show -1000000 ≤ (b : Int) ∧ (b : Int) ≤ 1000000 by omega)]
 refine Ev.step (fun _ => spec_GcdOf.j0.eq_2 ..) ?_
 refine Ev.neg (by simp) ?_
 refine Ev.call (l1Max _ _) ?_
 refine Ev.call (l1Max _ _) ?_
 rw [w64 (by omega) (by omega), w64 (by omega) (by omega), show max (a : Int) (-a) = (a : Int) by omega, show max (b : Int) (-b) = (b : Int) by omega]
 exact sGcd_l0 b a
theorem iGcd_l0 : ∀ (a b : Nat), Ev (fun k => impl_GcdOf.l0 k (a : Int) (b : Int)) ((Nat.gcd a b : Nat) : Int) := by
 intro a
 induction a using Nat.strongRecOn with
 | _ a ih =>
  intro b
  refine Ev.step (fun _ => impl_GcdOf.l0.eq_2 ..) ?_
  by_cases h : a = 0
  ·subst h
   refine Ev.pos (by omega) ?_
   rw [Nat.gcd_zero_left]; exact Ev.now _
  ·refine Ev.neg (by omega) ?_
   rw [tmod_nat, Nat.gcd_rec a b]
   exact ih (b % a) (Nat.mod_lt _ (by omega)) a
theorem iGcd (a b : Nat) (ha : a ≤ 1000000) (hb : b ≤ 1000000) : Ev (fun k => impl_GcdOf.f k (a : Int) (b : Int)) ((Nat.gcd a b : Nat) : Int) := by
 show Ev (fun k => (impl_allWithin.f k (([(a : Int), (b : Int)] : List Int)) (-1000000) 1000000).bind fun t => (if t = true then (impl_GcdOf.l0 k (mx a (wrap64 (-(a : Int)))) (mx b (wrap64 (-(b : Int))))) else (some 0))) _
 refine Ev.bind ((allWithin (-1000000) 1000000 [(a : Int), (b : Int)] (by simp)).yes ?_) ?_
 ·intro x hx
  simp at hx
  omega
 ·refine Ev.pos rfl ?_
  rw [w64 (by omega) (by omega), w64 (by omega) (by omega), show mx (a : Int) (-(a : Int)) = (a : Int) by unfold mx; omega, show mx (b : Int) (-(b : Int)) = (b : Int) by unfold mx; omega]
  exact iGcd_l0 a b
theorem gcdL_take {l : List Int} {j : Nat} (h : j < l.length) : gcdL (l.take (j + 1)) = Nat.gcd (gcdL (l.take j)) (l[j]).natAbs := by rw [take_snoc' h, gcdL_snoc]
theorem sGcdList_l0 (l : List Int) (hl : l.length ≤ 4611686018427387904) (hr : InR 1 1000000 l) : ∀ (d j : Nat), l.length - j = d → j ≤ l.length → gcdL (l.take j) ≤ 1000000 → Ev (fun k => spec_GcdOfList.l0 k l ((gcdL (l.take j) : Nat) : Int) (j : Int)) ((gcdL l : Nat) : Int) := by
 intro d
 induction d with
 | zero =>
  intro j hd hj hg
  refine Ev.step (fun _ => spec_GcdOfList.l0.eq_2 ..) ?_
  refine Ev.neg (by omega) ?_
  rw [List.take_of_length_le (by omega)]
  exact Ev.now _
 | succ d ih =>
  intro j hd hj hg
  have hlt : j < l.length := by omega
  have hx := hr _ (List.getElem_mem hlt)
  refine Ev.step (fun _ => spec_GcdOfList.l0.eq_2 ..) ?_
  refine Ev.pos (by omega) ?_
  refine Ev.pos (by omega) ?_
  rw [rd_get hlt]
  have e : l[j] = ((l[j].natAbs : Nat) : Int) := by omega
  refine Ev.bind (a := ((gcdL (l.take (j + 1)) : Nat) : Int)) ?_ ?_
  ·rw [gcdL_take hlt]
   have := sGcd (gcdL (l.take j)) l[j].natAbs hg (by omega)
   rwa [← e] at this
  ·rw [w64s (by omega)]
   refine ih (j + 1) (by omega) (by omega) ?_
   rw [gcdL_take hlt]
   have := Nat.gcd_le_right (gcdL (l.take j)) (show 0 < l[j].natAbs by omega)
   omega
theorem sGcdList (l : List Int) (hl : l.length ≤ 4611686018427387904) (hr : InR 1 1000000 l) : Ev (fun k => spec_GcdOfList.f k l) ((gcdL l : Nat) : Int) :=
 sGcdList_l0 l hl hr l.length 0 (by omega) (by omega) (by simp [gcdL])
theorem iGcdList_l0 (l : List Int) (hl : l.length ≤ 4611686018427387904) (hr : InR 1 1000000 l) : ∀ (d j : Nat), l.length - j = d → j ≤ l.length → gcdL (l.take j) ≤ 1000000 → Ev (fun k => impl_GcdOfList.l0 k ((gcdL (l.take j) : Nat) : Int) l (l.length : Int) (j : Int)) ((gcdL l : Nat) : Int) := by
 intro d
 induction d with
 | zero =>
  intro j hd hj hg
  refine Ev.step (fun _ => impl_GcdOfList.l0.eq_2 ..) ?_
  refine Ev.neg (by omega) ?_
  rw [List.take_of_length_le (by omega)]
  exact Ev.now _
 | succ d ih =>
  intro j hd hj hg
  have hlt : j < l.length := by omega
  have hx := hr _ (List.getElem_mem hlt)
  refine Ev.step (fun _ => impl_GcdOfList.l0.eq_2 ..) ?_
  refine Ev.pos (by omega) ?_
  refine Ev.pos (by omega) ?_
  refine Ev.pos (by omega) ?_
  rw [rd_get hlt]
  have e : l[j] = ((l[j].natAbs : Nat) : Int) := by omega
  refine Ev.bind (a := ((gcdL (l.take (j + 1)) : Nat) : Int)) ?_ ?_
  ·rw [gcdL_take hlt]
   have := iGcd (gcdL (l.take j)) l[j].natAbs hg (by omega)
   rwa [← e] at this
  ·rw [w64s (by omega)]
   refine ih (j + 1) (by omega) (by omega) ?_
   rw [gcdL_take hlt]
   have := Nat.gcd_le_right (gcdL (l.take j)) (show 0 < l[j].natAbs by omega)
   omega
theorem iGcdList (l : List Int) (hl : l.length ≤ 4611686018427387904) (hr : InR 1 1000000 l) : Ev (fun k => impl_GcdOfList.f k l) ((gcdL l : Nat) : Int) :=
 iGcdList_l0 l hl hr l.length 0 (by omega) (by omega) (by simp [gcdL])
theorem sAsc_l0 (l : List Int) (hl : l.length ≤ 4611686018427387904) : ∀ (d j : Nat), l.length - j = d → 1 ≤ j → EvB (fun k => spec_IsAscending.l0 k l (j : Int)) (∀ i : Nat, j ≤ i + 1 → i + 1 < l.length → l.getD i 0 < l.getD (i + 1) 0) := by
 intro d
 induction d with
 | zero =>
  intro j hd hj
  refine EvB.step (fun _ => spec_IsAscending.l0.eq_2 ..) ?_
  refine EvB.neg (by omega) ?_
  exact EvB.of_true (Ev.now _) fun i h1 h2 => by omega
 | succ d ih =>
  intro j hd hj
  have hlt : j < l.length := by omega
  refine EvB.step (fun _ => spec_IsAscending.l0.eq_2 ..) ?_
  rw [w64p hj (by omega)]
  refine EvB.pos (by omega) ?_
  refine EvB.pos (by omega) ?_
  refine EvB.pos (by omega) ?_
  refine EvB.pos (by omega) ?_
  rw [rd_nat, rd_nat]
  by_cases h : l.getD (j - 1) 0 ≥ l.getD j 0
  ·refine EvB.pos h ?_
   refine EvB.of_false (Ev.now _) fun h' => ?_
   have := h' (j - 1) (by omega) (by omega)
   rw [show j - 1 + 1 = j by omega] at this
   omega
  ·refine EvB.neg h ?_
   rw [w64s (by omega)]
   refine (ih (j + 1) (by omega) (by omega)).iff ⟨fun h' i h1 h2 => ?_, fun h' i h1 h2 => h' i (by omega) h2⟩
   rcases Nat.lt_or_ge j (i + 1) with h3 | h3
   ·exact h' i (by omega) h2
   ·have : i = j - 1 := by omega
    subst this
    rw [show j - 1 + 1 = j by omega]
    omega
theorem iAsc_l0 (l : List Int) (hl : l.length ≤ 4611686018427387904) : ∀ (d j : Nat), l.length - j = d → 1 ≤ j → EvB (fun k => impl_IsAscending.l0 k l (j : Int)) (∀ i : Nat, j ≤ i + 1 → i + 1 < l.length → l.getD i 0 < l.getD (i + 1) 0) := by
 intro d
 induction d with
 | zero =>
  intro j hd hj
  refine EvB.step (fun _ => impl_IsAscending.l0.eq_2 ..) ?_
  refine EvB.neg (by omega) ?_
  exact EvB.of_true (Ev.now _) fun i h1 h2 => by omega
 | succ d ih =>
  intro j hd hj
  have hlt : j < l.length := by omega
  refine EvB.step (fun _ => impl_IsAscending.l0.eq_2 ..) ?_
  rw [w64p hj (by omega)]
  refine EvB.pos (by omega) ?_
  refine EvB.pos (by omega) ?_
  refine EvB.pos (by omega) ?_
  refine EvB.pos (by omega) ?_
  rw [rd_nat, rd_nat]
  by_cases h : l.getD j 0 ≤ l.getD (j - 1) 0
  ·refine EvB.pos h ?_
   refine EvB.of_false (Ev.now _) fun h' => ?_
   have := h' (j - 1) (by omega) (by omega)
   rw [show j - 1 + 1 = j by omega] at this
   omega
  ·refine EvB.neg h ?_
   rw [w64s (by omega)]
   refine (ih (j + 1) (by omega) (by omega)).iff ⟨fun h' i h1 h2 => ?_, fun h' i h1 h2 => h' i (by omega) h2⟩
   rcases Nat.lt_or_ge j (i + 1) with h3 | h3
   ·exact h' i (by omega) h2
   ·have : i = j - 1 := by omega
    subst this
    rw [show j - 1 + 1 = j by omega]
    omega
theorem asc_iff (l : List Int) : (∀ i : Nat, 1 ≤ i + 1 → i + 1 < l.length → l.getD i 0 < l.getD (i + 1) 0) ↔ l.Pairwise (· < ·) :=
 ⟨fun h => pairwise_of_adj fun i hi => h i (by omega) hi, fun h i _ hi => adj_of_pairwise h hi⟩
theorem sAsc (l : List Int) (hl : l.length ≤ 4611686018427387904) : EvB (fun k => spec_IsAscending.f k l) (l.Pairwise (· < ·)) :=
 (sAsc_l0 l hl (l.length - 1) 1 rfl (by omega)).iff (asc_iff l)
theorem iAsc (l : List Int) (hl : l.length ≤ 4611686018427387904) : EvB (fun k => impl_IsAscending.f k l) (l.Pairwise (· < ·)) :=
 (iAsc_l0 l hl (l.length - 1) 1 rfl (by omega)).iff (asc_iff l)
theorem l2Same_l0 (a b : List Int) (hl : a.length ≤ 4611686018427387904) (hab : a.length = b.length) : ∀ (d j : Nat), a.length - j = d → j ≤ a.length → EvB (fun k => spec_l2Same.l0 k a b (j : Int)) (a.drop j = b.drop j) := by
 intro d
 induction d with
 | zero =>
  intro j hd hj
  refine EvB.step (fun _ => spec_l2Same.l0.eq_2 ..) ?_
  refine EvB.neg (by omega) ?_
  refine EvB.of_true (Ev.now _) ?_
  rw [List.drop_of_length_le (by omega), List.drop_of_length_le (by omega)]
 | succ d ih =>
  intro j hd hj
  have hlt : j < a.length := by omega
  have hlt' : j < b.length := by omega
  refine EvB.step (fun _ => spec_l2Same.l0.eq_2 ..) ?_
  refine EvB.pos (by omega) ?_
  refine EvB.pos (by omega) ?_
  refine EvB.pos (by omega) ?_
  rw [rd_get hlt, rd_get hlt', drop_cons hlt, drop_cons hlt']
  by_cases h : a[j] = b[j]
  ·refine EvB.pos h ?_
   rw [w64s (by omega)]
   refine (ih (j + 1) (by omega) (by omega)).iff ?_
   rw [List.cons.injEq]
   exact ⟨fun k => ⟨h, k⟩, fun k => k.2⟩
  ·refine EvB.neg h ?_
   refine EvB.of_false (Ev.now _) ?_
   rw [List.cons.injEq]
   exact fun k => h k.1
theorem l2Same (a b : List Int) (hl : a.length ≤ 4611686018427387904) : EvB (fun k => spec_l2Same.f k a b) (a = b) := by
 show EvB (fun k => if (a.length : Int) = (b.length : Int) then (spec_l2Same.l0 k a b 0) else (some false)) _
 by_cases h : (a.length : Int) = (b.length : Int)
 ·refine EvB.pos h ?_
  exact l2Same_l0 a b hl (by omega) a.length 0 (by omega) (by omega)
 ·refine EvB.neg h ?_
  exact EvB.of_false (Ev.now _) (by rintro rfl; exact h rfl)
end Go.Proofs.Ytbjbolblahlhcaa.FFnExactGlueFrobenius
