/- What the printed functions on generators answer: sorting, sums, least generators, IsSemigroup and FromGens, of the reference and of the program: the same. Conditions: the lengths that the statements name. -/
import Derived.Test.YtbjbolblahlhcaaF2FnExactGlueFrobeniusZ
namespace Go.Proofs.Ytbjbolblahlhcaa.FFnExactGlueFrobenius
open Go Go.RowKit Go.Proofs.YtbjbolblahlhcaaW.PrintWords Go.Proofs.Ytbjbolblahlhcaa.M Go.Proofs.Ytbjbolblahlhcaa.PFnExactGlueFrobenius
def Sorted (l s : List Int) : Prop := s.Pairwise (· < ·) ∧ (∀ x, x ∈ s ↔ x ∈ l) ∧ s.length ≤ l.length
theorem Sorted.uniq {l s t : List Int} (h : Sorted l s) (k : Sorted l t) : s = t := asc_ext h.1 k.1 fun x => (h.2.1 x).trans (k.2.1 x).symm
theorem insert_asc {out : List Int} (h : out.Pairwise (· < ·)) (x : Int) (m : Nat) (hm : m ≤ out.length) (h1 : ∀ j, (hj : j < out.length) → m ≤ j → x < out[j]) (h2 : ∀ j, (hj : j < out.length) → j < m → out[j] < x) : (out.take m ++ [x] ++ out.drop m).Pairwise (· < ·) := by
 rw [List.append_assoc, List.pairwise_append]
 refine ⟨h.sublist (List.take_sublist _ _), ?_, ?_⟩
 ·rw [List.singleton_append, List.pairwise_cons]
  refine ⟨fun y hy => ?_, h.sublist (List.drop_sublist _ _)⟩
  obtain ⟨i, hi, rfl⟩ := List.getElem_of_mem hy
  rw [List.getElem_drop]
  rw [List.length_drop] at hi
  exact h1 (m + i) (by omega) (by omega)
 ·intro a ha b hb
  obtain ⟨i, hi, rfl⟩ := List.getElem_of_mem ha
  rw [List.length_take] at hi
  rw [List.getElem_take]
  have hax := h2 i (by omega) (by omega)
  rw [List.singleton_append] at hb
  rcases List.mem_cons.1 hb with rfl | hb
  ·exact hax
  ·obtain ⟨j, hj, rfl⟩ := List.getElem_of_mem hb
   rw [List.length_drop] at hj
   rw [List.getElem_drop]
   exact Int.lt_trans hax (h1 (m + j) (by omega) (by omega))
theorem sSort_l1 (l : List Int) (hl : l.length ≤ 1048576) (out : List Int) (ho : out.Pairwise (· < ·)) (i : Nat) (hi : i < l.length) (hol : out.length ≤ i) : ∀ m : Nat, m ≤ out.length → (∀ j, (hj : j < out.length) → m ≤ j → l[i] < out[j]) →
 ∃ out' : List Int, out'.Pairwise (· < ·) ∧ (∀ y, y ∈ out' ↔ y ∈ out ∨ y = l[i]) ∧ out'.length ≤ i + 1 ∧ ∀ r, Ev (fun k => spec_SortList.l0 k l out' ((i + 1 : Nat) : Int)) r → Ev (fun k => spec_SortList.l1 k l out (i : Int) (m : Int)) r := by
 have mem : ∀ m y, y ∈ out.take m ++ [l[i]] ++ out.drop m ↔ y ∈ out ∨ y = l[i] := by
  intro m y
  have e : y ∈ out ↔ y ∈ out.take m ∨ y ∈ out.drop m := by rw [← List.mem_append, List.take_append_drop]
  simp only [List.mem_append, List.mem_singleton, e]
  constructor
  ·rintro ((h | h) | h)
   ·exact .inl (.inl h)
   ·exact .inr h
   ·exact .inl (.inr h)
  ·rintro ((h | h) | h)
   ·exact .inl (.inl h)
   ·exact .inr h
   ·exact .inl (.inr h)
 have len : ∀ m, m ≤ out.length → (out.take m ++ [l[i]] ++ out.drop m).length = out.length + 1 := by intro m hm; simp; omega
 intro m
 induction m with
 | zero =>
  intro hm h1
  refine ⟨out.take 0 ++ [l[i]] ++ out.drop 0, insert_asc ho _ 0 hm h1 (fun j _ hj => by omega), mem 0, by rw [len 0 hm]; omega, fun r hr => ?_⟩
  refine Ev.step (fun _ => spec_SortList.l1.eq_2 ..) ?_
  refine Ev.neg (by omega) ?_
  refine Ev.call rfl ?_
  refine Ev.pos (by omega) ?_
  refine Ev.pos (by omega) ?_
  refine Ev.call rfl ?_
  refine Ev.pos (by simp <;> omega) ?_
  refine Ev.call rfl ?_
  refine Ev.call rfl ?_
  refine Ev.pos (by omega) ?_
  refine Ev.pos (by omega) ?_
  refine Ev.pos (by simp <;> omega) ?_
  refine Ev.call rfl ?_
  refine Ev.pos (by simp <;> omega) ?_
  rw [w64s (by omega), rd_get hi]
  exact hr
 | succ m ih =>
  intro hm h1
  have hlt : m < out.length := by omega
  have e : ((m + 1 : Nat) : Int) > 0 := by omega
  by_cases c1 : out[m] > l[i]
  ·obtain ⟨out', a, b, c, d⟩ := ih (by omega) fun j hj hmj => by
    rcases Nat.lt_or_ge m j with h | h
    ·exact h1 j hj (by omega)
    ·have : j = m := by omega
     subst this; exact c1
   refine ⟨out', a, b, c, fun r hr => ?_⟩
   refine Ev.step (fun _ => spec_SortList.l1.eq_2 ..) ?_
   refine Ev.pos e ?_
   rw [w64p (by omega) (by omega), Nat.add_sub_cancel]
   refine Ev.pos (by omega) ?_
   refine Ev.pos (by omega) ?_
   refine Ev.pos (by omega) ?_
   refine Ev.pos (by omega) ?_
   rw [rd_get hlt, rd_get hi]
   exact Ev.pos c1 (d r hr)
  ·by_cases c2 : out[m] = l[i]
   ·refine ⟨out, ho, fun y => ⟨.inl, fun h => h.elim id fun h => ?_⟩, by omega, fun r hr => ?_⟩
    ·subst h; rw [← c2]; exact List.getElem_mem hlt
    ·refine Ev.step (fun _ => spec_SortList.l1.eq_2 ..) ?_
     refine Ev.pos e ?_
     rw [w64p (by omega) (by omega), Nat.add_sub_cancel]
     refine Ev.pos (by omega) ?_
     refine Ev.pos (by omega) ?_
     refine Ev.pos (by omega) ?_
     refine Ev.pos (by omega) ?_
     rw [rd_get hlt, rd_get hi]
     refine Ev.neg c1 (Ev.pos c2 ?_)
     rw [w64s (by omega)]
     exact hr
   ·refine ⟨out.take (m + 1) ++ [l[i]] ++ out.drop (m + 1), insert_asc ho _ (m + 1) hm h1 (fun j hj hjm => ?_), mem (m + 1), by rw [len _ hm]; omega, fun r hr => ?_⟩
    ·rcases Nat.lt_or_ge j m with h | h
     ·have := List.pairwise_iff_getElem.1 ho j m hj hlt h
      omega
     ·have : j = m := by omega
      subst this; omega
    ·refine Ev.step (fun _ => spec_SortList.l1.eq_2 ..) ?_
     refine Ev.pos e ?_
     rw [w64p (by omega) (by omega), Nat.add_sub_cancel]
     refine Ev.pos (by omega) ?_
     refine Ev.pos (by omega) ?_
     refine Ev.pos (by omega) ?_
     refine Ev.pos (by omega) ?_
     rw [rd_get hlt, rd_get hi]
     refine Ev.neg c1 (Ev.neg c2 ?_)
     refine Ev.call rfl ?_
     refine Ev.pos (by omega) ?_
     refine Ev.pos (by omega) ?_
     refine Ev.call rfl ?_
     refine Ev.pos (by simp <;> omega) ?_
     refine Ev.call rfl ?_
     refine Ev.call rfl ?_
     refine Ev.pos (by simp <;> omega) ?_
     refine Ev.call rfl ?_
     refine Ev.pos (by simp <;> omega) ?_
     rw [w64s (by omega)]
     exact hr
theorem sSort_l0 (l : List Int) (hl : l.length ≤ 1048576) : ∀ (d i : Nat) (out : List Int), l.length - i = d → i ≤ l.length → out.Pairwise (· < ·) → (∀ y, y ∈ out ↔ y ∈ l.take i) → out.length ≤ i → ∃ s, Ev (fun k => spec_SortList.l0 k l out (i : Int)) s ∧ Sorted l s := by
 intro d
 induction d with
 | zero =>
  intro i out hd hi ho hm hol
  rw [List.take_of_length_le (by omega)] at hm
  refine ⟨out, ?_, ho, hm, by omega⟩
  refine Ev.step (fun _ => spec_SortList.l0.eq_2 ..) ?_
  exact Ev.neg (by omega) (Ev.now _)
 | succ d ih =>
  intro i out hd hi ho hm hol
  have hlt : i < l.length := by omega
  obtain ⟨out', a, b, c, e⟩ := sSort_l1 l hl out ho i hlt hol out.length (Nat.le_refl _) (fun j hj h => by omega)
  obtain ⟨s, h1, h2⟩ := ih (i + 1) out' (by omega) (by omega) a (fun y => by rw [b, hm, take_snoc' hlt, List.mem_append, List.mem_singleton]) c
  refine ⟨s, ?_, h2⟩
  refine Ev.step (fun _ => spec_SortList.l0.eq_2 ..) ?_
  exact Ev.pos (by omega) (e s h1)
theorem sSort (l : List Int) (hl : l.length ≤ 1048576) : ∃ s, Ev (fun k => spec_SortList.f k l) s ∧ Sorted l s :=
 sSort_l0 l hl l.length 0 [] (by omega) (by omega) List.Pairwise.nil (by simp) (by simp)
theorem compact_asc {zs : List Int} (h : zs.Pairwise (· ≤ ·)) : Sorted zs (Lib.compact zs) := by
 have hle : ∀ i j, (hi : i < zs.length) → (hj : j < zs.length) → i ≤ j → zs[i] ≤ zs[j] := by
  intro i j hi hj hij
  rcases Nat.lt_or_ge i j with h' | h'
  ·exact List.pairwise_iff_getElem.1 h i j hi hj h'
  ·have : i = j := by omega
   subst this; exact Int.le_refl _
 have hg : ∀ i, (hi : i < zs.length) → zs.toArray[i]! = zs[i] := by intro i hi; rw [getElem!_pos _ i (by simpa using hi)]; simp
 refine ⟨?_, fun x => ?_, ?_⟩
 ·unfold Lib.compact Lib.compactUpTo
  rw [List.pairwise_map, List.pairwise_filter]
  refine List.pairwise_iff_getElem.2 ?_
  intro i j hi hj hij ki kj
  simp only [List.getElem_range] at ki kj ⊢
  simp only [List.length_range] at hi hj
  rw [hg i hi, hg j hj]
  unfold Lib.keeps at kj
  have := of_decide_eq_true kj
  rcases this with e | e
  ·omega
  ·rw [hg j hj, hg (j - 1) (by omega)] at e
   have h1 := hle i (j - 1) hi (by omega) (by omega)
   have h2 := hle (j - 1) j (by omega) hj (by omega)
   omega
 ·unfold Lib.compact Lib.compactUpTo
  simp only [List.mem_map, List.mem_filter, List.mem_range]
  constructor
  ·rintro ⟨i, ⟨hi, _⟩, rfl⟩
   rw [hg i hi]; exact List.getElem_mem hi
  ·intro hx
   obtain ⟨i, hi, rfl⟩ := List.getElem_of_mem hx
   have : ∀ n, ∀ i, (hi : i < zs.length) → i = n → ∃ a, (a < zs.length ∧ Lib.keeps zs.toArray a = true) ∧ zs.toArray[a]! = zs[i] := by
    intro n
    induction n with
    | zero => intro i hi e; subst e; exact ⟨0, ⟨hi, by simp [Lib.keeps]⟩, hg 0 hi⟩
    | succ n ih =>
     intro i hi e
     by_cases c : zs[i] = zs[i - 1]
     ·obtain ⟨a, ha, hb⟩ := ih (i - 1) (by omega) (by omega)
      exact ⟨a, ha, by rw [hb, c]⟩
     ·refine ⟨i, ⟨hi, ?_⟩, hg i hi⟩
      unfold Lib.keeps
      refine decide_eq_true (.inr ?_)
      rw [hg i hi, hg (i - 1) (by omega)]
      exact c
   exact this i i hi rfl
 ·unfold Lib.compact Lib.compactUpTo
  rw [List.length_map]
  exact Nat.le_trans (List.length_filter_le _ _) (by simp)
theorem iSort (l : List Int) (hl : l.length ≤ 1048576) : ∃ s, impl_SortList.f l = some s ∧ Sorted l s := by
 have hs : (l.mergeSort fun x y => decide (x ≤ y)).Pairwise (· ≤ ·) := by
  have := List.pairwise_mergeSort (le := fun x y : Int => decide (x ≤ y)) (fun a b c h1 h2 => by simp at *; omega) (fun a b => by simp; omega) l
  exact this.imp fun h => by simpa using h
 have hc := compact_asc hs
 refine ⟨Lib.compact (l.mergeSort fun x y => decide (x ≤ y)), ?_, hc.1, fun x => (hc.2.1 x).trans List.mem_mergeSort, ?_⟩
 ·unfold impl_SortList.f slices_Sort_int_int.f slices_Compact_int_int.f
  simp only [Option.bind_some, List.nil_append, List.length_nil]
  rw [if_pos (by omega), if_pos (by omega)]
  rfl
 ·have := hc.2.2
  rw [List.length_mergeSort] at this
  exact this
theorem least_sums {g : List Int} {a : Int} {R : List Int} (hR : Least g a R) (ha : 1 ≤ a) (hag : a ∈ g) {n : Int} : (0 ≤ rd R (n % a) ∧ rd R (n % a) ≤ n) ↔ Sums g n := by
 have h0 := Int.emod_nonneg n (show a ≠ 0 by omega)
 have h1 := Int.emod_lt_of_pos n (show 0 < a by omega)
 rcases hR.cls (n % a) h0 h1 with ⟨e, h⟩ | ⟨e1, e2, e3, e4⟩
 ·constructor
  ·intro k; omega
  ·intro k; exact absurd rfl (h n k)
 ·constructor
  ·rintro ⟨_, k⟩
   have hd : a ∣ n - rd R (n % a) := Int.dvd_of_emod_eq_zero (by rw [Int.sub_emod, e3, Int.sub_self, Int.zero_emod])
   obtain ⟨q, hq⟩ := hd
   have hq0 : 0 ≤ q := by
    rcases Int.lt_or_le q 0 with h | h
    ·have := Int.mul_le_mul_of_nonneg_left (show q ≤ -1 by omega) (show 0 ≤ a by omega)
     omega
    ·exact h
   have := e2.trans ((Sums.one hag).mul q.toNat)
   rw [Int.toNat_of_nonneg hq0, Int.mul_comm, ← hq] at this
   rwa [show rd R (n % a) + (n - rd R (n % a)) = n by omega] at this
  ·intro k; exact ⟨e1, e4 n k rfl⟩
theorem Use.len {l : List Int} (h : Use l) : l.length ≤ 20 := h.2.2
theorem iGenerates (l : List Int) (hl : l.length ≤ 1000000) (n : Int) : EvB (fun k => impl_Generates.f k l n) (Use l ∧ (0 ≤ n ∧ n ≤ 1000000) ∧ Sums l n) := by
 by_cases hu : Use l
 ·by_cases hn : 0 ≤ n ∧ n ≤ 1000000
  ·have hpos : 0 < l.length := by have := hu.2.1; omega
   have ha := hu.1 _ (List.getElem_mem hpos)
   have e0 : rd l 0 = l[0] := rd_get (i := 0) hpos
   obtain ⟨R, h1, h2⟩ := leasts l hl hu.1 (rd l 0) (by omega) (by omega)
   have hag : rd l 0 ∈ l := by rw [e0]; exact List.getElem_mem hpos
   have key := least_sums h2 (by omega) hag (n := n)
   have hm0 := Int.emod_nonneg n (show rd l 0 ≠ 0 by omega)
   have hm1 := Int.emod_lt_of_pos n (show 0 < rd l 0 by omega)
   unfold impl_Generates.f
   refine EvB.bind ((usable l (by omega)).yes hu) ?_
   refine EvB.pos rfl ?_
   refine EvB.call (within_yes hn) ?_
   refine EvB.pos rfl ?_
   refine EvB.pos (by omega) ?_
   refine EvB.bind h1 ?_
   rw [tmod_pos hn.1]
   refine EvB.neg (by omega) ?_
   refine EvB.pos hm0 ?_
   refine EvB.pos (by rw [h2.len]; exact hm1) ?_
   by_cases c : rd R (n % rd l 0) ≥ 0
   ·refine EvB.pos c (EvB.dec ?_)
    constructor
    ·intro k; exact ⟨hu, hn, key.1 ⟨c, k⟩⟩
    ·intro k; exact (key.2 k.2.2).2
   ·refine EvB.neg c (EvB.of_false (Ev.now _) ?_)
    intro k; exact c (key.2 k.2.2).1
  ·unfold impl_Generates.f
   refine EvB.bind ((usable l (by omega)).yes hu) ?_
   refine EvB.pos rfl ?_
   refine EvB.call (within_no hn) ?_
   refine EvB.neg (by simp) (EvB.of_false (Ev.now _) fun k => hn k.2.1)
 ·unfold impl_Generates.f
  refine EvB.bind ((usable l (by omega)).no hu) ?_
  exact EvB.neg (by simp) (EvB.of_false (Ev.now _) fun k => hu k.1)
theorem minOf_mem : ∀ (t seen : List Int) {x : Int}, x ∈ minOf seen t → x ∈ t
 | [], _, _, h => by simp [minOf] at h
 | y :: t, seen, x, h => by
  unfold minOf at h
  split at h
  ·exact List.mem_cons_of_mem _ (minOf_mem t _ h)
  ·rcases List.mem_cons.1 h with rfl | h
   ·exact List.mem_cons_self
   ·exact List.mem_cons_of_mem _ (minOf_mem t _ h)
theorem minOf_sublist : ∀ (t seen : List Int), (minOf seen t).Sublist t
 | [], _ => by simp [minOf]
 | y :: t, seen => by
  unfold minOf
  split
  ·exact (minOf_sublist t _).cons _
  ·exact (minOf_sublist t _).cons_cons _
theorem minOf_self : ∀ (t seen : List Int), minOf seen t = t ↔ ∀ i, (hi : i < t.length) → ¬ Sums (seen ++ t.take i) t[i]
 | [], _ => by simp [minOf]
 | y :: t, seen => by
  unfold minOf
  split
  ·rename_i h
   constructor
   ·intro e
    have := (minOf_sublist t (seen ++ [y])).length_le
    rw [e] at this
    simp at this
    omega
   ·intro k
    have := k 0 (by simp)
    rw [List.take_zero, List.append_nil] at this
    exact absurd h this
  ·rename_i h
   rw [List.cons.injEq]
   have := minOf_self t (seen ++ [y])
   rw [this]
   constructor
   ·rintro ⟨_, k⟩ i hi
    cases i with
    | zero => simpa using h
    | succ i =>
     have := k i (by simpa using hi)
     simpa using this
   ·intro k
    refine ⟨rfl, fun i hi => ?_⟩
    have := k (i + 1) (by simpa using hi)
    simpa using this
theorem l3Minimal_l0 (s : List Int) (hl : s.length ≤ 1048576) (hg : InR 1 1000000 s) : ∀ (d j : Nat) (out : List Int), s.length - j = d → j ≤ s.length → out.length ≤ j → Ev (fun k => spec_l3Minimal.l0 k out s (j : Int)) (out ++ minOf (s.take j) (s.drop j)) := by
 intro d
 induction d with
 | zero =>
  intro j out hd hj ho
  refine Ev.step (fun _ => spec_l3Minimal.l0.eq_2 ..) ?_
  refine Ev.neg (by omega) ?_
  rw [List.drop_of_length_le (by omega)]
  simp only [minOf, List.append_nil]
  exact Ev.now _
 | succ d ih =>
  intro j out hd hj ho
  have hlt : j < s.length := by omega
  have hx := hg _ (List.getElem_mem hlt)
  have keep : ¬ Sums (s.take j) s[j] → Ev (fun k => spec_l3Minimal.l0 k (out ++ [s[j]]) s ((j + 1 : Nat) : Int)) (out ++ minOf (s.take j) (s.drop j)) := by
   intro h
   have := ih (j + 1) (out ++ [s[j]]) (by omega) (by omega) (by simp <;> omega)
   rw [drop_cons hlt, minOf, if_neg h]
   rwa [take_snoc' hlt, List.append_assoc, List.singleton_append] at this
  have skip : Sums (s.take j) s[j] → Ev (fun k => spec_l3Minimal.l0 k out s ((j + 1 : Nat) : Int)) (out ++ minOf (s.take j) (s.drop j)) := by
   intro h
   have := ih (j + 1) out (by omega) (by omega) (by omega)
   rw [drop_cons hlt, minOf, if_pos h]
   rwa [take_snoc' hlt] at this
  refine Ev.step (fun _ => spec_l3Minimal.l0.eq_2 ..) ?_
  refine Ev.pos (by omega) ?_
  rw [rd_get hlt, w64s (by omega)]
  by_cases h0 : j = 0
  ·subst h0
   refine Ev.pos (by omega) ?_
   refine Ev.pos (by omega) ?_
   refine Ev.pos (by omega) ?_
   refine keep fun h => ?_
   have := h.nil
   omega
  ·refine Ev.neg (by omega) ?_
   refine Ev.pos (by omega) ?_
   refine Ev.pos (by omega) ?_
   obtain ⟨q, hq⟩ : ∃ q : Nat, s[j] = (q : Int) := ⟨s[j].toNat, by omega⟩
   obtain ⟨t, h1, h2, h3⟩ := l3Table (s.take j) (by rw [List.length_take]; omega) (hg.sub fun x hx => List.mem_of_mem_take hx) q (by omega)
   rw [Int.toNat_natCast]
   rw [← hq] at h1
   refine Ev.bind h1 ?_
   refine Ev.pos (by omega) ?_
   refine Ev.pos (by omega) ?_
   rw [show rdOf false t s[j] = t.getD q false by rw [hq, rdOf_nat]]
   have h4 := h3 q (Nat.le_refl _)
   rw [← hq] at h4
   by_cases c : Sums (s.take j) s[j]
   ·exact Ev.pos (h4.2 c) (skip c)
   ·refine Ev.neg (fun k => c (h4.1 k)) ?_
    exact Ev.pos (by omega) (keep c)
theorem l3Minimal (l : List Int) (hl : l.length ≤ 1048576) (hg : InR 1 1000000 l) : ∃ s, Sorted l s ∧ Ev (fun k => spec_l3Minimal.f k l) (minOf [] s) := by
 obtain ⟨s, h1, h2⟩ := sSort l hl
 refine ⟨s, h2, ?_⟩
 unfold spec_l3Minimal.f
 refine Ev.bind h1 ?_
 have := l3Minimal_l0 s (by have := h2.2.2; omega) (hg.sub fun x hx => (h2.2.1 x).1 hx) s.length 0 [] (by omega) (by omega) (by simp)
 simpa using this
theorem l3Ends_l0 (g : List Int) (t : List Bool) (hpos : 0 < g.length) (hg : InR 1 60 g) (ht : t.length = 261) : ∀ (d j : Nat), 261 - j = d → 200 ≤ j → j ≤ 260 → EvB (fun k => spec_l3Ends.l0 k g t (j : Int)) (∀ n : Nat, j ≤ n → (n : Int) < 200 + rd g 0 → t.getD n false = true) := by
 have ha := hg _ (List.getElem_mem hpos)
 have e0 : rd g 0 = g[0] := rd_get (i := 0) hpos
 intro d
 induction d with
 | zero => intro j hd h1 h2; omega
 | succ d ih =>
  intro j hd h1 h2
  refine EvB.step (fun _ => spec_l3Ends.l0.eq_2 ..) ?_
  refine EvB.pos (by omega) ?_
  rw [w64 (x := 200 + rd g 0) (by omega) (by omega)]
  by_cases c : (j : Int) < 200 + rd g 0
  ·refine EvB.pos c ?_
   refine EvB.pos (by omega) ?_
   refine EvB.pos (by omega) ?_
   rw [rdOf_nat]
   by_cases hb : t.getD j false = true
   ·refine EvB.pos hb ?_
    rw [w64s (by omega)]
    rcases Nat.lt_or_ge j 260 with hj | hj
    ·refine (ih (j + 1) (by omega) (by omega) (by omega)).iff ⟨fun h n h3 h4 => ?_, fun h n h3 h4 => h n (by omega) h4⟩
     rcases Nat.lt_or_ge j n with h5 | h5
     ·exact h n (by omega) h4
     ·have : n = j := by omega
      subst this; exact hb
    ·omega
   ·refine EvB.neg hb (EvB.of_false (Ev.now _) fun h => hb (h j (Nat.le_refl _) c))
  ·exact EvB.neg c (EvB.of_true (Ev.now _) fun n h3 h4 => by omega)
theorem l3Ends (g : List Int) (hl : g.length ≤ 1000000) (hpos : 0 < g.length) (hg : InR 1 60 g) : EvB (fun k => spec_l3Ends.f k g) (∀ n : Int, 200 ≤ n → Sums g n) := by
 have ha := hg _ (List.getElem_mem hpos)
 have e0 : rd g 0 = g[0] := rd_get (i := 0) hpos
 obtain ⟨t, h1, h2, h3⟩ := l3Table g (by omega) (hg.mono (Int.le_refl _) (by omega)) 260 (by omega)
 unfold spec_l3Ends.f
 refine EvB.bind h1 ?_
 refine (l3Ends_l0 g t hpos hg (by omega) 61 200 (by omega) (by omega) (by omega)).iff ⟨fun h => ?_, fun h n h4 h5 => ?_⟩
 ·refine ends_of (a := g[0]) (by omega) (List.getElem_mem hpos) fun n h4 h5 => ?_
  obtain ⟨q, rfl⟩ : ∃ q : Nat, n = (q : Int) := ⟨n.toNat, by omega⟩
  exact (h3 q (by omega)).1 (h q (by omega) (by omega))
 ·exact (h3 n (by omega)).2 (h n (by omega))
theorem sIsSG (l : List Int) (hl : l.length ≤ 1048576) : EvB (fun k => spec_IsSemigroup.f k l) (IsSG l) := by
 unfold spec_IsSemigroup.f
 by_cases hu : Use l
 case neg => exact EvB.bind ((l3Gens l (by omega)).no hu) (EvB.neg (by simp) (EvB.of_false (Ev.now _) fun h => hu ⟨h.rng, h.pos, by have := h.le; omega⟩))
 refine EvB.bind ((l3Gens l (by omega)).yes hu) (EvB.pos rfl ?_)
 by_cases h12 : l.length ≤ 12
 case neg => exact EvB.neg (by omega) (EvB.of_false (Ev.now _) fun h => h12 h.le)
 refine EvB.pos (by omega) ?_
 by_cases ha : l.Pairwise (· < ·)
 case neg => exact EvB.bind ((sAsc l (by omega)).no ha) (EvB.neg (by simp) (EvB.of_false (Ev.now _) fun h => ha h.asc))
 refine EvB.bind ((sAsc l (by omega)).yes ha) (EvB.pos rfl ?_)
 refine EvB.bind (sGcdList l (by omega) (hu.1.mono (Int.le_refl _) (by omega))) ?_
 by_cases hg : gcdL l = 1
 case neg => exact EvB.neg (by omega) (EvB.of_false (Ev.now _) fun h => hg h.gcd)
 refine EvB.pos (by omega) ?_
 obtain ⟨s, hs, hm⟩ := l3Minimal l hl (hu.1.mono (Int.le_refl _) (by omega))
 have : s = l := hs.uniq ⟨ha, fun _ => Iff.rfl, Nat.le_refl _⟩
 subst this
 refine EvB.bind hm ?_
 have hself := minOf_self s []
 have hmin : minOf [] s = s ↔ ∀ i : Nat, 1 ≤ i → i < s.length → ¬ Sums (s.take i) (s.getD i 0) := by
  rw [hself]
  constructor
  ·intro h i _ hi
   rw [getD_get hi]
   simpa using h i hi
  ·intro h i hi
   rw [List.nil_append]
   rcases Nat.eq_zero_or_pos i with h0 | h0
   ·subst h0
    intro k
    have := hu.1 _ (List.getElem_mem hi)
    have := Sums.nil (by simpa using k)
    omega
   ·have := h i h0 hi
    rwa [getD_get hi] at this
 by_cases hmm : minOf [] s = s
 case neg => exact EvB.bind ((l2Same (minOf [] s) s (by have := (minOf_sublist s []).length_le; omega)).no hmm) (EvB.neg (by simp) (EvB.of_false (Ev.now _) fun h => hmm (hmin.2 h.minl)))
 refine EvB.bind ((l2Same (minOf [] s) s (by have := (minOf_sublist s []).length_le; omega)).yes hmm) (EvB.pos rfl ?_)
 obtain ⟨b, hb, hP⟩ := l3Ends s (by omega) (by have := hu.2.1; omega) hu.1
 exact EvB.bind hb ⟨b, Ev.now _, hP.trans ⟨fun h => ⟨hu.2.1, h12, hu.1, ha, hg, hmin.1 hmm, h⟩, fun h => h.ends⟩⟩
theorem iSG_l1 (g R : List Int) (hpos : 0 < g.length) (hg : InR 1 60 g) (hR : ∀ r ∈ R, -1 ≤ r ∧ r ≤ 1000000) (hl : R.length ≤ 1000000) : ∀ (d j : Nat), R.length - j = d → j ≤ R.length → EvB (fun k => impl_IsSemigroup.l1 k g R (R.length : Int) (j : Int)) (∀ i : Nat, j ≤ i → i < R.length → R.getD i 0 - rd g 0 < 200) := by
 have ha := hg _ (List.getElem_mem hpos)
 have e0 : rd g 0 = g[0] := rd_get (i := 0) hpos
 intro d
 induction d with
 | zero =>
  intro j hd hj
  refine EvB.step (fun _ => impl_IsSemigroup.l1.eq_2 ..) ?_
  exact EvB.neg (by omega) (EvB.of_true (Ev.now _) fun i h1 h2 => by omega)
 | succ d ih =>
  intro j hd hj
  have hlt : j < R.length := by omega
  have hr := hR _ (List.getElem_mem hlt)
  refine EvB.step (fun _ => impl_IsSemigroup.l1.eq_2 ..) ?_
  refine EvB.pos (by omega) ?_
  refine EvB.pos (by omega) ?_
  refine EvB.pos (by omega) ?_
  refine EvB.pos (by omega) ?_
  rw [rd_get hlt, w64 (x := R[j] - rd g 0) (by omega) (by omega)]
  by_cases c : R[j] - rd g 0 ≥ 200
  ·refine EvB.pos c (EvB.of_false (Ev.now _) fun h => ?_)
   have := h j (Nat.le_refl _) hlt
   rw [getD_get hlt] at this
   omega
  ·refine EvB.neg c ?_
   rw [w64s (by omega)]
   refine (ih (j + 1) (by omega) (by omega)).iff ⟨fun h i h1 h2 => ?_, fun h i h1 h2 => h i (by omega) h2⟩
   rcases Nat.lt_or_ge j i with h3 | h3
   ·exact h i (by omega) h2
   ·have : i = j := by omega
    subst this
    rw [getD_get hlt]; omega
theorem iSG_l0 (g : List Int) (hl : 1 ≤ g.length) (hl2 : g.length ≤ 12) (hg : InR 1 60 g) (hgcd : gcdL g = 1) : ∀ (d j : Nat), g.length - j = d → 1 ≤ j → EvB (fun k => impl_IsSemigroup.l0 k g (j : Int)) ((∀ i : Nat, j ≤ i → i < g.length → ¬ Sums (g.take i) (g.getD i 0)) ∧ ∀ n : Int, 200 ≤ n → Sums g n) := by
 have hpos : 0 < g.length := by omega
 have ha := hg _ (List.getElem_mem hpos)
 have e0 : rd g 0 = g[0] := rd_get (i := 0) hpos
 intro d
 induction d with
 | zero =>
  intro j hd hj
  refine EvB.step (fun _ => impl_IsSemigroup.l0.eq_2 ..) ?_
  refine EvB.neg (by omega) ?_
  refine EvB.pos (by omega) ?_
  obtain ⟨R, h1, h2⟩ := leasts g (by omega) hg (rd g 0) (by omega) (by omega)
  refine EvB.bind h1 ?_
  have hag : rd g 0 ∈ g := by rw [e0]; exact List.getElem_mem hpos
  have hR : ∀ i : Nat, i < R.length → 0 ≤ R.getD i 0 ∧ Sums g (R.getD i 0) ∧ R.getD i 0 % rd g 0 = i ∧ ∀ n, Sums g n → n % rd g 0 = i → R.getD i 0 ≤ n := by
   intro i hi
   have hl := h2.len
   rcases h2.cls (i : Int) (by omega) (by omega) with ⟨e, h⟩ | ⟨k1, k2, k3, k4⟩
   ·exfalso
    obtain ⟨n, hn, hr⟩ := hits_gcdL (g := g) (a := rd g 0) (by omega) (fun x hx => by have := hg x hx; omega) (i : Int)
    rw [hgcd] at hr
    refine h n hn (hr.trans ?_)
    rw [show (i : Int) * ((1 : Nat) : Int) = (i : Int) by simp]
    exact Int.emod_eq_of_lt (by omega) (by omega)
   ·rw [rd_nat] at k1 k2 k3 k4
    exact ⟨k1, k2, k3, k4⟩
  by_cases hbig : ∀ r ∈ R, r ≤ 1000000
  ·refine (iSG_l1 g R hpos hg (fun r hr => ⟨?_, hbig r hr⟩) (by have := h2.len; omega) R.length 0 (by omega) (by omega)).iff ⟨fun h => ⟨fun i h3 h4 => by omega, ?_⟩, fun h i _ hi => ?_⟩
   ·obtain ⟨i, hi, rfl⟩ := List.getElem_of_mem hr
    have := hR i hi
    rw [getD_get hi] at this
    omega
   ·refine ends_of (a := rd g 0) (by omega) hag fun n h4 h5 => ?_
    have m0 := Int.emod_nonneg n (show rd g 0 ≠ 0 by omega)
    have m1 := Int.emod_lt_of_pos n (show 0 < rd g 0 by omega)
    have hl := h2.len
    have k := h (n % rd g 0).toNat (by omega) (by omega)
    have k2 := hR (n % rd g 0).toNat (by omega)
    refine (least_sums h2 (by omega) hag).1 ⟨?_, ?_⟩
    ·unfold rd; exact k2.1
    ·show R.getD (n % rd g 0).toNat 0 ≤ n
     have k3 := k2.2.2.1
     rw [Int.toNat_of_nonneg m0] at k3
     rcases Int.lt_or_le n (R.getD (n % rd g 0).toNat 0) with c | c
     ·exfalso
      have hd : rd g 0 ∣ R.getD (n % rd g 0).toNat 0 - n := Int.dvd_of_emod_eq_zero (by rw [Int.sub_emod, k3, Int.sub_self, Int.zero_emod])
      have := Int.le_of_dvd (by omega) hd
      omega
     ·exact c
   ·have k := hR i hi
    rcases Int.lt_or_le (R.getD i 0 - rd g 0) 200 with c | c
    ·exact c
    ·exfalso
     have hs := h.2 (R.getD i 0 - rd g 0) c
     have := k.2.2.2 _ hs (by rw [Int.sub_emod, k.2.2.1, Int.emod_self, Int.sub_zero]; exact Int.emod_eq_of_lt (by omega) (by have := h2.len; omega))
     omega
  ·exfalso
   refine hbig fun r hr => ?_
   obtain ⟨i, hi, rfl⟩ := List.getElem_of_mem hr
   have := h2.bd (i : Int) (by omega) (by have := h2.len; omega)
   rw [rd_get hi] at this
   omega
 | succ d ih =>
  intro j hd hj
  have hlt : j < g.length := by omega
  have hx := hg _ (List.getElem_mem hlt)
  refine EvB.step (fun _ => impl_IsSemigroup.l0.eq_2 ..) ?_
  refine EvB.pos (by omega) ?_
  refine EvB.pos (by omega) ?_
  refine EvB.pos (by omega) ?_
  rw [Int.toNat_natCast, rd_get hlt]
  have hG := iGenerates (g.take j) (by rw [List.length_take]; omega) g[j]
  have hu : Use (g.take j) := ⟨hg.sub fun x hx => List.mem_of_mem_take hx, by rw [List.length_take]; omega, by rw [List.length_take]; omega⟩
  by_cases c : Sums (g.take j) g[j]
  ·refine EvB.bind (hG.yes ⟨hu, by omega, c⟩) (EvB.pos rfl (EvB.of_false (Ev.now _) fun h => ?_))
   have := h.1 j (Nat.le_refl _) hlt
   rw [getD_get hlt] at this
   exact this c
  ·refine EvB.bind (hG.no fun h => c h.2.2) (EvB.neg (by simp) ?_)
   rw [w64s (by omega)]
   refine (ih (j + 1) (by omega) (by omega)).iff ⟨fun h => ⟨fun i h1 h2 => ?_, h.2⟩, fun h => ⟨fun i h1 h2 => h.1 i (by omega) h2, h.2⟩⟩
   rcases Nat.lt_or_ge j i with h3 | h3
   ·exact h.1 i (by omega) h2
   ·have : i = j := by omega
    subst this
    rw [getD_get hlt]; exact c
theorem iIsSG (l : List Int) (hl : l.length ≤ 1048576) : EvB (fun k => impl_IsSemigroup.f k l) (IsSG l) := by
 unfold impl_IsSemigroup.f
 by_cases h1 : (1 : Int) ≤ l.length ∧ (l.length : Int) ≤ 12
 case neg => exact EvB.call (within_no h1) (EvB.neg (by simp) (EvB.step (fun _ => impl_IsSemigroup.j0.eq_2 ..) (EvB.pos rfl (EvB.of_false (Ev.now _) fun h => h1 ⟨by have := h.pos; omega, by have := h.le; omega⟩))))
 refine EvB.call (within_yes h1) (EvB.pos rfl ?_)
 by_cases hr : InR 1 60 l
 case neg => exact EvB.bind ((allWithin 1 60 l (by omega)).no hr) (EvB.neg (by simp) (EvB.step (fun _ => impl_IsSemigroup.j0.eq_2 ..) (EvB.pos rfl (EvB.of_false (Ev.now _) fun h => hr h.rng))))
 refine EvB.bind ((allWithin 1 60 l (by omega)).yes hr) (EvB.pos rfl ?_)
 by_cases ha : l.Pairwise (· < ·)
 case neg => exact EvB.bind ((iAsc l (by omega)).no ha) (EvB.neg (by simp) (EvB.step (fun _ => impl_IsSemigroup.j0.eq_2 ..) (EvB.pos rfl (EvB.of_false (Ev.now _) fun h => ha h.asc))))
 refine EvB.bind ((iAsc l (by omega)).yes ha) (EvB.pos rfl ?_)
 refine EvB.bind (iGcdList l (by omega) (hr.mono (Int.le_refl _) (by omega))) ?_
 refine EvB.step (fun _ => impl_IsSemigroup.j0.eq_2 ..) ?_
 by_cases hg : gcdL l = 1
 case neg => exact EvB.pos (by rw [bne_iff_ne]; omega) (EvB.of_false (Ev.now _) fun h => hg h.gcd)
 refine EvB.neg (by rw [hg]; simp) ?_
 refine (iSG_l0 l (by omega) (by omega) hr hg (l.length - 1) 1 rfl (by omega)).iff ⟨fun h => ⟨by omega, by omega, hr, ha, hg, h.1, h.2⟩, fun h => ⟨h.minl, h.ends⟩⟩
end Go.Proofs.Ytbjbolblahlhcaa.FFnExactGlueFrobenius
