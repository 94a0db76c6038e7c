/- What Gaps and FrobeniusOf of the reference and of the program answer: the same. Condition: the lists' lengths. -/
import Derived.Test.YtbjbolblahlhcaaF7FnExactGlueFrobeniusZ
namespace Go.Proofs.Ytbjbolblahlhcaa.FFnExactGlueFrobenius
open Go Go.RowKit Go.Proofs.YtbjbolblahlhcaaW.PrintWords Go.Proofs.Ytbjbolblahlhcaa.M Go.Proofs.Ytbjbolblahlhcaa.PFnExactGlueFrobenius
noncomputable def gapsUp (l : List Int) : Nat → List Int
 | 0 => []
 | n + 1 => open Classical in gapsUp l n ++ (if Sums l n then [] else [(n : Int)])
theorem gapsUp_len (l : List Int) (n : Nat) : (gapsUp l n).length ≤ n := by
 induction n with
 | zero => simp [gapsUp]
 | succ n ih => unfold gapsUp; rw [List.length_append]; split <;> simp <;> omega
theorem gapsUp_mem (l : List Int) (n : Nat) (x : Int) : x ∈ gapsUp l n ↔ 0 ≤ x ∧ x < n ∧ ¬ Sums l x := by
 induction n with
 | zero => simp [gapsUp]; omega
 | succ n ih =>
  unfold gapsUp
  rw [List.mem_append, ih]
  by_cases c : Sums l n
  ·rw [if_pos c]
   constructor
   ·rintro (h | h)
    ·exact ⟨h.1, by omega, h.2.2⟩
    ·simp at h
   ·rintro ⟨h1, h2, h3⟩
    refine .inl ⟨h1, ?_, h3⟩
    rcases Int.lt_or_le x n with k | k
    ·exact k
    ·exact absurd ((show (n : Int) = x by omega) ▸ c) h3
  ·rw [if_neg c, List.mem_singleton]
   constructor
   ·rintro (h | rfl)
    ·exact ⟨h.1, by omega, h.2.2⟩
    ·exact ⟨by omega, by omega, c⟩
   ·rintro ⟨h1, h2, h3⟩
    rcases Int.lt_or_le x n with k | k
    ·exact .inl ⟨h1, k, h3⟩
    ·exact .inr (by omega)
theorem gapsUp_asc (l : List Int) (n : Nat) : (gapsUp l n).Pairwise (· < ·) := by
 induction n with
 | zero => simp [gapsUp]
 | succ n ih =>
  unfold gapsUp
  rw [List.pairwise_append]
  refine ⟨ih, by split <;> simp, fun a ha b hb => ?_⟩
  have := (gapsUp_mem l n a).1 ha
  split at hb
  ·simp at hb
  ·rw [List.mem_singleton] at hb; omega
noncomputable def gaps (l : List Int) : List Int := gapsUp l 200
theorem gaps_len (l : List Int) : (gaps l).length ≤ 200 := by unfold gaps; exact gapsUp_len l _
theorem gapsUp_one (l : List Int) : gapsUp l 1 = [] := by unfold gapsUp gapsUp; rw [if_pos (by exact Sums.zero)]; rfl
theorem gapsUp_201 {l : List Int} (h : IsSG l) : gapsUp l 201 = gaps l := by
 have hs : Sums l ((200 : Nat) : Int) := h.ends _ (by omega)
 show gapsUp l (200 + 1) = _
 unfold gapsUp
 rw [if_pos hs, List.append_nil]
 rfl
theorem sGaps_l0 (l : List Int) (t : List Bool) (ht : t.length = 201) (htab : ∀ m : Nat, m ≤ 200 → (t.getD m false = true ↔ Sums l m)) : ∀ (d j : Nat), 200 - j = d → j ≤ 200 → Ev (fun k => spec_l4Gaps.l0 k (gapsUp l j) t (j : Int)) (gaps l) := by
 intro d
 induction d with
 | zero =>
  intro j hd hj
  have : j = 200 := by omega
  subst this
  refine Ev.step (fun _ => spec_l4Gaps.l0.eq_2 ..) ?_
  exact Ev.neg (by omega) (Ev.now _)
 | succ d ih =>
  intro j hd hj
  have := ih (j + 1) (by omega) (by omega)
  have hg := gapsUp_len l j
  refine Ev.step (fun _ => spec_l4Gaps.l0.eq_2 ..) ?_
  refine Ev.pos (by omega) ?_
  refine Ev.pos (by omega) ?_
  refine Ev.pos (by omega) ?_
  rw [rdOf_nat, w64s (by omega)]
  unfold gapsUp at this
  by_cases c : Sums l j
  ·rw [if_pos c, List.append_nil] at this
   exact Ev.pos ((htab j (by omega)).2 c) this
  ·rw [if_neg c] at this
   exact Ev.neg (fun k => c ((htab j (by omega)).1 k)) (Ev.pos (by omega) this)
theorem sL4Gaps (l : List Int) (h : IsSG l) : Ev (fun k => spec_l4Gaps.f k l) (gaps l) := by
 have hle := h.le
 obtain ⟨t, h1, h2, h3⟩ := l3Table l (by omega) (h.rng.mono (Int.le_refl _) (by omega)) 200 (by omega)
 unfold spec_l4Gaps.f
 refine Ev.bind h1 ?_
 have := sGaps_l0 l t (by omega) h3 199 1 (by omega) (by omega)
 rw [gapsUp_one] at this
 exact this
theorem sGaps (l : List Int) (hl : l.length ≤ 1048576) : ∃ g, Ev (fun k => spec_Gaps.f k l) g ∧ ((IsSG l ∧ g = gaps l) ∨ (¬ IsSG l ∧ g = [])) := by
 unfold spec_Gaps.f
 by_cases h : IsSG l
 ·exact ⟨gaps l, Ev.bind ((sIsSG l hl).yes h) (Ev.pos rfl (Ev.bind (sL4Gaps l h) (Ev.now _))), .inl ⟨h, rfl⟩⟩
 ·exact ⟨[], Ev.bind ((sIsSG l hl).no h) (Ev.neg (by simp) (Ev.now _)), .inr ⟨h, rfl⟩⟩
theorem iTable_l0 (l R : List Int) (h : IsSG l) (hR : Least l (rd l 0) R) (N : Nat) (hN : N ≤ 1000000) : ∀ (d j : Nat) (t : List Bool), N + 1 - j = d → j ≤ N + 1 → t.length = N + 1 → (∀ m : Nat, m < j → (t.getD m false = true ↔ Sums l m)) → ∃ t', Ev (fun k => impl_table.l0 k R t ((N + 1 : Nat) : Int) (j : Int) l) t' ∧ t'.length = N + 1 ∧ ∀ m : Nat, m ≤ N → (t'.getD m false = true ↔ Sums l m) := by
 have hpos := h.pos
 have hf := h.first'
 intro d
 induction d with
 | zero =>
  intro j t hd hj ht hm
  refine ⟨t, ?_, ht, fun m hmN => hm m (by omega)⟩
  refine Ev.step (fun _ => impl_table.l0.eq_2 ..) ?_
  exact Ev.neg (by omega) (Ev.now _)
 | succ d ih =>
  intro j t hd hj ht hm
  have m0 := Int.emod_nonneg (j : Int) (show rd l 0 ≠ 0 by omega)
  have m1 := Int.emod_lt_of_pos (j : Int) (show 0 < rd l 0 by omega)
  obtain ⟨t', a, b, c⟩ := ih (j + 1) (t.set j (decide (rd R ((j : Int) % rd l 0) ≤ j))) (by omega) (by omega) (by simpa using ht) (fun m hmj => by
   rw [getD_set _ _ _ _ _ (by omega)]
   by_cases e : m = j
   ·subst e; rw [if_pos rfl, decide_eq_true_iff]; exact least_le h hR m
   ·rw [if_neg e]; exact hm m (by omega))
  refine ⟨t', ?_, b, c⟩
  refine Ev.step (fun _ => impl_table.l0.eq_2 ..) ?_
  refine Ev.pos (by omega) ?_
  refine Ev.pos (by omega) ?_
  rw [tmod_pos (by omega)]
  refine Ev.neg (by omega) ?_
  refine Ev.pos m0 ?_
  refine Ev.pos (by rw [hR.len]; exact m1) ?_
  refine Ev.pos (by omega) ?_
  refine Ev.pos (by omega) ?_
  rw [w64s (by omega), Int.toNat_natCast]
  exact a
theorem iTable (l : List Int) (h : IsSG l) (N : Nat) (hN : N ≤ 1000000) : ∃ t, Ev (fun k => impl_table.f k l (N : Int)) t ∧ t.length = N + 1 ∧ ∀ m : Nat, m ≤ N → (t.getD m false = true ↔ Sums l m) := by
 have hpos := h.pos
 have hle := h.le
 have hf := h.first'
 obtain ⟨R, h1, h2⟩ := leasts l (by omega) h.rng (rd l 0) hf.1 hf.2.1
 obtain ⟨t, a, b⟩ := iTable_l0 l R h h2 N hN (N + 1) 0 (List.replicate (N + 1) false) (by omega) (by omega) (by simp) (fun m hm => by omega)
 refine ⟨t, ?_, b⟩
 unfold impl_table.f
 refine Ev.pos (by omega) ?_
 refine Ev.bind h1 ?_
 rw [w64s (by omega), Int.toNat_natCast]
 refine Ev.pos (by omega) ?_
 refine Ev.pos (by omega) ?_
 refine Ev.call rfl ?_
 rw [List.length_replicate]
 exact a
theorem iGaps_l0 (l : List Int) (h : IsSG l) (t : List Bool) (ht : t.length = 201) (htab : ∀ m : Nat, m ≤ 200 → (t.getD m false = true ↔ Sums l m)) : ∀ (d j : Nat), 201 - j = d → j ≤ 201 → Ev (fun k => impl_Gaps.l0 k (gapsUp l j) t ((201 : Nat) : Int) (j : Int)) (gaps l) := by
 intro d
 induction d with
 | zero =>
  intro j hd hj
  have : j = 201 := by omega
  subst this
  refine Ev.step (fun _ => impl_Gaps.l0.eq_2 ..) ?_
  rw [gapsUp_201 h]
  exact Ev.neg (by omega) (Ev.now _)
 | succ d ih =>
  intro j hd hj
  have := ih (j + 1) (by omega) (by omega)
  have hg := gapsUp_len l j
  refine Ev.step (fun _ => impl_Gaps.l0.eq_2 ..) ?_
  refine Ev.pos (by omega) ?_
  refine Ev.pos (by omega) ?_
  refine Ev.pos (by omega) ?_
  rw [rdOf_nat, w64s (by omega)]
  unfold gapsUp at this
  by_cases c : Sums l j
  ·rw [if_pos c, List.append_nil] at this
   exact Ev.pos ((htab j (by omega)).2 c) this
  ·rw [if_neg c] at this
   exact Ev.neg (fun k => c ((htab j (by omega)).1 k)) (Ev.pos (by omega) this)
theorem iGaps (l : List Int) (hl : l.length ≤ 1048576) : ∃ g, Ev (fun k => impl_Gaps.f k l) g ∧ ((IsSG l ∧ g = gaps l) ∨ (¬ IsSG l ∧ g = [])) := by
 unfold impl_Gaps.f
 by_cases h : IsSG l
 ·refine ⟨gaps l, ?_, .inl ⟨h, rfl⟩⟩
  obtain ⟨t, h1, h2, h3⟩ := iTable l h 200 (by omega)
  refine Ev.bind ((iIsSG l hl).yes h) (Ev.pos rfl ?_)
  refine Ev.bind h1 ?_
  have h2' : t.length = 201 := by omega
  rw [h2']
  have := iGaps_l0 l h t h2' h3 201 0 (by omega) (by omega)
  have e0 : gapsUp l 0 = [] := rfl
  rw [e0] at this
  refine Ev.congr (fun k => ?_) this
  rfl
 ·exact ⟨[], Ev.bind ((iIsSG l hl).no h) (Ev.neg (by simp) (Ev.now _)), .inr ⟨h, rfl⟩⟩
def lastOf (g : List Int) : Int := if g.length = 0 then -1 else g.getD (g.length - 1) 0
theorem gaps_both {l g g' : List Int} (h : (IsSG l ∧ g = gaps l) ∨ (¬ IsSG l ∧ g = [])) (h' : (IsSG l ∧ g' = gaps l) ∨ (¬ IsSG l ∧ g' = [])) : g = g' ∧ g.length ≤ 200 := by
 rcases h with ⟨a, e⟩ | ⟨a, e⟩ <;> rcases h' with ⟨a', e'⟩ | ⟨a', e'⟩
 ·rw [e, e']; exact ⟨Eq.refl _, gaps_len l⟩
 ·exact absurd a a'
 ·exact absurd a' a
 ·rw [e, e']; exact ⟨Eq.refl _, by simp⟩
theorem frobBoth (l : List Int) (hl : l.length ≤ 1048576) : ∃ g, ((IsSG l ∧ g = gaps l) ∨ (¬ IsSG l ∧ g = [])) ∧ Ev (fun k => spec_FrobeniusOf.f k l) (lastOf g) ∧ Ev (fun k => impl_FrobeniusOf.f k l) (lastOf g) := by
 obtain ⟨g, s1, s2⟩ := sGaps l hl
 obtain ⟨g', i1, i2⟩ := iGaps l hl
 obtain ⟨e, hg⟩ := gaps_both s2 i2
 subst e
 refine ⟨g, s2, ?_, ?_⟩
 ·unfold spec_FrobeniusOf.f
  refine Ev.bind s1 ?_
  unfold lastOf
  by_cases c : g.length = 0
  ·rw [if_pos c]; exact Ev.pos (by omega) (Ev.now _)
  ·rw [if_neg c]
   refine Ev.neg (by omega) ?_
   rw [w64p (by omega) (by omega), rd_nat]
   exact Ev.pos (by omega) (Ev.pos (by omega) (Ev.now _))
 ·unfold impl_FrobeniusOf.f
  refine Ev.bind i1 ?_
  unfold lastOf
  by_cases c : g.length = 0
  ·rw [if_pos c]; exact Ev.pos (by omega) (Ev.now _)
  ·rw [if_neg c]
   refine Ev.neg (by omega) ?_
   rw [w64p (by omega) (by omega), rd_nat]
   exact Ev.pos (by omega) (Ev.pos (by omega) (Ev.now _))
end Go.Proofs.Ytbjbolblahlhcaa.FFnExactGlueFrobenius
