/- What Contains, HasNumber and GlueOf of the reference and of the program answer: the same. Condition: the lists' lengths. -/
import Derived.Test.YtbjbolblahlhcaaF4FnExactGlueFrobeniusZ
namespace Go.Proofs.Ytbjbolblahlhcaa.FFnExactGlueFrobenius
open Go Go.RowKit Go.Proofs.YtbjbolblahlhcaaW.PrintWords Go.Proofs.Ytbjbolblahlhcaa.M Go.Proofs.Ytbjbolblahlhcaa.PFnExactGlueFrobenius
theorem _root_.Go.Proofs.Ytbjbolblahlhcaa.M.IsSG.first' {l : List Int} (h : IsSG l) : 1 ≤ rd l 0 ∧ rd l 0 ≤ 60 ∧ rd l 0 ∈ l := by
 have hpos := h.pos
 have hm : rd l ((0 : Nat) : Int) ∈ l := rd_mem (by omega)
 exact ⟨(h.rng _ hm).1, (h.rng _ hm).2, hm⟩
def Elem (l : List Int) (n : Int) : Prop := IsSG l ∧ 0 ≤ n ∧ Sums l n
theorem sHas (l : List Int) (h : IsSG l) (n : Int) : EvB (fun k => spec_l3Has.f k l n) (0 ≤ n ∧ Sums l n) := by
 have hle := h.le
 unfold spec_l3Has.f
 by_cases c1 : n < 0
 ·exact EvB.pos c1 (EvB.dec ⟨fun k => by omega, fun k => by omega⟩)
 ·refine EvB.neg c1 ?_
  by_cases c2 : n ≥ 200
  ·exact EvB.pos c2 (EvB.dec ⟨fun k => ⟨by omega, h.ends n c2⟩, fun k => by omega⟩)
  ·refine EvB.neg c2 ?_
   obtain ⟨q, rfl⟩ : ∃ q : Nat, n = (q : Int) := ⟨n.toNat, by omega⟩
   obtain ⟨t, h1, h2, h3⟩ := l3Table l (by omega) (h.rng.mono (Int.le_refl _) (by omega)) q (by omega)
   refine EvB.bind h1 ?_
   refine EvB.pos (by omega) ?_
   refine EvB.pos (by omega) ?_
   rw [rdOf_nat]
   exact ⟨_, Ev.now _, (h3 q (Nat.le_refl _)).trans ⟨fun k => ⟨by omega, k⟩, fun k => k.2⟩⟩
theorem least_full {l R : List Int} (h : IsSG l) (hR : Least l (rd l 0) R) {r : Int} (h0 : 0 ≤ r) (h1 : r < rd l 0) : 0 ≤ rd R r := by
 have hf := h.first'
 rcases hR.cls r h0 h1 with ⟨_, k⟩ | ⟨k, _⟩
 ·exfalso
  obtain ⟨n, hn, hr⟩ := hits_gcdL (g := l) (a := rd l 0) (by omega) (fun x hx => by have := h.rng x hx; omega) r
  rw [h.gcd] at hr
  refine k n hn (hr.trans ?_)
  rw [show r * ((1 : Nat) : Int) = r by simp]
  exact Int.emod_eq_of_lt h0 h1
 ·exact k
theorem least_le {l R : List Int} (h : IsSG l) (hR : Least l (rd l 0) R) (n : Int) : rd R (n % rd l 0) ≤ n ↔ Sums l n := by
 have hf := h.first'
 have m0 := Int.emod_nonneg n (show rd l 0 ≠ 0 by omega)
 have m1 := Int.emod_lt_of_pos n (show 0 < rd l 0 by omega)
 have := least_full h hR m0 m1
 have key := least_sums hR (by omega) hf.2.2 (n := n)
 exact ⟨fun k => key.1 ⟨this, k⟩, fun k => (key.2 k).2⟩
theorem sContains (l : List Int) (hl : l.length ≤ 1048576) (n : Int) : EvB (fun k => spec_Contains.f k l n) (Elem l n) := by
 unfold spec_Contains.f
 by_cases h : IsSG l
 ·refine EvB.bind ((sIsSG l hl).yes h) (EvB.pos rfl ?_)
  obtain ⟨b, h1, h2⟩ := sHas l h n
  exact EvB.bind h1 ⟨b, Ev.now _, h2.trans ⟨fun k => ⟨h, k⟩, fun k => k.2⟩⟩
 ·exact EvB.bind ((sIsSG l hl).no h) (EvB.neg (by simp) (EvB.of_false (Ev.now _) fun k => h k.1))
theorem iContains (l : List Int) (hl : l.length ≤ 1048576) (n : Int) : EvB (fun k => impl_Contains.f k l n) (Elem l n) := by
 unfold impl_Contains.f
 by_cases c1 : n < 0
 ·exact EvB.pos c1 (EvB.of_false (Ev.now _) fun k => by have := k.2.1; omega)
 refine EvB.neg c1 ?_
 by_cases h : IsSG l
 ·have hle := h.le
  have hpos := h.pos
  have hf := h.first'
  refine EvB.bind ((iIsSG l hl).yes h) (EvB.pos rfl ?_)
  by_cases c2 : n ≥ 200
  ·exact EvB.pos c2 (EvB.of_true (Ev.now _) ⟨h, by omega, h.ends n c2⟩)
  ·refine EvB.neg c2 ?_
   refine EvB.pos (by omega) ?_
   obtain ⟨R, h1, h2⟩ := leasts l (by omega) h.rng (rd l 0) hf.1 hf.2.1
   have m0 := Int.emod_nonneg n (show rd l 0 ≠ 0 by omega)
   have m1 := Int.emod_lt_of_pos n (show 0 < rd l 0 by omega)
   refine EvB.bind h1 ?_
   rw [tmod_pos (by omega)]
   refine EvB.neg (by omega) ?_
   refine EvB.pos m0 ?_
   refine EvB.pos (by rw [h2.len]; exact m1) ?_
   exact EvB.dec ((least_le h h2 n).trans ⟨fun k => ⟨h, by omega, k⟩, fun k => k.2.2⟩)
 ·exact EvB.bind ((iIsSG l hl).no h) (EvB.neg (by simp) (EvB.of_false (Ev.now _) fun k => h k.1))
theorem mem_drop {l : List Int} {j : Nat} (h : j < l.length) (x : Int) : x ∈ l.drop j ↔ x = l[j] ∨ x ∈ l.drop (j + 1) := by rw [drop_cons h, List.mem_cons]
theorem sHasNum_l0 (l : List Int) (x : Int) (hl : l.length ≤ 4611686018427387904) : ∀ (d j : Nat), l.length - j = d → j ≤ l.length → EvB (fun k => spec_HasNumber.l0 k l x (j : Int)) (x ∈ l.drop j) := by
 intro d
 induction d with
 | zero =>
  intro j hd hj
  refine EvB.step (fun _ => spec_HasNumber.l0.eq_2 ..) ?_
  refine EvB.neg (by omega) (EvB.of_false (Ev.now _) ?_)
  rw [List.drop_of_length_le (by omega)]; simp
 | succ d ih =>
  intro j hd hj
  have hlt : j < l.length := by omega
  refine EvB.step (fun _ => spec_HasNumber.l0.eq_2 ..) ?_
  refine EvB.pos (by omega) ?_
  refine EvB.pos (by omega) ?_
  rw [rd_get hlt]
  by_cases c : l[j] = x
  ·exact EvB.pos c (EvB.of_true (Ev.now _) ((mem_drop hlt x).2 (.inl c.symm)))
  ·refine EvB.neg c ?_
   rw [w64s (by omega)]
   exact (ih (j + 1) (by omega) (by omega)).iff ⟨fun k => (mem_drop hlt x).2 (.inr k), fun k => ((mem_drop hlt x).1 k).elim (fun e => absurd e.symm c) id⟩
theorem sHasNum (l : List Int) (x : Int) (hl : l.length ≤ 4611686018427387904) : EvB (fun k => spec_HasNumber.f k l x) (x ∈ l) := sHasNum_l0 l x hl l.length 0 (by omega) (by omega)
theorem iIndex_l0 (l : List Int) (x : Int) (hl : l.length ≤ 4611686018427387904) : ∀ (d j : Nat), l.length - j = d → j ≤ l.length → ∃ r : Int, Ev (fun k => slices_Index_int_int.l0 k l x (l.length : Int) (j : Int)) r ∧ (r ≥ 0 ↔ x ∈ l.drop j) := by
 intro d
 induction d with
 | zero =>
  intro j hd hj
  refine ⟨-1, ?_, ?_⟩
  ·refine Ev.step (fun _ => slices_Index_int_int.l0.eq_2 ..) ?_
   exact Ev.neg (by omega) (Ev.now _)
  ·rw [List.drop_of_length_le (by omega)]; simp
 | succ d ih =>
  intro j hd hj
  have hlt : j < l.length := by omega
  by_cases c : x = l[j]
  ·refine ⟨(j : Int), ?_, ⟨fun _ => (mem_drop hlt x).2 (.inl c), fun _ => by omega⟩⟩
   refine Ev.step (fun _ => slices_Index_int_int.l0.eq_2 ..) ?_
   refine Ev.pos (by omega) ?_
   refine Ev.pos (by omega) ?_
   refine Ev.pos (by omega) ?_
   rw [rd_get hlt]
   exact Ev.pos c (Ev.now _)
  ·obtain ⟨r, h1, h2⟩ := ih (j + 1) (by omega) (by omega)
   refine ⟨r, ?_, h2.trans ⟨fun k => (mem_drop hlt x).2 (.inr k), fun k => ((mem_drop hlt x).1 k).elim (fun e => absurd e c) id⟩⟩
   refine Ev.step (fun _ => slices_Index_int_int.l0.eq_2 ..) ?_
   refine Ev.pos (by omega) ?_
   refine Ev.pos (by omega) ?_
   refine Ev.pos (by omega) ?_
   rw [rd_get hlt, w64s (by omega)]
   exact Ev.neg c h1
theorem iHasNum (l : List Int) (x : Int) (hl : l.length ≤ 4611686018427387904) : EvB (fun k => slices_Contains_int_int.f k l x) (x ∈ l) := by
 obtain ⟨r, h1, h2⟩ := iIndex_l0 l x hl l.length 0 (by omega) (by omega)
 unfold slices_Contains_int_int.f slices_Index_int_int.f
 exact EvB.bind h1 (EvB.dec h2)
def GC (a b : List Int) (x y : Int) : Prop := (Elem b x ∧ Elem a y) ∧ (x ∉ b ∧ y ∉ a) ∧ ((1 ≤ x ∧ x ≤ 60) ∧ (1 ≤ y ∧ y ≤ 60)) ∧ Nat.gcd x.natAbs y.natAbs = 1
def GlueL (a b : List Int) (x y : Int) : List Int := a.map (fun g => x * g) ++ b.map (fun g => y * g)
def GL (a b : List Int) (x y : Int) (r : List Int × Bool) : Prop := (GC a b x y ∧ FG (GlueL a b x y) r) ∨ (¬ GC a b x y ∧ r = ([], false))
theorem GL.uniq {a b : List Int} {x y : Int} {r r' : List Int × Bool} (h : GL a b x y r) (h' : GL a b x y r') : r = r' := by
 rcases h with ⟨k, m⟩ | ⟨k, rfl⟩ <;> rcases h' with ⟨k', m'⟩ | ⟨k', rfl⟩
 ·exact m.uniq m'
 ·exact absurd k k'
 ·exact absurd k' k
 ·rfl
theorem GL.cases {a b : List Int} {x y : Int} {r : List Int × Bool} (h : GL a b x y r) : (r.2 = true ∧ IsSG r.1) ∨ r = ([], false) := by
 rcases h with ⟨_, h⟩ | ⟨_, h⟩
 ·exact h.cases
 ·exact .inr h
theorem mul_bd {x g : Int} (hx : 1 ≤ x ∧ x ≤ 60) (hg : 1 ≤ g ∧ g ≤ 60) : 0 ≤ x * g ∧ x * g ≤ 3600 := by
 constructor
 ·exact Int.mul_nonneg (by omega) (by omega)
 ·have h1 := Int.mul_le_mul_of_nonneg_right hx.2 (show 0 ≤ g by omega)
  omega
theorem times_l0 (l : List Int) (hl : l.length ≤ 1048576) (hg : InR 1 60 l) (n : Int) (hn : 1 ≤ n ∧ n ≤ 60) : ∀ (d j : Nat) (acc : List Int), l.length - j = d → j ≤ l.length → acc.length ≤ j → Ev (fun k => spec_l22Times.l0 k l n acc (j : Int)) (acc ++ (l.drop j).map (fun g => n * g)) := by
 intro d
 induction d with
 | zero =>
  intro j acc hd hj ha
  rw [List.drop_of_length_le (by omega), List.map_nil, List.append_nil]
  refine Ev.step (fun _ => spec_l22Times.l0.eq_2 ..) ?_
  exact Ev.neg (by omega) (Ev.now _)
 | succ d ih =>
  intro j acc hd hj ha
  have hlt : j < l.length := by omega
  have hb := mul_bd hn (hg _ (List.getElem_mem hlt))
  refine Ev.step (fun _ => spec_l22Times.l0.eq_2 ..) ?_
  refine Ev.pos (by omega) ?_
  refine Ev.pos (by omega) ?_
  refine Ev.pos (by omega) ?_
  rw [w64s (by omega), rd_get hlt, Int.mul_comm, w64 (by omega) (by omega)]
  have := ih (j + 1) (acc ++ [n * l[j]]) (by omega) (by omega) (by simp <;> omega)
  rw [drop_cons hlt, List.map_cons]
  rwa [List.append_assoc, List.singleton_append] at this
theorem times (l : List Int) (hl : l.length ≤ 1048576) (hg : InR 1 60 l) (n : Int) (hn : 1 ≤ n ∧ n ≤ 60) : Ev (fun k => spec_l22Times.f k l n) (l.map (fun g => n * g)) := by
 have := times_l0 l hl hg n hn l.length 0 [] (by omega) (by omega) (by simp)
 rw [List.nil_append, List.drop_zero] at this
 exact this
theorem sGL (a b : List Int) (x y : Int) (ha : a.length ≤ 1048576) (hb : b.length ≤ 1048576) : ∃ r, Ev (fun k => spec_GlueOf.f k a b x y) r ∧ GL a b x y r := by
 by_cases h : GC a b x y
 ·obtain ⟨⟨h1, h2⟩, ⟨h3, h4⟩, ⟨h5, h6⟩, h7⟩ := h
  have la := h2.1.le
  have lb := h1.1.le
  obtain ⟨r, r1, r2⟩ := sFG (GlueL a b x y) (by unfold GlueL; simp <;> omega)
  refine ⟨r, ?_, .inl ⟨⟨⟨h1, h2⟩, ⟨h3, h4⟩, ⟨h5, h6⟩, h7⟩, r2⟩⟩
  unfold spec_GlueOf.f
  refine Ev.bind ((sContains b hb x).yes h1) (Ev.pos rfl ?_)
  refine Ev.bind ((sContains a ha y).yes h2) (Ev.pos rfl ?_)
  refine Ev.bind ((sHasNum b x (by omega)).no h3) (Ev.neg (by simp) ?_)
  refine Ev.bind ((sHasNum a y (by omega)).no h4) (Ev.neg (by simp) ?_)
  refine Ev.call (l1In _ _ _) (Ev.pos (by simpa using h5) ?_)
  refine Ev.call (l1In _ _ _) (Ev.pos (by simpa using h6) ?_)
  have hg := sGcd x.natAbs y.natAbs (by omega) (by omega)
  rw [Int.natAbs_of_nonneg (by omega), Int.natAbs_of_nonneg (by omega), h7] at hg
  refine Ev.bind hg ?_
  refine Ev.step (fun _ => spec_GlueOf.j0.eq_2 ..) ?_
  refine Ev.neg (by simp) ?_
  refine Ev.bind (times a ha h2.1.rng x h5) ?_
  refine Ev.bind (times b hb h1.1.rng y h6) ?_
  refine Ev.pos (by simp <;> omega) ?_
  exact Ev.bind r1 (Ev.now _)
 ·refine ⟨([], false), ?_, .inr ⟨h, rfl⟩⟩
  have no : Ev (fun k => spec_GlueOf.j0 k x y true a b) ([], false) := Ev.step (fun _ => spec_GlueOf.j0.eq_2 ..) (Ev.pos rfl (Ev.now _))
  unfold spec_GlueOf.f
  by_cases h1 : Elem b x
  case neg => exact Ev.bind ((sContains b hb x).no h1) (Ev.neg (by simp) no)
  refine Ev.bind ((sContains b hb x).yes h1) (Ev.pos rfl ?_)
  by_cases h2 : Elem a y
  case neg => exact Ev.bind ((sContains a ha y).no h2) (Ev.neg (by simp) no)
  refine Ev.bind ((sContains a ha y).yes h2) (Ev.pos rfl ?_)
  by_cases h3 : x ∈ b
  case pos => exact Ev.bind ((sHasNum b x (by omega)).yes h3) (Ev.pos rfl no)
  refine Ev.bind ((sHasNum b x (by omega)).no h3) (Ev.neg (by simp) ?_)
  by_cases h4 : y ∈ a
  case pos => exact Ev.bind ((sHasNum a y (by omega)).yes h4) (Ev.pos rfl no)
  refine Ev.bind ((sHasNum a y (by omega)).no h4) (Ev.neg (by simp) ?_)
  refine Ev.call (l1In _ _ _) ?_
  by_cases h5 : 1 ≤ x ∧ x ≤ 60
  case neg => exact Ev.neg (by simpa using h5) no
  refine Ev.pos (by simpa using h5) ?_
  refine Ev.call (l1In _ _ _) ?_
  by_cases h6 : 1 ≤ y ∧ y ≤ 60
  case neg => exact Ev.neg (by simpa using h6) no
  refine Ev.pos (by simpa using h6) ?_
  have hg := sGcd x.natAbs y.natAbs (by omega) (by omega)
  rw [Int.natAbs_of_nonneg (by omega), Int.natAbs_of_nonneg (by omega)] at hg
  refine Ev.bind hg ?_
  rw [show ((((Nat.gcd x.natAbs y.natAbs : Nat) : Int)) != 1) = true by
   rw [bne_iff_ne]
   intro e
   exact h ⟨⟨h1, h2⟩, ⟨h3, h4⟩, ⟨h5, h6⟩, by exact_mod_cast e⟩]
  exact no
theorem iGL_l1 (b : List Int) (hb : b.length ≤ 1048576) (hg : InR 1 60 b) (y : Int) (hy : 1 ≤ y ∧ y ≤ 60) (r : List Int × Bool) (B : Nat) (hB : B ≤ 2000000) : ∀ (d j : Nat) (acc : List Int), b.length - j = d → j ≤ b.length → acc.length ≤ j + B → Ev (fun k => impl_FromGens.f k (acc ++ (b.drop j).map (fun g => y * g))) r → Ev (fun k => impl_GlueOf.l1 k y acc b (b.length : Int) (j : Int)) r := by
 intro d
 induction d with
 | zero =>
  intro j acc hd hj ha hr
  rw [List.drop_of_length_le (by omega), List.map_nil, List.append_nil] at hr
  refine Ev.step (fun _ => impl_GlueOf.l1.eq_2 ..) ?_
  exact Ev.neg (by omega) (Ev.bind hr (Ev.now _))
 | succ d ih =>
  intro j acc hd hj ha hr
  have hlt : j < b.length := by omega
  have hbd := mul_bd hy (hg _ (List.getElem_mem hlt))
  refine Ev.step (fun _ => impl_GlueOf.l1.eq_2 ..) ?_
  refine Ev.pos (by omega) ?_
  refine Ev.pos (by omega) ?_
  refine Ev.pos (by omega) ?_
  refine Ev.pos (by omega) ?_
  rw [w64s (by omega), rd_get hlt, w64 (by omega) (by omega)]
  refine ih (j + 1) _ (by omega) (by omega) (by simp <;> omega) ?_
  rw [drop_cons hlt, List.map_cons] at hr
  rw [List.append_assoc, List.singleton_append]
  exact hr
theorem iGL_l0 (a b : List Int) (ha : a.length ≤ 1048576) (hga : InR 1 60 a) (x y : Int) (hx : 1 ≤ x ∧ x ≤ 60) (r : List Int × Bool) : ∀ (d j : Nat) (acc : List Int), a.length - j = d → j ≤ a.length → acc.length ≤ j → Ev (fun k => impl_GlueOf.l1 k y (acc ++ (a.drop j).map (fun g => x * g)) b (b.length : Int) 0) r → Ev (fun k => impl_GlueOf.l0 k x y acc a (a.length : Int) (j : Int) b) r := by
 intro d
 induction d with
 | zero =>
  intro j acc hd hj hac hr
  rw [List.drop_of_length_le (by omega), List.map_nil, List.append_nil] at hr
  refine Ev.step (fun _ => impl_GlueOf.l0.eq_2 ..) ?_
  exact Ev.neg (by omega) hr
 | succ d ih =>
  intro j acc hd hj hac hr
  have hlt : j < a.length := by omega
  have hbd := mul_bd hx (hga _ (List.getElem_mem hlt))
  refine Ev.step (fun _ => impl_GlueOf.l0.eq_2 ..) ?_
  refine Ev.pos (by omega) ?_
  refine Ev.pos (by omega) ?_
  refine Ev.pos (by omega) ?_
  refine Ev.pos (by omega) ?_
  rw [w64s (by omega), rd_get hlt, w64 (by omega) (by omega)]
  refine ih (j + 1) _ (by omega) (by omega) (by simp <;> omega) ?_
  rw [drop_cons hlt, List.map_cons] at hr
  rw [List.append_assoc, List.singleton_append]
  exact hr
theorem iGL (a b : List Int) (x y : Int) (ha : a.length ≤ 1048576) (hb : b.length ≤ 1048576) : ∃ r, Ev (fun k => impl_GlueOf.f k a b x y) r ∧ GL a b x y r := by
 by_cases h : GC a b x y
 ·obtain ⟨⟨h1, h2⟩, ⟨h3, h4⟩, ⟨h5, h6⟩, h7⟩ := h
  have la := h2.1.le
  have lb := h1.1.le
  obtain ⟨r, r1, r2⟩ := iFG (GlueL a b x y) (by unfold GlueL; simp <;> omega)
  refine ⟨r, ?_, .inl ⟨⟨⟨h1, h2⟩, ⟨h3, h4⟩, ⟨h5, h6⟩, h7⟩, r2⟩⟩
  unfold impl_GlueOf.f
  refine Ev.bind ((iContains b hb x).yes h1) (Ev.pos rfl ?_)
  refine Ev.bind ((iHasNum b x (by omega)).no h3) (Ev.neg (by simp) ?_)
  refine Ev.bind ((iContains a ha y).yes h2) (Ev.pos rfl ?_)
  refine Ev.bind ((iHasNum a y (by omega)).no h4) ?_
  refine Ev.step (fun _ => impl_GlueOf.j0.eq_2 ..) ?_
  refine Ev.neg (by simp) ?_
  refine Ev.call (within_yes h5) (Ev.pos rfl ?_)
  refine Ev.call (within_yes h6) (Ev.pos rfl ?_)
  have hg := iGcd x.natAbs y.natAbs (by omega) (by omega)
  rw [Int.natAbs_of_nonneg (by omega), Int.natAbs_of_nonneg (by omega), h7] at hg
  refine Ev.bind hg ?_
  refine Ev.step (fun _ => impl_GlueOf.j1.eq_2 ..) ?_
  refine Ev.neg (by simp) ?_
  refine iGL_l0 a b ha h2.1.rng x y h5 r a.length 0 [] (by omega) (by omega) (by simp) ?_
  refine iGL_l1 b hb h1.1.rng y h6 r a.length (by omega) b.length 0 _ (by omega) (by omega) (by simp) ?_
  simpa [GlueL] using r1
 ·refine ⟨([], false), ?_, .inr ⟨h, rfl⟩⟩
  have no : Ev (fun k => impl_GlueOf.j0 k x y true a b) ([], false) := Ev.step (fun _ => impl_GlueOf.j0.eq_2 ..) (Ev.pos rfl (Ev.now _))
  have no1 : Ev (fun k => impl_GlueOf.j1 k x y true a b) ([], false) := Ev.step (fun _ => impl_GlueOf.j1.eq_2 ..) (Ev.pos rfl (Ev.now _))
  unfold impl_GlueOf.f
  by_cases h1 : Elem b x
  case neg => exact Ev.bind ((iContains b hb x).no h1) (Ev.neg (by simp) no)
  refine Ev.bind ((iContains b hb x).yes h1) (Ev.pos rfl ?_)
  by_cases h3 : x ∈ b
  case pos => exact Ev.bind ((iHasNum b x (by omega)).yes h3) (Ev.pos rfl no)
  refine Ev.bind ((iHasNum b x (by omega)).no h3) (Ev.neg (by simp) ?_)
  by_cases h2 : Elem a y
  case neg => exact Ev.bind ((iContains a ha y).no h2) (Ev.neg (by simp) no)
  refine Ev.bind ((iContains a ha y).yes h2) (Ev.pos rfl ?_)
  by_cases h4 : y ∈ a
  case pos => exact Ev.bind ((iHasNum a y (by omega)).yes h4) no
  refine Ev.bind ((iHasNum a y (by omega)).no h4) ?_
  refine Ev.step (fun _ => impl_GlueOf.j0.eq_2 ..) ?_
  refine Ev.neg (by simp) ?_
  by_cases h5 : 1 ≤ x ∧ x ≤ 60
  case neg => exact Ev.call (within_no h5) (Ev.neg (by simp) no1)
  refine Ev.call (within_yes h5) (Ev.pos rfl ?_)
  by_cases h6 : 1 ≤ y ∧ y ≤ 60
  case neg => exact Ev.call (within_no h6) (Ev.neg (by simp) no1)
  refine Ev.call (within_yes h6) (Ev.pos rfl ?_)
  have hg := iGcd x.natAbs y.natAbs (by omega) (by omega)
  rw [Int.natAbs_of_nonneg (by omega), Int.natAbs_of_nonneg (by omega)] at hg
  refine Ev.bind hg ?_
  rw [show ((((Nat.gcd x.natAbs y.natAbs : Nat) : Int)) != 1) = true by
   rw [bne_iff_ne]
   intro e
   exact h ⟨⟨h1, h2⟩, ⟨h3, h4⟩, ⟨h5, h6⟩, by exact_mod_cast e⟩]
  exact no1
end Go.Proofs.Ytbjbolblahlhcaa.FFnExactGlueFrobenius
