/- Part 14 of the claim for FnArf, of the chain from the printed contracts and the plain laws to the row. It has no condition of its own. -/
import Derived.Test.YtddgegejeoihaaaG13ZFnArf
import Derived.Test.YtddgegejeoihaaaG1ZFnArf
import Derived.Test.YtddgegejeoihaaaG2ZFnArf
import Derived.Test.YtddgegejeoihaaaG3ZFnArf
import Derived.Test.YtddgegejeoihaaaG4ZFnArf
import Derived.Test.YtddgegejeoihaaaG5ZFnArf
import Derived.Test.YtddgegejeoihaaaG6ZFnArf
import Derived.Test.YtddgegejeoihaaaG7ZFnArf
import Derived.Test.YtddgegejeoihaaaG8ZFnArf
import Derived.Test.YtddgegejeoihaaaG9ZFnArf
import Derived.Test.YtddgegejeoihaaaG10ZFnArf
import Derived.Test.YtddgegejeoihaaaG11ZFnArf
import Derived.Test.YtddgegejeoihaaaG12ZFnArf
section
namespace Go.Proofs.Ytddgegejeoihaaa.M
open Go Go.RowKit Go.Proofs.YtddgegejeoihaaaW.PrintWords
theorem Ev.pos {α : Type} {c : Prop} [Decidable c] {A B : Nat → Option α} {r : α} (h : c) (k : Ev A r) : Ev (fun n => if c then A n else B n) r := by
 simpa only [if_pos h] using k
theorem Ev.neg {α : Type} {c : Prop} [Decidable c] {A B : Nat → Option α} {r : α} (h : ¬ c) (k : Ev B r) : Ev (fun n => if c then A n else B n) r := by
 simpa only [if_neg h] using k
theorem Ev.call {α β : Type} {g : Option α} {f : Nat → α → Option β} {a : α} {r : β} (h : g = some a) (k : Ev (fun n => f n a) r) : Ev (fun n => g.bind (f n)) r := by
 subst h; exact k
theorem Ev.same {α : Type} {g : Nat → Option α} {r r' : α} (h : Ev g r) (h' : Ev g r') : r = r' := by
 obtain ⟨K, h⟩ := h
 obtain ⟨K', h'⟩ := h'
 have h1 := h (max K K') (Nat.le_max_left _ _)
 have h2 := h' (max K K') (Nat.le_max_right _ _)
 rw [h1] at h2
 exact Option.some.inj h2
def EvB (g : Nat → Option Bool) (P : Prop) : Prop := ∃ b : Bool, Ev g b ∧ (b = true ↔ P)
theorem EvB.iff {g : Nat → Option Bool} {P Q : Prop} (h : EvB g P) (k : P ↔ Q) : EvB g Q := by
 obtain ⟨b, h1, h2⟩ := h
 exact ⟨b, h1, h2.trans k⟩
theorem EvB.yes {g : Nat → Option Bool} {P : Prop} (h : EvB g P) (k : P) : Ev g true := by
 obtain ⟨b, h1, h2⟩ := h
 rw [h2.2 k] at h1; exact h1
theorem EvB.no {g : Nat → Option Bool} {P : Prop} (h : EvB g P) (k : ¬ P) : Ev g false := by
 obtain ⟨b, h1, h2⟩ := h
 cases b with
 | false => exact h1
 | true => exact absurd (h2.1 rfl) k
theorem EvB.of_true {g : Nat → Option Bool} {P : Prop} (h : Ev g true) (k : P) : EvB g P := ⟨true, h, by simp [k]⟩
theorem EvB.of_false {g : Nat → Option Bool} {P : Prop} (h : Ev g false) (k : ¬ P) : EvB g P := ⟨false, h, by simp [k]⟩
theorem EvB.step {g f : Nat → Option Bool} {P : Prop} (h : ∀ k, g (k + 1) = f k) (k : EvB f P) : EvB g P := by
 obtain ⟨b, h1, h2⟩ := k
 exact ⟨b, Ev.step h h1, h2⟩
theorem EvB.pos {c : Prop} [Decidable c] {A B : Nat → Option Bool} {P : Prop} (h : c) (k : EvB A P) : EvB (fun n => if c then A n else B n) P := by
 obtain ⟨b, h1, h2⟩ := k
 exact ⟨b, Ev.pos h h1, h2⟩
theorem EvB.neg {c : Prop} [Decidable c] {A B : Nat → Option Bool} {P : Prop} (h : ¬ c) (k : EvB B P) : EvB (fun n => if c then A n else B n) P := by
 obtain ⟨b, h1, h2⟩ := k
 exact ⟨b, Ev.neg h h1, h2⟩
theorem EvB.bind {α : Type} {g : Nat → Option α} {f : Nat → α → Option Bool} {a : α} {P : Prop} (h : Ev g a) (k : EvB (fun n => f n a) P) : EvB (fun n => (g n).bind (f n)) P := by
 obtain ⟨b, h1, h2⟩ := k
 exact ⟨b, Ev.bind h h1, h2⟩
theorem EvB.call {α : Type} {g : Option α} {f : Nat → α → Option Bool} {a : α} {P : Prop} (h : g = some a) (k : EvB (fun n => f n a) P) : EvB (fun n => g.bind (f n)) P := by
 subst h; exact k
theorem EvB.dec {c : Prop} [Decidable c] {P : Prop} (h : c ↔ P) : EvB (fun _ => some (decide c)) P := ⟨decide c, Ev.now _, by simpa using h⟩
theorem w64 {x : Int} (h1 : -9223372036854775808 ≤ x) (h2 : x ≤ 9223372036854775807) : wrap64 x = x := by unfold wrap64; omega
theorem w64s {j : Nat} (h : j < 9223372036854775807) : wrap64 ((j : Int) + 1) = ((j + 1 : Nat) : Int) := by unfold wrap64; omega
theorem w64p {j : Nat} (h : 1 ≤ j) (h2 : j ≤ 9223372036854775807) : wrap64 ((j : Int) - 1) = ((j - 1 : Nat) : Int) := by unfold wrap64; omega
theorem rd_nat (xs : List Int) (i : Nat) : rd xs (i : Int) = xs.getD i 0 := by simp [rd]
theorem rdOf_nat {α : Type} (d : α) (xs : List α) (i : Nat) : rdOf d xs (i : Int) = xs.getD i d := by simp [rdOf]
theorem rd_get {xs : List Int} {i : Nat} (h : i < xs.length) : rd xs (i : Int) = xs[i] := by rw [rd_nat, List.getD_eq_getElem?_getD, List.getElem?_eq_getElem h]; rfl
theorem getD_get {α : Type} {d : α} {xs : List α} {i : Nat} (h : i < xs.length) : xs.getD i d = xs[i] := by rw [List.getD_eq_getElem?_getD, List.getElem?_eq_getElem h]; rfl
theorem rd_mem {xs : List Int} {i : Nat} (h : i < xs.length) : rd xs (i : Int) ∈ xs := by rw [rd_get h]; exact List.getElem_mem h
theorem drop_cons {α : Type} {xs : List α} {i : Nat} (h : i < xs.length) : xs.drop i = xs[i] :: xs.drop (i + 1) := List.drop_eq_getElem_cons h
theorem take_snoc' {α : Type} {xs : List α} {i : Nat} (h : i < xs.length) : xs.take (i + 1) = xs.take i ++ [xs[i]] := by rw [List.take_succ_eq_append_getElem h]
theorem tmod_pos {a b : Int} (h : 0 ≤ a) : Int.tmod a b = a % b := Int.tmod_eq_emod_of_nonneg h
theorem asc_ext : ∀ {s t : List Int}, s.Pairwise (· < ·) → t.Pairwise (· < ·) → (∀ x, x ∈ s ↔ x ∈ t) → s = t
 | [], [], _, _, _ => rfl
 | [], y :: t, _, _, h => by have := (h y).2 List.mem_cons_self; simp at this
 | x :: s, [], _, _, h => by have := (h x).1 List.mem_cons_self; simp at this
 | x :: s, y :: t, hs, ht, h => by
  obtain ⟨hs1, hs2⟩ := List.pairwise_cons.1 hs
  obtain ⟨ht1, ht2⟩ := List.pairwise_cons.1 ht
  have hxy : x = y := by
   rcases List.mem_cons.1 ((h x).1 List.mem_cons_self) with e | e
   ·exact e
   ·rcases List.mem_cons.1 ((h y).2 List.mem_cons_self) with e' | e'
    ·exact e'.symm
    ·have := ht1 x e; have := hs1 y e'; omega
  subst hxy
  congr 1
  refine asc_ext hs2 ht2 fun z => ⟨fun hz => ?_, fun hz => ?_⟩
  ·rcases List.mem_cons.1 ((h z).1 (List.mem_cons_of_mem _ hz)) with e | e
   ·subst e; have := hs1 z hz; omega
   ·exact e
  ·rcases List.mem_cons.1 ((h z).2 (List.mem_cons_of_mem _ hz)) with e | e
   ·subst e; have := ht1 z hz; omega
   ·exact e
theorem pairwise_of_adj {s : List Int} (h : ∀ i : Nat, i + 1 < s.length → s.getD i 0 < s.getD (i + 1) 0) : s.Pairwise (· < ·) := by
 rw [List.pairwise_iff_getElem]
 intro i j hi hj hij
 induction j with
 | zero => omega
 | succ j ih =>
  have h1 := h j (by omega)
  rw [getD_get (by omega), getD_get (by omega)] at h1
  rcases Nat.lt_or_ge i j with hlt | hge
  ·exact Int.lt_trans (ih (by omega) hlt) h1
  ·have : i = j := by omega
   subst this; exact h1
theorem adj_of_pairwise {s : List Int} (h : s.Pairwise (· < ·)) {i : Nat} (hi : i + 1 < s.length) : s.getD i 0 < s.getD (i + 1) 0 := by
 rw [getD_get (by omega), getD_get (by omega)]
 exact List.pairwise_iff_getElem.1 h i (i + 1) (by omega) (by omega) (by omega)
theorem sum_set (f : Int → Nat) : ∀ (R : List Int) (i : Nat) (h : i < R.length) (v : Int), ((R.set i v).map f).sum + f R[i] = (R.map f).sum + f v
 | [], i, h, v => by simp at h
 | x :: R, 0, h, v => by simp; omega
 | x :: R, i + 1, h, v => by
  have := sum_set f R i (by simpa using h) v
  simp only [List.set_cons_succ, List.map_cons, List.sum_cons, List.getElem_cons_succ]
  omega
theorem sum_le_len (f : Int → Nat) (hf : ∀ x, f x ≤ 1) (R : List Int) : (R.map f).sum ≤ R.length := by
 induction R with
 | nil => simp
 | cons x R ih => have := hf x; simp only [List.map_cons, List.sum_cons, List.length_cons]; omega
theorem InR.mono {lo hi lo' hi' : Int} {l : List Int} (h : InR lo hi l) (h1 : lo' ≤ lo) (h2 : hi ≤ hi') : InR lo' hi' l := fun x hx => ⟨by have := h x hx; omega, by have := h x hx; omega⟩
theorem InR.sub {lo hi : Int} {l l' : List Int} (h : InR lo hi l) (hs : ∀ x ∈ l', x ∈ l) : InR lo hi l' := fun x hx => h x (hs x hx)
end Go.Proofs.Ytddgegejeoihaaa.M
end
section
namespace Go.Proofs.Ytddgegejeoihaaa.PFnArf
open Go.RowKit Go.Proofs.YtddgegejeoihaaaW.PrintWords Go.Proofs.YtddgegejeoihaaaW.PrintLast Go.Proofs.YtddgegejeoihaaaW.PrintMore
open Go.Proofs.Ytddgegejeoihaaa.SortW (bk_ kr_ t_ f_)
open Go.Proofs.Ytddgegejeoihaaa.SqW
attribute [local go_sem] max2_int min2_int max_two min_two max_three min_three max_four min_four
set_option maxHeartbeats 8000000
set_option maxRecDepth 100000
set_option linter.unusedVariables false
set_option linter.unusedSimpArgs false
end Go.Proofs.Ytddgegejeoihaaa.PFnArf
end
section
namespace Go.Proofs.Ytddgegejeoihaaa.FFnArf
open Go Go.RowKit Go.Proofs.YtddgegejeoihaaaW.PrintWords Go.Proofs.Ytddgegejeoihaaa.M Go.Proofs.Ytddgegejeoihaaa.PFnArf
theorem l1In (a lo hi : Int) : spec_l1In.f a lo hi = some (decide (lo ≤ a ∧ a ≤ hi)) := by
 unfold spec_l1In.f
 by_cases h : a ≥ lo
 ·rw [if_pos h]; congr 1; simp only [decide_eq_decide]; omega
 ·rw [if_neg h]; congr 1; symm; rw [decide_eq_false_iff_not]; omega
theorem within (a lo hi : Int) : impl_within.f a lo hi = some (decide (lo ≤ a ∧ a ≤ hi)) := by
 unfold impl_within.f
 by_cases h : a ≥ lo
 ·rw [if_pos h]; congr 1; simp only [decide_eq_decide]; omega
 ·rw [if_neg h]; congr 1; symm; rw [decide_eq_false_iff_not]; omega
theorem within_yes {a lo hi : Int} (h : lo ≤ a ∧ a ≤ hi) : impl_within.f a lo hi = some true := by rw [within, decide_eq_true h]
theorem within_no {a lo hi : Int} (h : ¬ (lo ≤ a ∧ a ≤ hi)) : impl_within.f a lo hi = some false := by rw [within, decide_eq_false h]
theorem InR_drop {lo hi : Int} {l : List Int} {j : Nat} (h : j < l.length) : InR lo hi (l.drop j) ↔ (lo ≤ l[j] ∧ l[j] ≤ hi) ∧ InR lo hi (l.drop (j + 1)) := by
 unfold InR
 rw [drop_cons h]
 simp only [List.mem_cons, forall_eq_or_imp]
theorem InR_nil (lo hi : Int) : InR lo hi [] := fun _ h => by simp at h
theorem l3Gens_l0 (l : List Int) (hl : l.length ≤ 4611686018427387904) : ∀ (d j : Nat), l.length - j = d → j ≤ l.length → EvB (fun k => spec_l3Gens.l0 k l (j : Int)) (InR 1 60 (l.drop j) ∧ 1 ≤ l.length ∧ l.length ≤ 20) := by
 intro d
 induction d with
 | zero =>
  intro j hd hj
  refine EvB.step (fun _ => spec_l3Gens.l0.eq_2 ..) ?_
  refine EvB.neg (by omega) ?_
  refine EvB.call (l1In _ _ _) ?_
  refine EvB.dec ?_
  have : j = l.length := by omega
  subst this
  simp [InR_nil]; omega
 | succ d ih =>
  intro j hd hj
  have hlt : j < l.length := by omega
  refine EvB.step (fun _ => spec_l3Gens.l0.eq_2 ..) ?_
  refine EvB.pos (by omega) ?_
  refine EvB.pos (by omega) ?_
  refine EvB.call (l1In _ _ _) ?_
  rw [rd_get hlt]
  by_cases h : 1 ≤ l[j] ∧ l[j] ≤ 60
  ·refine EvB.pos (by simpa using h) ?_
   rw [w64s (by omega)]
   refine (ih (j + 1) (by omega) (by omega)).iff ?_
   rw [InR_drop hlt]; simp [h]
  ·refine EvB.neg (by simpa using h) ?_
   refine EvB.of_false (Ev.now _) ?_
   rw [InR_drop hlt]
   exact fun h' => h h'.1.1
def Use (l : List Int) : Prop := InR 1 60 l ∧ 1 ≤ l.length ∧ l.length ≤ 20
theorem l3Gens (l : List Int) (hl : l.length ≤ 4611686018427387904) : EvB (fun k => spec_l3Gens.f k l) (Use l) := by
 have := l3Gens_l0 l hl l.length 0 (by omega) (by omega)
 exact this
theorem allWithin_l0 (lo hi : Int) (l : List Int) (hl : l.length ≤ 4611686018427387904) : ∀ (d j : Nat), l.length - j = d → j ≤ l.length → EvB (fun k => impl_allWithin.l0 k lo hi l (l.length : Int) (j : Int)) (InR lo hi (l.drop j)) := by
 intro d
 induction d with
 | zero =>
  intro j hd hj
  refine EvB.step (fun _ => impl_allWithin.l0.eq_2 ..) ?_
  refine EvB.neg (by omega) ?_
  refine EvB.of_true (Ev.now _) ?_
  have : j = l.length := by omega
  subst this
  simp [InR_nil]
 | succ d ih =>
  intro j hd hj
  have hlt : j < l.length := by omega
  refine EvB.step (fun _ => impl_allWithin.l0.eq_2 ..) ?_
  refine EvB.pos (by omega) ?_
  refine EvB.pos (by omega) ?_
  refine EvB.pos (by omega) ?_
  refine EvB.call (within _ _ _) ?_
  rw [rd_get hlt]
  by_cases h : lo ≤ l[j] ∧ l[j] ≤ hi
  ·refine EvB.pos (by simpa using h) ?_
   rw [w64s (by omega)]
   refine (ih (j + 1) (by omega) (by omega)).iff ?_
   rw [InR_drop hlt]; simp [h]
  ·refine EvB.neg (by simpa using h) ?_
   refine EvB.of_false (Ev.now _) ?_
   rw [InR_drop hlt]
   exact fun h' => h h'.1
theorem allWithin (lo hi : Int) (l : List Int) (hl : l.length ≤ 4611686018427387904) : EvB (fun k => impl_allWithin.f k l lo hi) (InR lo hi l) :=
 allWithin_l0 lo hi l hl l.length 0 (by omega) (by omega)
theorem usable (l : List Int) (hl : l.length ≤ 4611686018427387904) : EvB (fun k => impl_usable.f k l) (Use l) := by
 show EvB (fun k => (impl_within.f (l.length : Int) 1 20).bind fun t => (if t = true then ((impl_allWithin.f k l 1 60).bind fun t' => some t') else (some false))) _
 refine EvB.call (within _ _ _) ?_
 by_cases h : (1 : Int) ≤ l.length ∧ (l.length : Int) ≤ 20
 ·refine EvB.pos (by simpa using h) ?_
  obtain ⟨b, hb, hP⟩ := allWithin 1 60 l hl
  refine EvB.bind hb ⟨b, Ev.now _, hP.trans ?_⟩
  unfold Use
  constructor
  ·intro k; exact ⟨k, by omega, by omega⟩
  ·intro k; exact k.1
 ·refine EvB.neg (by simpa using h) ?_
  refine EvB.of_false (Ev.now _) ?_
  unfold Use; omega
theorem l1Max (a b : Int) : spec_l1Max.f a b = some (max a b) := by
 unfold spec_l1Max.f
 split
 ·congr 1; omega
 ·congr 1; omega
theorem l2Small (a : Int) : spec_l2Small.f a = some (decide (-1000000 ≤ a ∧ a ≤ 1000000)) := by
 unfold spec_l2Small.f
 rw [l1In]; rfl
theorem tmod_nat (a b : Nat) : Int.tmod (a : Int) (b : Int) = ((a % b : Nat) : Int) := by rw [tmod_pos (by omega)]; rfl
theorem sGcd_l0 : ∀ (b a : Nat), Ev (fun k => spec_GcdOf.l0 k (a : Int) (b : Int)) ((Nat.gcd a b : Nat) : Int) := by
 intro b
 induction b using Nat.strongRecOn with
 | _ b ih =>
  intro a
  refine Ev.step (fun _ => spec_GcdOf.l0.eq_2 ..) ?_
  by_cases h : b = 0
  ·subst h
   refine Ev.neg (by omega) ?_
   rw [Nat.gcd_zero_right]; exact Ev.now _
  ·refine Ev.pos (by omega) ?_
   refine Ev.neg (by omega) ?_
   rw [tmod_nat, Nat.gcd_comm a b, Nat.gcd_rec b a, Nat.gcd_comm]
   exact ih (a % b) (Nat.mod_lt _ (by omega)) b
theorem sGcd (a b : Nat) (ha : a ≤ 1000000) (hb : b ≤ 1000000) : Ev (fun k => spec_GcdOf.f k (a : Int) (b : Int)) ((Nat.gcd a b : Nat) : Int) := by
 show Ev (fun k => (spec_l2Small.f a).bind fun t => (if t = true then ((spec_l2Small.f b).bind fun t' => (spec_GcdOf.j0 k a b (!t'))) else (spec_GcdOf.j0 k a b true))) _
 refine Ev.call (l2Small _) ?_
 refine Ev.pos (by simp; omega) ?_
 refine Ev.call (l2Small _) ?_
 rw [decide_eq_true (show -1000000 ≤ (b : Int) ∧ (b : Int) ≤ 1000000 by omega)]
 refine Ev.step (fun _ => spec_GcdOf.j0.eq_2 ..) ?_
 refine Ev.neg (by simp) ?_
 refine Ev.call (l1Max _ _) ?_
 refine Ev.call (l1Max _ _) ?_
 rw [w64 (by omega) (by omega), w64 (by omega) (by omega), show max (a : Int) (-a) = (a : Int) by omega, show max (b : Int) (-b) = (b : Int) by omega]
 exact sGcd_l0 b a
theorem iGcd_l0 : ∀ (a b : Nat), Ev (fun k => impl_GcdOf.l0 k (a : Int) (b : Int)) ((Nat.gcd a b : Nat) : Int) := by
 intro a
 induction a using Nat.strongRecOn with
 | _ a ih =>
  intro b
  refine Ev.step (fun _ => impl_GcdOf.l0.eq_2 ..) ?_
  by_cases h : a = 0
  ·subst h
   refine Ev.pos (by omega) ?_
   rw [Nat.gcd_zero_left]; exact Ev.now _
  ·refine Ev.neg (by omega) ?_
   rw [tmod_nat, Nat.gcd_rec a b]
   exact ih (b % a) (Nat.mod_lt _ (by omega)) a
theorem iGcd (a b : Nat) (ha : a ≤ 1000000) (hb : b ≤ 1000000) : Ev (fun k => impl_GcdOf.f k (a : Int) (b : Int)) ((Nat.gcd a b : Nat) : Int) := by
 show Ev (fun k => (impl_allWithin.f k (([(a : Int), (b : Int)] : List Int)) (-1000000) 1000000).bind fun t => (if t = true then (impl_GcdOf.l0 k (mx a (wrap64 (-(a : Int)))) (mx b (wrap64 (-(b : Int))))) else (some 0))) _
 refine Ev.bind ((allWithin (-1000000) 1000000 [(a : Int), (b : Int)] (by simp)).yes ?_) ?_
 ·intro x hx
  simp at hx
  omega
 ·refine Ev.pos rfl ?_
  rw [w64 (by omega) (by omega), w64 (by omega) (by omega), show mx (a : Int) (-(a : Int)) = (a : Int) by unfold mx; omega, show mx (b : Int) (-(b : Int)) = (b : Int) by unfold mx; omega]
  exact iGcd_l0 a b
theorem gcdL_take {l : List Int} {j : Nat} (h : j < l.length) : gcdL (l.take (j + 1)) = Nat.gcd (gcdL (l.take j)) (l[j]).natAbs := by rw [take_snoc' h, gcdL_snoc]
theorem sGcdList_l0 (l : List Int) (hl : l.length ≤ 4611686018427387904) (hr : InR 1 1000000 l) : ∀ (d j : Nat), l.length - j = d → j ≤ l.length → gcdL (l.take j) ≤ 1000000 → Ev (fun k => spec_GcdOfList.l0 k l ((gcdL (l.take j) : Nat) : Int) (j : Int)) ((gcdL l : Nat) : Int) := by
 intro d
 induction d with
 | zero =>
  intro j hd hj hg
  refine Ev.step (fun _ => spec_GcdOfList.l0.eq_2 ..) ?_
  refine Ev.neg (by omega) ?_
  rw [List.take_of_length_le (by omega)]
  exact Ev.now _
 | succ d ih =>
  intro j hd hj hg
  have hlt : j < l.length := by omega
  have hx := hr _ (List.getElem_mem hlt)
  refine Ev.step (fun _ => spec_GcdOfList.l0.eq_2 ..) ?_
  refine Ev.pos (by omega) ?_
  refine Ev.pos (by omega) ?_
  rw [rd_get hlt]
  have e : l[j] = ((l[j].natAbs : Nat) : Int) := by omega
  refine Ev.bind (a := ((gcdL (l.take (j + 1)) : Nat) : Int)) ?_ ?_
  ·rw [gcdL_take hlt]
   have := sGcd (gcdL (l.take j)) l[j].natAbs hg (by omega)
   rwa [← e] at this
  ·rw [w64s (by omega)]
   refine ih (j + 1) (by omega) (by omega) ?_
   rw [gcdL_take hlt]
   have := Nat.gcd_le_right (gcdL (l.take j)) (show 0 < l[j].natAbs by omega)
   omega
theorem sGcdList (l : List Int) (hl : l.length ≤ 4611686018427387904) (hr : InR 1 1000000 l) : Ev (fun k => spec_GcdOfList.f k l) ((gcdL l : Nat) : Int) :=
 sGcdList_l0 l hl hr l.length 0 (by omega) (by omega) (by simp [gcdL])
theorem iGcdList_l0 (l : List Int) (hl : l.length ≤ 4611686018427387904) (hr : InR 1 1000000 l) : ∀ (d j : Nat), l.length - j = d → j ≤ l.length → gcdL (l.take j) ≤ 1000000 → Ev (fun k => impl_GcdOfList.l0 k ((gcdL (l.take j) : Nat) : Int) l (l.length : Int) (j : Int)) ((gcdL l : Nat) : Int) := by
 intro d
 induction d with
 | zero =>
  intro j hd hj hg
  refine Ev.step (fun _ => impl_GcdOfList.l0.eq_2 ..) ?_
  refine Ev.neg (by omega) ?_
  rw [List.take_of_length_le (by omega)]
  exact Ev.now _
 | succ d ih =>
  intro j hd hj hg
  have hlt : j < l.length := by omega
  have hx := hr _ (List.getElem_mem hlt)
  refine Ev.step (fun _ => impl_GcdOfList.l0.eq_2 ..) ?_
  refine Ev.pos (by omega) ?_
  refine Ev.pos (by omega) ?_
  refine Ev.pos (by omega) ?_
  rw [rd_get hlt]
  have e : l[j] = ((l[j].natAbs : Nat) : Int) := by omega
  refine Ev.bind (a := ((gcdL (l.take (j + 1)) : Nat) : Int)) ?_ ?_
  ·rw [gcdL_take hlt]
   have := iGcd (gcdL (l.take j)) l[j].natAbs hg (by omega)
   rwa [← e] at this
  ·rw [w64s (by omega)]
   refine ih (j + 1) (by omega) (by omega) ?_
   rw [gcdL_take hlt]
   have := Nat.gcd_le_right (gcdL (l.take j)) (show 0 < l[j].natAbs by omega)
   omega
theorem iGcdList (l : List Int) (hl : l.length ≤ 4611686018427387904) (hr : InR 1 1000000 l) : Ev (fun k => impl_GcdOfList.f k l) ((gcdL l : Nat) : Int) :=
 iGcdList_l0 l hl hr l.length 0 (by omega) (by omega) (by simp [gcdL])
theorem sAsc_l0 (l : List Int) (hl : l.length ≤ 4611686018427387904) : ∀ (d j : Nat), l.length - j = d → 1 ≤ j → EvB (fun k => spec_IsAscending.l0 k l (j : Int)) (∀ i : Nat, j ≤ i + 1 → i + 1 < l.length → l.getD i 0 < l.getD (i + 1) 0) := by
 intro d
 induction d with
 | zero =>
  intro j hd hj
  refine EvB.step (fun _ => spec_IsAscending.l0.eq_2 ..) ?_
  refine EvB.neg (by omega) ?_
  exact EvB.of_true (Ev.now _) fun i h1 h2 => by omega
 | succ d ih =>
  intro j hd hj
  have hlt : j < l.length := by omega
  refine EvB.step (fun _ => spec_IsAscending.l0.eq_2 ..) ?_
  rw [w64p hj (by omega)]
  refine EvB.pos (by omega) ?_
  refine EvB.pos (by omega) ?_
  refine EvB.pos (by omega) ?_
  refine EvB.pos (by omega) ?_
  rw [rd_nat, rd_nat]
  by_cases h : l.getD (j - 1) 0 ≥ l.getD j 0
  ·refine EvB.pos h ?_
   refine EvB.of_false (Ev.now _) fun h' => ?_
   have := h' (j - 1) (by omega) (by omega)
   rw [show j - 1 + 1 = j by omega] at this
   omega
  ·refine EvB.neg h ?_
   rw [w64s (by omega)]
   refine (ih (j + 1) (by omega) (by omega)).iff ⟨fun h' i h1 h2 => ?_, fun h' i h1 h2 => h' i (by omega) h2⟩
   rcases Nat.lt_or_ge j (i + 1) with h3 | h3
   ·exact h' i (by omega) h2
   ·have : i = j - 1 := by omega
    subst this
    rw [show j - 1 + 1 = j by omega]
    omega
theorem iAsc_l0 (l : List Int) (hl : l.length ≤ 4611686018427387904) : ∀ (d j : Nat), l.length - j = d → 1 ≤ j → EvB (fun k => impl_IsAscending.l0 k l (j : Int)) (∀ i : Nat, j ≤ i + 1 → i + 1 < l.length → l.getD i 0 < l.getD (i + 1) 0) := by
 intro d
 induction d with
 | zero =>
  intro j hd hj
  refine EvB.step (fun _ => impl_IsAscending.l0.eq_2 ..) ?_
  refine EvB.neg (by omega) ?_
  exact EvB.of_true (Ev.now _) fun i h1 h2 => by omega
 | succ d ih =>
  intro j hd hj
  have hlt : j < l.length := by omega
  refine EvB.step (fun _ => impl_IsAscending.l0.eq_2 ..) ?_
  rw [w64p hj (by omega)]
  refine EvB.pos (by omega) ?_
  refine EvB.pos (by omega) ?_
  refine EvB.pos (by omega) ?_
  refine EvB.pos (by omega) ?_
  rw [rd_nat, rd_nat]
  by_cases h : l.getD j 0 ≤ l.getD (j - 1) 0
  ·refine EvB.pos h ?_
   refine EvB.of_false (Ev.now _) fun h' => ?_
   have := h' (j - 1) (by omega) (by omega)
   rw [show j - 1 + 1 = j by omega] at this
   omega
  ·refine EvB.neg h ?_
   rw [w64s (by omega)]
   refine (ih (j + 1) (by omega) (by omega)).iff ⟨fun h' i h1 h2 => ?_, fun h' i h1 h2 => h' i (by omega) h2⟩
   rcases Nat.lt_or_ge j (i + 1) with h3 | h3
   ·exact h' i (by omega) h2
   ·have : i = j - 1 := by omega
    subst this
    rw [show j - 1 + 1 = j by omega]
    omega
theorem asc_iff (l : List Int) : (∀ i : Nat, 1 ≤ i + 1 → i + 1 < l.length → l.getD i 0 < l.getD (i + 1) 0) ↔ l.Pairwise (· < ·) :=
 ⟨fun h => pairwise_of_adj fun i hi => h i (by omega) hi, fun h i _ hi => adj_of_pairwise h hi⟩
theorem sAsc (l : List Int) (hl : l.length ≤ 4611686018427387904) : EvB (fun k => spec_IsAscending.f k l) (l.Pairwise (· < ·)) :=
 (sAsc_l0 l hl (l.length - 1) 1 rfl (by omega)).iff (asc_iff l)
theorem iAsc (l : List Int) (hl : l.length ≤ 4611686018427387904) : EvB (fun k => impl_IsAscending.f k l) (l.Pairwise (· < ·)) :=
 (iAsc_l0 l hl (l.length - 1) 1 rfl (by omega)).iff (asc_iff l)
theorem l2Same_l0 (a b : List Int) (hl : a.length ≤ 4611686018427387904) (hab : a.length = b.length) : ∀ (d j : Nat), a.length - j = d → j ≤ a.length → EvB (fun k => spec_l2Same.l0 k a b (j : Int)) (a.drop j = b.drop j) := by
 intro d
 induction d with
 | zero =>
  intro j hd hj
  refine EvB.step (fun _ => spec_l2Same.l0.eq_2 ..) ?_
  refine EvB.neg (by omega) ?_
  refine EvB.of_true (Ev.now _) ?_
  rw [List.drop_of_length_le (by omega), List.drop_of_length_le (by omega)]
 | succ d ih =>
  intro j hd hj
  have hlt : j < a.length := by omega
  have hlt' : j < b.length := by omega
  refine EvB.step (fun _ => spec_l2Same.l0.eq_2 ..) ?_
  refine EvB.pos (by omega) ?_
  refine EvB.pos (by omega) ?_
  refine EvB.pos (by omega) ?_
  rw [rd_get hlt, rd_get hlt', drop_cons hlt, drop_cons hlt']
  by_cases h : a[j] = b[j]
  ·refine EvB.pos h ?_
   rw [w64s (by omega)]
   refine (ih (j + 1) (by omega) (by omega)).iff ?_
   rw [List.cons.injEq]
   exact ⟨fun k => ⟨h, k⟩, fun k => k.2⟩
  ·refine EvB.neg h ?_
   refine EvB.of_false (Ev.now _) ?_
   rw [List.cons.injEq]
   exact fun k => h k.1
theorem l2Same (a b : List Int) (hl : a.length ≤ 4611686018427387904) : EvB (fun k => spec_l2Same.f k a b) (a = b) := by
 show EvB (fun k => if (a.length : Int) = (b.length : Int) then (spec_l2Same.l0 k a b 0) else (some false)) _
 by_cases h : (a.length : Int) = (b.length : Int)
 ·refine EvB.pos h ?_
  exact l2Same_l0 a b hl (by omega) a.length 0 (by omega) (by omega)
 ·refine EvB.neg h ?_
  exact EvB.of_false (Ev.now _) (by rintro rfl; exact h rfl)
end Go.Proofs.Ytddgegejeoihaaa.FFnArf
end
section
namespace Go.Proofs.Ytddgegejeoihaaa.FFnArf
open Go Go.RowKit Go.Proofs.YtddgegejeoihaaaW.PrintWords Go.Proofs.Ytddgegejeoihaaa.M Go.Proofs.Ytddgegejeoihaaa.PFnArf
theorem getD_set {α : Type} (t : List α) (i m : Nat) (v d : α) (hi : i < t.length) : (t.set i v).getD m d = if m = i then v else t.getD m d := by
 rw [List.getD_eq_getElem?_getD, List.getD_eq_getElem?_getD, List.getElem?_set]
 by_cases h : i = m
 ·subst h; simp [hi]
 ·rw [if_neg h, if_neg (fun e => h e.symm)]
theorem l3Table_l1 (g : List Int) (hl : g.length ≤ 4611686018427387904) (hg : InR 1 1000000 g) (N n : Nat) (hn1 : 1 ≤ n) (hn : n ≤ N) (hN : N ≤ 1000000) : ∀ (d j : Nat) (t : List Bool), g.length - j = d → j ≤ g.length → t.length = N + 1 →
 (∀ m : Nat, m ≤ N → m ≠ n → (t.getD m false = true ↔ m < n ∧ Sums g m)) → (t.getD n false = true ↔ ∃ x ∈ g.take j, x ≤ n ∧ Sums g (n - x)) →
 ∃ t' : List Bool, t'.length = N + 1 ∧ (∀ m : Nat, m ≤ N → (t'.getD m false = true ↔ m < n + 1 ∧ Sums g m)) ∧ ∀ r, Ev (fun k => spec_l3Table.l0 k g (N : Int) t' ((n + 1 : Nat) : Int)) r → Ev (fun k => spec_l3Table.l1 k g (N : Int) t (n : Int) (j : Int)) r := by
 intro d
 induction d with
 | zero =>
  intro j t hd hj ht hm hc
  have hj' : j = g.length := by omega
  subst hj'
  refine ⟨t, ht, fun m hmN => ?_, fun r hr => ?_⟩
  ·by_cases e : m = n
   ·subst e
    rw [hc, List.take_of_length_le (Nat.le_refl _)]
    have := Sums.step_le (g := g) (fun x hx => (hg x hx).1) (n := (m : Int))
    constructor
    ·intro h; exact ⟨by omega, this.2 (.inr h)⟩
    ·intro h; rcases this.1 h.2 with h0 | h0
     ·omega
     ·exact h0
   ·rw [hm m hmN e]
    constructor
    ·intro h; exact ⟨by omega, h.2⟩
    ·intro h; exact ⟨by omega, h.2⟩
  ·refine Ev.step (fun _ => spec_l3Table.l1.eq_2 ..) ?_
   refine Ev.neg (by omega) ?_
   rw [w64s (by omega)]
   exact hr
 | succ d ih =>
  intro j t hd hj ht hm hc
  have hlt : j < g.length := by omega
  have hx := hg _ (List.getElem_mem hlt)
  have htk : ∀ P : Int → Prop, (∃ x ∈ g.take (j + 1), P x) ↔ (∃ x ∈ g.take j, P x) ∨ P g[j] := by
   intro P
   rw [take_snoc' hlt]
   constructor
   ·rintro ⟨x, hx, h⟩
    rcases List.mem_append.1 hx with h1 | h1
    ·exact .inl ⟨x, h1, h⟩
    ·rw [List.mem_singleton] at h1; subst h1; exact .inr h
   ·rintro (⟨x, hx, h⟩ | h)
    ·exact ⟨x, List.mem_append_left _ hx, h⟩
    ·exact ⟨_, List.mem_append_right _ (List.mem_singleton.2 rfl), h⟩
  have go : ∀ t1 : List Bool, t1.length = N + 1 → (∀ m : Nat, m ≤ N → m ≠ n → (t1.getD m false = true ↔ m < n ∧ Sums g m)) → (t1.getD n false = true ↔ ∃ x ∈ g.take (j + 1), x ≤ n ∧ Sums g (n - x)) → (∀ r, Ev (fun k => spec_l3Table.l1 k g (N : Int) t1 (n : Int) ((j + 1 : Nat) : Int)) r → Ev (fun k => spec_l3Table.l1 k g (N : Int) t (n : Int) (j : Int)) r) →
   ∃ t' : List Bool, t'.length = N + 1 ∧ (∀ m : Nat, m ≤ N → (t'.getD m false = true ↔ m < n + 1 ∧ Sums g m)) ∧ ∀ r, Ev (fun k => spec_l3Table.l0 k g (N : Int) t' ((n + 1 : Nat) : Int)) r → Ev (fun k => spec_l3Table.l1 k g (N : Int) t (n : Int) (j : Int)) r := by
   intro t1 h1 h2 h3 h4
   have hd1 : g.length - (j + 1) = d := by clear h1 h2 h3 h4 ih hm hc htk hx; omega
   obtain ⟨t', a, b, c⟩ := ih (j + 1) t1 hd1 hlt h1 h2 h3
   exact ⟨t', a, b, fun r hr => h4 r (c r hr)⟩
  by_cases h : (n : Int) ≥ g[j]
  ·obtain ⟨q, hq⟩ : ∃ q : Nat, (n : Int) - g[j] = (q : Int) := ⟨((n : Int) - g[j]).toNat, by omega⟩
   have hqt := hm q (by omega) (by omega)
   by_cases hb : t.getD q false = true
   ·refine go (t.set n true) (by simpa using ht) (fun m hmN e => ?_) ?_ (fun r hr => ?_)
    ·rw [getD_set _ _ _ _ _ (by omega), if_neg e]; exact hm m hmN e
    ·rw [getD_set _ _ _ _ _ (by omega), if_pos rfl, htk]
     refine ⟨fun _ => .inr ⟨h, by rw [hq]; exact (hqt.1 hb).2⟩, fun _ => rfl⟩
    ·refine Ev.step (fun _ => spec_l3Table.l1.eq_2 ..) ?_
     refine Ev.pos (by omega) ?_
     refine Ev.pos (by omega) ?_
     rw [rd_get hlt]
     refine Ev.pos h ?_
     rw [hq, w64 (by omega) (by omega)]
     refine Ev.pos (by omega) ?_
     refine Ev.pos (by omega) ?_
     rw [rdOf_nat]
     refine Ev.pos hb ?_
     refine Ev.pos (by omega) ?_
     refine Ev.pos (by omega) ?_
     rw [w64s (by omega), Int.toNat_natCast]
     exact hr
   ·refine go t ht hm ?_ (fun r hr => ?_)
    ·rw [hc, htk]
     refine ⟨.inl, fun h' => h'.elim id fun h'' => ?_⟩
     exfalso
     rw [hq] at h''
     exact hb (hqt.2 ⟨by omega, h''.2⟩)
    ·refine Ev.step (fun _ => spec_l3Table.l1.eq_2 ..) ?_
     refine Ev.pos (by omega) ?_
     refine Ev.pos (by omega) ?_
     rw [rd_get hlt]
     refine Ev.pos h ?_
     rw [hq, w64 (by omega) (by omega)]
     refine Ev.pos (by omega) ?_
     refine Ev.pos (by omega) ?_
     rw [rdOf_nat]
     refine Ev.neg hb ?_
     rw [w64s (by omega)]
     exact hr
  ·refine go t ht hm ?_ (fun r hr => ?_)
   ·rw [hc, htk]
    exact ⟨.inl, fun h' => h'.elim id fun h'' => absurd h''.1 (by omega)⟩
   ·refine Ev.step (fun _ => spec_l3Table.l1.eq_2 ..) ?_
    refine Ev.pos (by omega) ?_
    refine Ev.pos (by omega) ?_
    rw [rd_get hlt]
    refine Ev.neg h ?_
    rw [w64s (by omega)]
    exact hr
theorem l3Table_l0 (g : List Int) (hl : g.length ≤ 4611686018427387904) (hg : InR 1 1000000 g) (N : Nat) (hN : N ≤ 1000000) : ∀ (d n : Nat) (t : List Bool), N + 1 - n = d → 1 ≤ n → n ≤ N + 1 → t.length = N + 1 →
 (∀ m : Nat, m ≤ N → (t.getD m false = true ↔ m < n ∧ Sums g m)) → ∃ t' : List Bool, Ev (fun k => spec_l3Table.l0 k g (N : Int) t (n : Int)) t' ∧ t'.length = N + 1 ∧ ∀ m : Nat, m ≤ N → (t'.getD m false = true ↔ Sums g m) := by
 intro d
 induction d with
 | zero =>
  intro n t hd h1 hn ht hm
  refine ⟨t, ?_, ht, fun m hmN => (hm m hmN).trans ⟨fun h => h.2, fun h => ⟨by omega, h⟩⟩⟩
  refine Ev.step (fun _ => spec_l3Table.l0.eq_2 ..) ?_
  exact Ev.neg (by omega) (Ev.now _)
 | succ d ih =>
  intro n t hd h1 hn ht hm
  obtain ⟨t1, a, b, c⟩ := l3Table_l1 g hl hg N n h1 (by omega) hN g.length 0 t (by omega) (by omega) ht (fun m hmN _ => hm m hmN) ⟨fun h => absurd ((hm n (by omega)).1 h).1 (by omega), fun h => by simp at h⟩
  obtain ⟨t', h2, h3⟩ := ih (n + 1) t1 (by omega) (by omega) (by omega) a b
  refine ⟨t', ?_, h3⟩
  refine Ev.step (fun _ => spec_l3Table.l0.eq_2 ..) ?_
  exact Ev.pos (by omega) (c _ h2)
theorem l3Table (g : List Int) (hl : g.length ≤ 4611686018427387904) (hg : InR 1 1000000 g) (N : Nat) (hN : N ≤ 1000000) : ∃ t : List Bool, Ev (fun k => spec_l3Table.f k g (N : Int)) t ∧ t.length = N + 1 ∧ ∀ m : Nat, m ≤ N → (t.getD m false = true ↔ Sums g m) := by
 obtain ⟨t, h1, h2⟩ := l3Table_l0 g hl hg N hN N 1 ((List.replicate (N + 1) false).set 0 true) (by omega) (by omega) (by omega) (by simp) (fun m hmN => by
  rw [getD_set _ _ _ _ _ (by simp)]
  by_cases e : m = 0
  ·subst e; simp; exact Sums.zero
  ·rw [if_neg e]
   constructor
   ·intro h; rw [List.getD_eq_getElem?_getD, List.getElem?_replicate] at h; split at h <;> simp at h
   ·intro h; omega)
 refine ⟨t, ?_, h2⟩
 show Ev (fun k => if 0 ≤ (wrap64 ((N : Int) + 1)) then (if (wrap64 ((N : Int) + 1) : Int).toNat ≤ 281474976710656 then ((some (List.replicate (wrap64 ((N : Int) + 1) : Int).toNat false : List Bool)).bind fun y => (if 0 < (y.length : Int) then (spec_l3Table.l0 k g N (y.set (0 : Int).toNat true) 1) else (none))) else (none)) else (none)) t
 rw [w64s (by omega), Int.toNat_natCast]
 refine Ev.pos (by omega) ?_
 refine Ev.pos (by omega) ?_
 refine Ev.call rfl ?_
 refine Ev.pos (by rw [List.length_replicate]; omega) ?_
 exact h1
def one_ (x : Int) : Nat := if 0 ≤ x then 1 else 0
def pot_ (x : Int) : Nat := if 0 ≤ x then x.toNat else 3661
def cnt (R : List Int) : Nat := (R.map one_).sum
def pot (R : List Int) : Nat := (R.map pot_).sum
theorem rd_set (R : List Int) {i m : Int} (v : Int) (h0 : 0 ≤ i) (h1 : i < R.length) (hm : 0 ≤ m) : rd (R.set i.toNat v) m = if m = i then v else rd R m := by
 unfold rd
 rw [getD_set _ _ _ _ _ (by omega)]
 by_cases e : m = i
 ·subst e; simp
 ·rw [if_neg (by omega), if_neg e]
structure LI (g : List Int) (a : Int) (R : List Int) : Prop where
 len : (R.length : Int) = a
 zero : rd R 0 = 0
 ok : ∀ r : Int, 0 ≤ r → r < a → rd R r = -1 ∨ (0 ≤ rd R r ∧ Sums g (rd R r) ∧ rd R r % a = r ∧ rd R r ≤ 60 * (cnt R : Int))
theorem cnt_le (R : List Int) : cnt R ≤ R.length := sum_le_len one_ (fun x => by unfold one_; split <;> omega) R
theorem LI.put {g : List Int} {a : Int} {R : List Int} (h : LI g a R) (ha : 1 ≤ a) (ha2 : a ≤ 60) {tq v : Int} (h0 : 0 ≤ tq) (h1 : tq < a) (hv : 1 ≤ v) (hs : Sums g v) (hr : v % a = tq) (hle : v ≤ 60 * (cnt R : Int) + 60) (hlow : rd R tq < 0 ∨ v < rd R tq) :
 LI g a (R.set tq.toNat v) ∧ pot (R.set tq.toNat v) < pot R ∧ cnt R ≤ cnt (R.set tq.toNat v) := by
 have hl := h.len
 have hti : tq.toNat < R.length := by omega
 have hget : R[tq.toNat] = rd R tq := by
  have := rd_get hti
  rw [Int.toNat_of_nonneg h0] at this
  exact this.symm
 have s1 := sum_set one_ R tq.toNat hti v
 have s2 := sum_set pot_ R tq.toNat hti v
 rw [hget] at s1 s2
 have o1 : one_ v = 1 := by unfold one_; rw [if_pos (by omega)]
 have p1 : pot_ v = v.toNat := by unfold pot_; rw [if_pos (by omega)]
 rw [o1] at s1
 rw [p1] at s2
 have hcl := cnt_le R
 have hcl' := cnt_le (R.set tq.toNat v)
 rw [List.length_set] at hcl'
 unfold cnt at hle hcl hcl'
 rcases h.ok tq h0 h1 with e | ⟨e1, e2, e3, e4⟩
 ·have o2 : one_ (rd R tq) = 0 := by unfold one_; rw [if_neg (by omega)]
  have p2 : pot_ (rd R tq) = 3661 := by unfold pot_; rw [if_neg (by omega)]
  rw [o2] at s1
  rw [p2] at s2
  refine ⟨⟨by simpa using hl, ?_, fun r hr0 hr1 => ?_⟩, ?_, ?_⟩
  ·have hne : (0 : Int) ≠ tq := by rintro rfl; have := h.zero; omega
   rw [rd_set R v h0 (by omega) (by omega), if_neg hne]; exact h.zero
  ·rw [rd_set R v h0 (by omega) hr0]
   by_cases er : r = tq
   ·subst er
    rw [if_pos rfl]
    exact .inr ⟨by omega, hs, hr, by unfold cnt; omega⟩
   ·rw [if_neg er]
    rcases h.ok r hr0 hr1 with k | ⟨k1, k2, k3, k4⟩
    ·exact .inl k
    ·exact .inr ⟨k1, k2, k3, by unfold cnt at k4 ⊢; omega⟩
  ·unfold pot; omega
  ·unfold cnt; omega
 ·have hlow' : v < rd R tq := by rcases hlow with k | k <;> omega
  have o2 : one_ (rd R tq) = 1 := by unfold one_; rw [if_pos e1]
  have p2 : pot_ (rd R tq) = (rd R tq).toNat := by unfold pot_; rw [if_pos e1]
  rw [o2] at s1
  rw [p2] at s2
  refine ⟨⟨by simpa using hl, ?_, fun r hr0 hr1 => ?_⟩, ?_, ?_⟩
  ·have hne : (0 : Int) ≠ tq := by rintro rfl; have := h.zero; omega
   rw [rd_set R v h0 (by omega) (by omega), if_neg hne]; exact h.zero
  ·rw [rd_set R v h0 (by omega) hr0]
   by_cases er : r = tq
   ·subst er
    rw [if_pos rfl]
    exact .inr ⟨by omega, hs, hr, by unfold cnt at e4 ⊢; omega⟩
   ·rw [if_neg er]
    rcases h.ok r hr0 hr1 with k | ⟨k1, k2, k3, k4⟩
    ·exact .inl k
    ·exact .inr ⟨k1, k2, k3, by unfold cnt at k4 ⊢; omega⟩
  ·unfold pot; omega
  ·unfold cnt; omega
def Rel (a : Int) (R : List Int) (r x : Int) : Prop := 0 ≤ rd R ((r + x) % a) ∧ rd R ((r + x) % a) ≤ rd R r + x
theorem leasts_l3 (g : List Int) (hl : g.length ≤ 1000000) (hg : InR 1 60 g) (a : Int) (ha : 1 ≤ a) (ha2 : a ≤ 60) (r n : Int) (hr0 : 0 ≤ r) (hr1 : r < a) (hn0 : 0 ≤ n) (hns : Sums g n) (hnr : n % a = r) :
 ∀ (d j : Nat) (R : List Int) (b : Bool), g.length - j = d → j ≤ g.length → LI g a R → n ≤ 60 * (cnt R : Int) → (rd R r ≤ n ∧ 0 ≤ rd R r) →
 ∃ (R' : List Int) (b' : Bool), LI g a R' ∧ ((b' = b ∧ R' = R ∧ (rd R r = n → ∀ i : Nat, j ≤ i → i < g.length → Rel a R r (g.getD i 0))) ∨ (b' = true ∧ pot R' < pot R)) ∧
  ∀ res, Ev (fun k => impl_leasts.l2 k g a R' b' a (r + 1)) res → Ev (fun k => impl_leasts.l3 k g a R b r n a r g (g.length : Int) (j : Int)) res := by
 intro d
 induction d with
 | zero =>
  intro j R b hd hj hR hnc hrr
  refine ⟨R, b, hR, .inl ⟨rfl, rfl, fun _ i h1 h2 => by omega⟩, fun res hres => ?_⟩
  refine Ev.step (fun _ => impl_leasts.l3.eq_2 ..) ?_
  refine Ev.neg (by omega) ?_
  rw [w64 (by omega) (by omega)]
  exact hres
 | succ d ih =>
  intro j R b hd hj hR hnc hrr
  have hlt : j < g.length := by omega
  have hx := hg _ (List.getElem_mem hlt)
  have hxs : g[j] ∈ g := List.getElem_mem hlt
  have hl' := hR.len
  have hcl := cnt_le R
  obtain ⟨tq, hto⟩ : ∃ tq, (r + g[j]) % a = tq := ⟨_, rfl⟩
  have ht0 : 0 ≤ tq := by rw [← hto]; exact Int.emod_nonneg _ (by omega)
  have ht1 : tq < a := by rw [← hto]; exact Int.emod_lt_of_pos _ (by omega)
  have hvr : (n + g[j]) % a = tq := by rw [← hto, ← hnr, Int.emod_add_emod]
  have hv1 : 1 ≤ n + g[j] := by omega
  have hv2 : n + g[j] ≤ 60 * (cnt R : Int) + 60 := by omega
  have changed : (rd R tq < 0 ∨ n + g[j] < rd R tq) → (∀ res, Ev (fun k => impl_leasts.l3 k g a (R.set tq.toNat (n + g[j])) true r n a r g (g.length : Int) ((j + 1 : Nat) : Int)) res → Ev (fun k => impl_leasts.l3 k g a R b r n a r g (g.length : Int) (j : Int)) res) →
   ∃ (R' : List Int) (b' : Bool), LI g a R' ∧ ((b' = b ∧ R' = R ∧ (rd R r = n → ∀ i : Nat, j ≤ i → i < g.length → Rel a R r (g.getD i 0))) ∨ (b' = true ∧ pot R' < pot R)) ∧
    ∀ res, Ev (fun k => impl_leasts.l2 k g a R' b' a (r + 1)) res → Ev (fun k => impl_leasts.l3 k g a R b r n a r g (g.length : Int) (j : Int)) res := by
   intro hlow hstep
   obtain ⟨h1, h2, h3⟩ := hR.put ha ha2 ht0 ht1 hv1 (Sums.add hxs hns) hvr hv2 hlow
   have hrr' : rd (R.set tq.toNat (n + g[j])) r ≤ n ∧ 0 ≤ rd (R.set tq.toNat (n + g[j])) r := by
    rw [rd_set R _ ht0 (by omega) hr0]
    by_cases e : r = tq
    ·exfalso
     subst e
     rcases hlow with k | k <;> omega
    ·rw [if_neg e]; exact hrr
   obtain ⟨R', b', k1, k2, k3⟩ := ih (j + 1) _ true (by omega) (by omega) h1 (by omega) hrr'
   refine ⟨R', b', k1, .inr ?_, fun res hres => hstep res (k3 res hres)⟩
   rcases k2 with ⟨rfl, rfl, _⟩ | ⟨rfl, k⟩
   ·exact ⟨rfl, h2⟩
   ·exact ⟨rfl, by omega⟩
  have hop : ∀ res, Ev (fun k => if rd R tq < 0 then (impl_leasts.l3 k g a (R.set tq.toNat (n + g[j])) true r n a r g (g.length : Int) ((j + 1 : Nat) : Int)) else (if n + g[j] < rd R tq then (impl_leasts.l3 k g a (R.set tq.toNat (n + g[j])) true r n a r g (g.length : Int) ((j + 1 : Nat) : Int)) else (impl_leasts.l3 k g a R b r n a r g (g.length : Int) ((j + 1 : Nat) : Int)))) res → Ev (fun k => impl_leasts.l3 k g a R b r n a r g (g.length : Int) (j : Int)) res := by
   intro res hres
   refine Ev.step (fun _ => impl_leasts.l3.eq_2 ..) ?_
   refine Ev.pos (by omega) ?_
   refine Ev.pos (by omega) ?_
   refine Ev.pos (by omega) ?_
   rw [rd_get hlt, w64 (x := r + g[j]) (by omega) (by omega), w64 (x := n + g[j]) (by omega) (by omega), w64s (by omega), tmod_pos (by omega), hto]
   refine Ev.neg (by omega) ?_
   refine Ev.pos (by omega) ?_
   refine Ev.pos (by omega) ?_
   exact hres
  by_cases c1 : rd R tq < 0
  ·exact changed (.inl c1) fun res hres => hop res (Ev.pos c1 hres)
  ·by_cases c2 : n + g[j] < rd R tq
   ·exact changed (.inr c2) fun res hres => hop res (Ev.neg c1 (Ev.pos c2 hres))
   ·obtain ⟨R', b', k1, k2, k3⟩ := ih (j + 1) R b (by omega) (by omega) hR hnc hrr
    refine ⟨R', b', k1, ?_, fun res hres => hop res (Ev.neg c1 (Ev.neg c2 (k3 res hres)))⟩
    rcases k2 with ⟨e1, e2, e3⟩ | k
    ·refine .inl ⟨e1, e2, fun hrn i h1 h2 => ?_⟩
     rcases Nat.lt_or_ge j i with h3 | h3
     ·exact e3 hrn i (by omega) h2
     ·have : i = j := by omega
      subst this
      unfold Rel
      rw [getD_get hlt, hto, hrn]
      omega
    ·exact .inr k
theorem leasts_l2 (g : List Int) (hl : g.length ≤ 1000000) (hg : InR 1 60 g) (a : Int) (ha : 1 ≤ a) (ha2 : a ≤ 60) :
 ∀ (d : Nat) (r : Int) (R : List Int) (b : Bool), (a - r).toNat = d → 0 ≤ r → r ≤ a → LI g a R →
 ∃ (R' : List Int) (b' : Bool), LI g a R' ∧ ((b' = b ∧ R' = R ∧ ∀ q : Int, r ≤ q → q < a → 0 ≤ rd R q → ∀ i : Nat, i < g.length → Rel a R q (g.getD i 0)) ∨ (b' = true ∧ pot R' < pot R)) ∧
  ∀ res, Ev (fun k => impl_leasts.l1 k g a R' b') res → Ev (fun k => impl_leasts.l2 k g a R b a r) res := by
 intro d
 induction d with
 | zero =>
  intro r R b hd h0 h1 hR
  refine ⟨R, b, hR, .inl ⟨rfl, rfl, fun q h2 h3 => by omega⟩, fun res hres => ?_⟩
  refine Ev.step (fun _ => impl_leasts.l2.eq_2 ..) ?_
  exact Ev.neg (by omega) hres
 | succ d ih =>
  intro r R b hd h0 h1 hR
  have hl' := hR.len
  by_cases c : rd R r < 0
  ·obtain ⟨R', b', k1, k2, k3⟩ := ih (r + 1) R b (by omega) (by omega) (by omega) hR
   refine ⟨R', b', k1, ?_, fun res hres => ?_⟩
   ·rcases k2 with ⟨e1, e2, e3⟩ | k
    ·refine .inl ⟨e1, e2, fun q h2 h3 h4 => ?_⟩
     by_cases e : q = r
     ·subst e; omega
     ·exact e3 q (by omega) h3 h4
    ·exact .inr k
   ·refine Ev.step (fun _ => impl_leasts.l2.eq_2 ..) ?_
    refine Ev.pos (by omega) ?_
    refine Ev.pos (by omega) ?_
    refine Ev.pos (by omega) ?_
    refine Ev.pos c ?_
    rw [w64 (by omega) (by omega)]
    exact k3 res hres
  ·rcases hR.ok r h0 (by omega) with e | ⟨e1, e2, e3, e4⟩
   ·omega
   ·obtain ⟨R1, b1, m1, m2, m3⟩ := leasts_l3 g hl hg a ha ha2 r (rd R r) h0 (by omega) e1 e2 e3 g.length 0 R b (by omega) (by omega) hR e4 ⟨Int.le_refl _, e1⟩
    obtain ⟨R', b', k1, k2, k3⟩ := ih (r + 1) R1 b1 (by omega) (by omega) (by omega) m1
    refine ⟨R', b', k1, ?_, fun res hres => ?_⟩
    ·rcases m2 with ⟨rfl, rfl, m⟩ | ⟨rfl, m⟩
     ·rcases k2 with ⟨f1, f2, f3⟩ | k
      ·refine .inl ⟨f1, f2, fun q h2 h3 h4 => ?_⟩
       by_cases e : q = r
       ·subst e; exact fun i hi => m rfl i (by omega) hi
       ·exact f3 q (by omega) h3 h4
      ·exact .inr k
     ·rcases k2 with ⟨rfl, rfl, _⟩ | ⟨rfl, k⟩
      ·exact .inr ⟨rfl, m⟩
      ·exact .inr ⟨rfl, by omega⟩
    ·refine Ev.step (fun _ => impl_leasts.l2.eq_2 ..) ?_
     refine Ev.pos (by omega) ?_
     refine Ev.pos (by omega) ?_
     refine Ev.pos (by omega) ?_
     refine Ev.neg c ?_
     exact m3 res (k3 res hres)
structure Least (g : List Int) (a : Int) (R : List Int) : Prop where
 len : (R.length : Int) = a
 bd : ∀ r : Int, 0 ≤ r → r < a → rd R r ≤ 3600
 cls : ∀ r : Int, 0 ≤ r → r < a → (rd R r = -1 ∧ ∀ n, Sums g n → n % a ≠ r) ∨ (0 ≤ rd R r ∧ Sums g (rd R r) ∧ rd R r % a = r ∧ ∀ n, Sums g n → n % a = r → rd R r ≤ n)
theorem least_of {g : List Int} {a : Int} {R : List Int} (ha : 1 ≤ a) (ha2 : a ≤ 60) (hR : LI g a R) (hf : ∀ q : Int, 0 ≤ q → q < a → 0 ≤ rd R q → ∀ i : Nat, i < g.length → Rel a R q (g.getD i 0)) : Least g a R := by
 have key : ∀ n, Sums g n → 0 ≤ rd R (n % a) ∧ rd R (n % a) ≤ n := by
  intro n hn
  induction hn with
  | zero => rw [Int.zero_emod, hR.zero]; omega
  | add hx hn ih =>
   rename_i n x
   obtain ⟨i, hi, rfl⟩ := List.getElem_of_mem hx
   have := hf (n % a) (Int.emod_nonneg _ (by omega)) (Int.emod_lt_of_pos _ (by omega)) ih.1 i hi
   unfold Rel at this
   rw [getD_get hi, Int.emod_add_emod] at this
   omega
 refine ⟨hR.len, fun r h0 h1 => ?_, fun r h0 h1 => ?_⟩
 ·have := cnt_le R
  have hl := hR.len
  rcases hR.ok r h0 h1 with e | ⟨_, _, _, e⟩ <;> omega
 rcases hR.ok r h0 h1 with e | ⟨e1, e2, e3, _⟩
 ·refine .inl ⟨e, fun n hn hr => ?_⟩
  have := key n hn
  rw [hr] at this
  omega
 ·refine .inr ⟨e1, e2, e3, fun n hn hr => ?_⟩
  have := key n hn
  rw [hr] at this
  exact this.2
theorem leasts_l1 (g : List Int) (hl : g.length ≤ 1000000) (hg : InR 1 60 g) (a : Int) (ha : 1 ≤ a) (ha2 : a ≤ 60) : ∀ (p : Nat) (R : List Int), pot R = p → LI g a R → ∃ R', Ev (fun k => impl_leasts.l1 k g a R true) R' ∧ Least g a R' := by
 intro p
 induction p using Nat.strongRecOn with
 | _ p ih =>
  intro R hp hR
  obtain ⟨R1, b1, k1, k2, k3⟩ := leasts_l2 g hl hg a ha ha2 a.toNat 0 R false (by omega) (by omega) (by omega) hR
  rcases k2 with ⟨rfl, rfl, f⟩ | ⟨rfl, k⟩
  ·refine ⟨R1, ?_, least_of ha ha2 hR fun q h1 h2 => f q h1 h2⟩
   refine Ev.step (fun _ => impl_leasts.l1.eq_2 ..) ?_
   refine Ev.pos rfl ?_
   rw [hR.len]
   refine k3 _ ?_
   refine Ev.step (fun _ => impl_leasts.l1.eq_2 ..) ?_
   exact Ev.neg (by simp) (Ev.now _)
  ·obtain ⟨R', h1, h2⟩ := ih (pot R1) (by omega) R1 rfl k1
   refine ⟨R', ?_, h2⟩
   refine Ev.step (fun _ => impl_leasts.l1.eq_2 ..) ?_
   refine Ev.pos rfl ?_
   rw [hR.len]
   exact k3 _ h1
theorem leasts_l0 (g : List Int) (A : Nat) (hA : 1 ≤ A) (hA2 : A ≤ 60) (res : List Int) (hres : Ev (fun k => impl_leasts.l1 k g (A : Int) ((List.replicate A (-1)).set 0 0) true) res) : ∀ (d j : Nat) (R : List Int), A - j = d → j ≤ A → R.length = A → R.take j = List.replicate j (-1) →
 Ev (fun k => impl_leasts.l0 k g (A : Int) R (A : Int) (j : Int)) res := by
 intro d
 induction d with
 | zero =>
  intro j R hd hj hR ht
  have : j = A := by omega
  subst this
  rw [List.take_of_length_le (by omega)] at ht
  subst ht
  refine Ev.step (fun _ => impl_leasts.l0.eq_2 ..) ?_
  refine Ev.neg (by omega) ?_
  refine Ev.pos (by simp <;> omega) ?_
  exact hres
 | succ d ih =>
  intro j R hd hj hR ht
  refine Ev.step (fun _ => impl_leasts.l0.eq_2 ..) ?_
  refine Ev.pos (by omega) ?_
  refine Ev.pos (by omega) ?_
  refine Ev.pos (by omega) ?_
  rw [w64s (by omega), Int.toNat_natCast]
  refine ih (j + 1) _ (by omega) (by omega) (by simpa using hR) ?_
  rw [take_snoc' (by simp <;> omega), List.take_set_of_le (Nat.le_refl _), ht, List.getElem_set_self, List.replicate_succ']
theorem leasts (g : List Int) (hl : g.length ≤ 1000000) (hg : InR 1 60 g) (a : Int) (ha : 1 ≤ a) (ha2 : a ≤ 60) : ∃ R, Ev (fun k => impl_leasts.f k g a) R ∧ Least g a R := by
 obtain ⟨A, rfl⟩ : ∃ A : Nat, a = (A : Int) := ⟨a.toNat, by omega⟩
 have hrd : ∀ r : Int, 0 ≤ r → r < (A : Int) → rd ((List.replicate A (-1)).set (0 : Int).toNat 0) r = if r = 0 then 0 else -1 := by
  intro r h0 h1
  rw [rd_set _ _ (by omega) (by simp <;> omega) h0]
  by_cases e : r = 0
  ·rw [if_pos e, if_pos e]
  ·rw [if_neg e, if_neg e]
   unfold rd
   rw [List.getD_eq_getElem?_getD, List.getElem?_replicate, if_pos (by omega)]
   rfl
 have hLI : LI g A ((List.replicate A (-1)).set (0 : Int).toNat 0) := by
  refine ⟨by simp, ?_, fun r h0 h1 => ?_⟩
  ·rw [hrd 0 (by omega) (by omega), if_pos rfl]
  ·rw [hrd r h0 h1]
   by_cases e : r = 0
   ·rw [if_pos e]; exact .inr ⟨by omega, .zero, by rw [Int.zero_emod]; exact e.symm, by omega⟩
   ·rw [if_neg e]; exact .inl rfl
 obtain ⟨R, h1, h2⟩ := leasts_l1 g hl hg A ha ha2 _ _ rfl hLI
 refine ⟨R, ?_, h2⟩
 show Ev (fun k => if 0 ≤ (A : Int) then (if (A : Int).toNat ≤ 35184372088832 then ((some (List.replicate (A : Int).toNat 0 : List Int)).bind fun y => (impl_leasts.l0 k g A y (y.length : Int) 0)) else (none)) else (none)) R
 refine Ev.pos (by omega) ?_
 refine Ev.pos (by omega) ?_
 refine Ev.call rfl ?_
 rw [Int.toNat_natCast, List.length_replicate]
 exact leasts_l0 g A (by omega) (by omega) R h1 A 0 (List.replicate A 0) (by omega) (by omega) (by simp) (by simp)
end Go.Proofs.Ytddgegejeoihaaa.FFnArf
end
section
namespace Go.Proofs.Ytddgegejeoihaaa.FFnArf
open Go Go.RowKit Go.Proofs.YtddgegejeoihaaaW.PrintWords Go.Proofs.Ytddgegejeoihaaa.M Go.Proofs.Ytddgegejeoihaaa.PFnArf
def Sorted (l s : List Int) : Prop := s.Pairwise (· < ·) ∧ (∀ x, x ∈ s ↔ x ∈ l) ∧ s.length ≤ l.length
theorem Sorted.uniq {l s t : List Int} (h : Sorted l s) (k : Sorted l t) : s = t := asc_ext h.1 k.1 fun x => (h.2.1 x).trans (k.2.1 x).symm
theorem insert_asc {out : List Int} (h : out.Pairwise (· < ·)) (x : Int) (m : Nat) (hm : m ≤ out.length) (h1 : ∀ j, (hj : j < out.length) → m ≤ j → x < out[j]) (h2 : ∀ j, (hj : j < out.length) → j < m → out[j] < x) : (out.take m ++ [x] ++ out.drop m).Pairwise (· < ·) := by
 rw [List.append_assoc, List.pairwise_append]
 refine ⟨h.sublist (List.take_sublist _ _), ?_, ?_⟩
 ·rw [List.singleton_append, List.pairwise_cons]
  refine ⟨fun y hy => ?_, h.sublist (List.drop_sublist _ _)⟩
  obtain ⟨i, hi, rfl⟩ := List.getElem_of_mem hy
  rw [List.getElem_drop]
  rw [List.length_drop] at hi
  exact h1 (m + i) (by omega) (by omega)
 ·intro a ha b hb
  obtain ⟨i, hi, rfl⟩ := List.getElem_of_mem ha
  rw [List.length_take] at hi
  rw [List.getElem_take]
  have hax := h2 i (by omega) (by omega)
  rw [List.singleton_append] at hb
  rcases List.mem_cons.1 hb with rfl | hb
  ·exact hax
  ·obtain ⟨j, hj, rfl⟩ := List.getElem_of_mem hb
   rw [List.length_drop] at hj
   rw [List.getElem_drop]
   exact Int.lt_trans hax (h1 (m + j) (by omega) (by omega))
theorem sSort_l1 (l : List Int) (hl : l.length ≤ 1048576) (out : List Int) (ho : out.Pairwise (· < ·)) (i : Nat) (hi : i < l.length) (hol : out.length ≤ i) : ∀ m : Nat, m ≤ out.length → (∀ j, (hj : j < out.length) → m ≤ j → l[i] < out[j]) →
 ∃ out' : List Int, out'.Pairwise (· < ·) ∧ (∀ y, y ∈ out' ↔ y ∈ out ∨ y = l[i]) ∧ out'.length ≤ i + 1 ∧ ∀ r, Ev (fun k => spec_SortList.l0 k l out' ((i + 1 : Nat) : Int)) r → Ev (fun k => spec_SortList.l1 k l out (i : Int) (m : Int)) r := by
 have mem : ∀ m y, y ∈ out.take m ++ [l[i]] ++ out.drop m ↔ y ∈ out ∨ y = l[i] := by
  intro m y
  have e : y ∈ out ↔ y ∈ out.take m ∨ y ∈ out.drop m := by rw [← List.mem_append, List.take_append_drop]
  simp only [List.mem_append, List.mem_singleton, e]
  constructor
  ·rintro ((h | h) | h)
   ·exact .inl (.inl h)
   ·exact .inr h
   ·exact .inl (.inr h)
  ·rintro ((h | h) | h)
   ·exact .inl (.inl h)
   ·exact .inr h
   ·exact .inl (.inr h)
 have len : ∀ m, m ≤ out.length → (out.take m ++ [l[i]] ++ out.drop m).length = out.length + 1 := by intro m hm; simp; omega
 intro m
 induction m with
 | zero =>
  intro hm h1
  refine ⟨out.take 0 ++ [l[i]] ++ out.drop 0, insert_asc ho _ 0 hm h1 (fun j _ hj => by omega), mem 0, by rw [len 0 hm]; omega, fun r hr => ?_⟩
  refine Ev.step (fun _ => spec_SortList.l1.eq_2 ..) ?_
  refine Ev.neg (by omega) ?_
  refine Ev.call rfl ?_
  refine Ev.pos (by omega) ?_
  refine Ev.pos (by omega) ?_
  refine Ev.call rfl ?_
  refine Ev.pos (by simp <;> omega) ?_
  refine Ev.call rfl ?_
  refine Ev.call rfl ?_
  refine Ev.pos (by omega) ?_
  refine Ev.pos (by omega) ?_
  refine Ev.pos (by simp <;> omega) ?_
  refine Ev.call rfl ?_
  refine Ev.pos (by simp <;> omega) ?_
  rw [w64s (by omega), rd_get hi]
  exact hr
 | succ m ih =>
  intro hm h1
  have hlt : m < out.length := by omega
  have e : ((m + 1 : Nat) : Int) > 0 := by omega
  by_cases c1 : out[m] > l[i]
  ·obtain ⟨out', a, b, c, d⟩ := ih (by omega) fun j hj hmj => by
    rcases Nat.lt_or_ge m j with h | h
    ·exact h1 j hj (by omega)
    ·have : j = m := by omega
     subst this; exact c1
   refine ⟨out', a, b, c, fun r hr => ?_⟩
   refine Ev.step (fun _ => spec_SortList.l1.eq_2 ..) ?_
   refine Ev.pos e ?_
   rw [w64p (by omega) (by omega), Nat.add_sub_cancel]
   refine Ev.pos (by omega) ?_
   refine Ev.pos (by omega) ?_
   refine Ev.pos (by omega) ?_
   refine Ev.pos (by omega) ?_
   rw [rd_get hlt, rd_get hi]
   exact Ev.pos c1 (d r hr)
  ·by_cases c2 : out[m] = l[i]
   ·refine ⟨out, ho, fun y => ⟨.inl, fun h => h.elim id fun h => ?_⟩, by omega, fun r hr => ?_⟩
    ·subst h; rw [← c2]; exact List.getElem_mem hlt
    ·refine Ev.step (fun _ => spec_SortList.l1.eq_2 ..) ?_
     refine Ev.pos e ?_
     rw [w64p (by omega) (by omega), Nat.add_sub_cancel]
     refine Ev.pos (by omega) ?_
     refine Ev.pos (by omega) ?_
     refine Ev.pos (by omega) ?_
     refine Ev.pos (by omega) ?_
     rw [rd_get hlt, rd_get hi]
     refine Ev.neg c1 (Ev.pos c2 ?_)
     rw [w64s (by omega)]
     exact hr
   ·refine ⟨out.take (m + 1) ++ [l[i]] ++ out.drop (m + 1), insert_asc ho _ (m + 1) hm h1 (fun j hj hjm => ?_), mem (m + 1), by rw [len _ hm]; omega, fun r hr => ?_⟩
    ·rcases Nat.lt_or_ge j m with h | h
     ·have := List.pairwise_iff_getElem.1 ho j m hj hlt h
      omega
     ·have : j = m := by omega
      subst this; omega
    ·refine Ev.step (fun _ => spec_SortList.l1.eq_2 ..) ?_
     refine Ev.pos e ?_
     rw [w64p (by omega) (by omega), Nat.add_sub_cancel]
     refine Ev.pos (by omega) ?_
     refine Ev.pos (by omega) ?_
     refine Ev.pos (by omega) ?_
     refine Ev.pos (by omega) ?_
     rw [rd_get hlt, rd_get hi]
     refine Ev.neg c1 (Ev.neg c2 ?_)
     refine Ev.call rfl ?_
     refine Ev.pos (by omega) ?_
     refine Ev.pos (by omega) ?_
     refine Ev.call rfl ?_
     refine Ev.pos (by simp <;> omega) ?_
     refine Ev.call rfl ?_
     refine Ev.call rfl ?_
     refine Ev.pos (by simp <;> omega) ?_
     refine Ev.call rfl ?_
     refine Ev.pos (by simp <;> omega) ?_
     rw [w64s (by omega)]
     exact hr
theorem sSort_l0 (l : List Int) (hl : l.length ≤ 1048576) : ∀ (d i : Nat) (out : List Int), l.length - i = d → i ≤ l.length → out.Pairwise (· < ·) → (∀ y, y ∈ out ↔ y ∈ l.take i) → out.length ≤ i → ∃ s, Ev (fun k => spec_SortList.l0 k l out (i : Int)) s ∧ Sorted l s := by
 intro d
 induction d with
 | zero =>
  intro i out hd hi ho hm hol
  rw [List.take_of_length_le (by omega)] at hm
  refine ⟨out, ?_, ho, hm, by omega⟩
  refine Ev.step (fun _ => spec_SortList.l0.eq_2 ..) ?_
  exact Ev.neg (by omega) (Ev.now _)
 | succ d ih =>
  intro i out hd hi ho hm hol
  have hlt : i < l.length := by omega
  obtain ⟨out', a, b, c, e⟩ := sSort_l1 l hl out ho i hlt hol out.length (Nat.le_refl _) (fun j hj h => by omega)
  obtain ⟨s, h1, h2⟩ := ih (i + 1) out' (by omega) (by omega) a (fun y => by rw [b, hm, take_snoc' hlt, List.mem_append, List.mem_singleton]) c
  refine ⟨s, ?_, h2⟩
  refine Ev.step (fun _ => spec_SortList.l0.eq_2 ..) ?_
  exact Ev.pos (by omega) (e s h1)
theorem sSort (l : List Int) (hl : l.length ≤ 1048576) : ∃ s, Ev (fun k => spec_SortList.f k l) s ∧ Sorted l s :=
 sSort_l0 l hl l.length 0 [] (by omega) (by omega) List.Pairwise.nil (by simp) (by simp)
theorem compact_asc {zs : List Int} (h : zs.Pairwise (· ≤ ·)) : Sorted zs (Lib.compact zs) := by
 have hle : ∀ i j, (hi : i < zs.length) → (hj : j < zs.length) → i ≤ j → zs[i] ≤ zs[j] := by
  intro i j hi hj hij
  rcases Nat.lt_or_ge i j with h' | h'
  ·exact List.pairwise_iff_getElem.1 h i j hi hj h'
  ·have : i = j := by omega
   subst this; exact Int.le_refl _
 have hg : ∀ i, (hi : i < zs.length) → zs.toArray[i]! = zs[i] := by intro i hi; rw [getElem!_pos _ i (by simpa using hi)]; simp
 refine ⟨?_, fun x => ?_, ?_⟩
 ·unfold Lib.compact Lib.compactUpTo
  rw [List.pairwise_map, List.pairwise_filter]
  refine List.pairwise_iff_getElem.2 ?_
  intro i j hi hj hij ki kj
  simp only [List.getElem_range] at ki kj ⊢
  simp only [List.length_range] at hi hj
  rw [hg i hi, hg j hj]
  unfold Lib.keeps at kj
  have := of_decide_eq_true kj
  rcases this with e | e
  ·omega
  ·rw [hg j hj, hg (j - 1) (by omega)] at e
   have h1 := hle i (j - 1) hi (by omega) (by omega)
   have h2 := hle (j - 1) j (by omega) hj (by omega)
   omega
 ·unfold Lib.compact Lib.compactUpTo
  simp only [List.mem_map, List.mem_filter, List.mem_range]
  constructor
  ·rintro ⟨i, ⟨hi, _⟩, rfl⟩
   rw [hg i hi]; exact List.getElem_mem hi
  ·intro hx
   obtain ⟨i, hi, rfl⟩ := List.getElem_of_mem hx
   have : ∀ n, ∀ i, (hi : i < zs.length) → i = n → ∃ a, (a < zs.length ∧ Lib.keeps zs.toArray a = true) ∧ zs.toArray[a]! = zs[i] := by
    intro n
    induction n with
    | zero => intro i hi e; subst e; exact ⟨0, ⟨hi, by simp [Lib.keeps]⟩, hg 0 hi⟩
    | succ n ih =>
     intro i hi e
     by_cases c : zs[i] = zs[i - 1]
     ·obtain ⟨a, ha, hb⟩ := ih (i - 1) (by omega) (by omega)
      exact ⟨a, ha, by rw [hb, c]⟩
     ·refine ⟨i, ⟨hi, ?_⟩, hg i hi⟩
      unfold Lib.keeps
      refine decide_eq_true (.inr ?_)
      rw [hg i hi, hg (i - 1) (by omega)]
      exact c
   exact this i i hi rfl
 ·unfold Lib.compact Lib.compactUpTo
  rw [List.length_map]
  exact Nat.le_trans (List.length_filter_le _ _) (by simp)
theorem iSort (l : List Int) (hl : l.length ≤ 1048576) : ∃ s, impl_SortList.f l = some s ∧ Sorted l s := by
 have hs : (l.mergeSort fun x y => decide (x ≤ y)).Pairwise (· ≤ ·) := by
  have := List.pairwise_mergeSort (le := fun x y : Int => decide (x ≤ y)) (fun a b c h1 h2 => by simp at *; omega) (fun a b => by simp; omega) l
  exact this.imp fun h => by simpa using h
 have hc := compact_asc hs
 refine ⟨Lib.compact (l.mergeSort fun x y => decide (x ≤ y)), ?_, hc.1, fun x => (hc.2.1 x).trans List.mem_mergeSort, ?_⟩
 ·unfold impl_SortList.f slices_Sort_int_int.f slices_Compact_int_int.f
  simp only [Option.bind_some, List.nil_append, List.length_nil]
  rw [if_pos (by omega), if_pos (by omega)]
  rfl
 ·have := hc.2.2
  rw [List.length_mergeSort] at this
  exact this
theorem least_sums {g : List Int} {a : Int} {R : List Int} (hR : Least g a R) (ha : 1 ≤ a) (hag : a ∈ g) {n : Int} : (0 ≤ rd R (n % a) ∧ rd R (n % a) ≤ n) ↔ Sums g n := by
 have h0 := Int.emod_nonneg n (show a ≠ 0 by omega)
 have h1 := Int.emod_lt_of_pos n (show 0 < a by omega)
 rcases hR.cls (n % a) h0 h1 with ⟨e, h⟩ | ⟨e1, e2, e3, e4⟩
 ·constructor
  ·intro k; omega
  ·intro k; exact absurd rfl (h n k)
 ·constructor
  ·rintro ⟨_, k⟩
   have hd : a ∣ n - rd R (n % a) := Int.dvd_of_emod_eq_zero (by rw [Int.sub_emod, e3, Int.sub_self, Int.zero_emod])
   obtain ⟨q, hq⟩ := hd
   have hq0 : 0 ≤ q := by
    rcases Int.lt_or_le q 0 with h | h
    ·have := Int.mul_le_mul_of_nonneg_left (show q ≤ -1 by omega) (show 0 ≤ a by omega)
     omega
    ·exact h
   have := e2.trans ((Sums.one hag).mul q.toNat)
   rw [Int.toNat_of_nonneg hq0, Int.mul_comm, ← hq] at this
   rwa [show rd R (n % a) + (n - rd R (n % a)) = n by omega] at this
  ·intro k; exact ⟨e1, e4 n k rfl⟩
theorem Use.len {l : List Int} (h : Use l) : l.length ≤ 20 := h.2.2
theorem iGenerates (l : List Int) (hl : l.length ≤ 1000000) (n : Int) : EvB (fun k => impl_Generates.f k l n) (Use l ∧ (0 ≤ n ∧ n ≤ 1000000) ∧ Sums l n) := by
 by_cases hu : Use l
 ·by_cases hn : 0 ≤ n ∧ n ≤ 1000000
  ·have hpos : 0 < l.length := by have := hu.2.1; omega
   have ha := hu.1 _ (List.getElem_mem hpos)
   have e0 : rd l 0 = l[0] := rd_get (i := 0) hpos
   obtain ⟨R, h1, h2⟩ := leasts l hl hu.1 (rd l 0) (by omega) (by omega)
   have hag : rd l 0 ∈ l := by rw [e0]; exact List.getElem_mem hpos
   have key := least_sums h2 (by omega) hag (n := n)
   have hm0 := Int.emod_nonneg n (show rd l 0 ≠ 0 by omega)
   have hm1 := Int.emod_lt_of_pos n (show 0 < rd l 0 by omega)
   unfold impl_Generates.f
   refine EvB.bind ((usable l (by omega)).yes hu) ?_
   refine EvB.pos rfl ?_
   refine EvB.call (within_yes hn) ?_
   refine EvB.pos rfl ?_
   refine EvB.pos (by omega) ?_
   refine EvB.bind h1 ?_
   rw [tmod_pos hn.1]
   refine EvB.neg (by omega) ?_
   refine EvB.pos hm0 ?_
   refine EvB.pos (by rw [h2.len]; exact hm1) ?_
   by_cases c : rd R (n % rd l 0) ≥ 0
   ·refine EvB.pos c (EvB.dec ?_)
    constructor
    ·intro k; exact ⟨hu, hn, key.1 ⟨c, k⟩⟩
    ·intro k; exact (key.2 k.2.2).2
   ·refine EvB.neg c (EvB.of_false (Ev.now _) ?_)
    intro k; exact c (key.2 k.2.2).1
  ·unfold impl_Generates.f
   refine EvB.bind ((usable l (by omega)).yes hu) ?_
   refine EvB.pos rfl ?_
   refine EvB.call (within_no hn) ?_
   refine EvB.neg (by simp) (EvB.of_false (Ev.now _) fun k => hn k.2.1)
 ·unfold impl_Generates.f
  refine EvB.bind ((usable l (by omega)).no hu) ?_
  exact EvB.neg (by simp) (EvB.of_false (Ev.now _) fun k => hu k.1)
theorem minOf_sublist : ∀ (t seen : List Int), (minOf seen t).Sublist t
 | [], _ => by simp [minOf]
 | y :: t, seen => by
  unfold minOf
  split
  ·exact (minOf_sublist t _).cons _
  ·exact (minOf_sublist t _).cons_cons _
theorem minOf_self : ∀ (t seen : List Int), minOf seen t = t ↔ ∀ i, (hi : i < t.length) → ¬ Sums (seen ++ t.take i) t[i]
 | [], _ => by simp [minOf]
 | y :: t, seen => by
  unfold minOf
  split
  ·rename_i h
   constructor
   ·intro e
    have := (minOf_sublist t (seen ++ [y])).length_le
    rw [e] at this
    simp at this
    omega
   ·intro k
    have := k 0 (by simp)
    rw [List.take_zero, List.append_nil] at this
    exact absurd h this
  ·rename_i h
   rw [List.cons.injEq]
   have := minOf_self t (seen ++ [y])
   rw [this]
   constructor
   ·rintro ⟨_, k⟩ i hi
    cases i with
    | zero => simpa using h
    | succ i =>
     have := k i (by simpa using hi)
     simpa using this
   ·intro k
    refine ⟨rfl, fun i hi => ?_⟩
    have := k (i + 1) (by simpa using hi)
    simpa using this
theorem l3Minimal_l0 (s : List Int) (hl : s.length ≤ 1048576) (hg : InR 1 1000000 s) : ∀ (d j : Nat) (out : List Int), s.length - j = d → j ≤ s.length → out.length ≤ j → Ev (fun k => spec_l3Minimal.l0 k out s (j : Int)) (out ++ minOf (s.take j) (s.drop j)) := by
 intro d
 induction d with
 | zero =>
  intro j out hd hj ho
  refine Ev.step (fun _ => spec_l3Minimal.l0.eq_2 ..) ?_
  refine Ev.neg (by omega) ?_
  rw [List.drop_of_length_le (by omega)]
  simp only [minOf, List.append_nil]
  exact Ev.now _
 | succ d ih =>
  intro j out hd hj ho
  have hlt : j < s.length := by omega
  have hx := hg _ (List.getElem_mem hlt)
  have keep : ¬ Sums (s.take j) s[j] → Ev (fun k => spec_l3Minimal.l0 k (out ++ [s[j]]) s ((j + 1 : Nat) : Int)) (out ++ minOf (s.take j) (s.drop j)) := by
   intro h
   have := ih (j + 1) (out ++ [s[j]]) (by omega) (by omega) (by simp <;> omega)
   rw [drop_cons hlt, minOf, if_neg h]
   rwa [take_snoc' hlt, List.append_assoc, List.singleton_append] at this
  have skip : Sums (s.take j) s[j] → Ev (fun k => spec_l3Minimal.l0 k out s ((j + 1 : Nat) : Int)) (out ++ minOf (s.take j) (s.drop j)) := by
   intro h
   have := ih (j + 1) out (by omega) (by omega) (by omega)
   rw [drop_cons hlt, minOf, if_pos h]
   rwa [take_snoc' hlt] at this
  refine Ev.step (fun _ => spec_l3Minimal.l0.eq_2 ..) ?_
  refine Ev.pos (by omega) ?_
  rw [rd_get hlt, w64s (by omega)]
  by_cases h0 : j = 0
  ·subst h0
   refine Ev.pos (by omega) ?_
   refine Ev.pos (by omega) ?_
   refine Ev.pos (by omega) ?_
   refine keep fun h => ?_
   have := h.nil
   omega
  ·refine Ev.neg (by omega) ?_
   refine Ev.pos (by omega) ?_
   refine Ev.pos (by omega) ?_
   obtain ⟨q, hq⟩ : ∃ q : Nat, s[j] = (q : Int) := ⟨s[j].toNat, by omega⟩
   obtain ⟨t, h1, h2, h3⟩ := l3Table (s.take j) (by rw [List.length_take]; omega) (hg.sub fun x hx => List.mem_of_mem_take hx) q (by omega)
   rw [Int.toNat_natCast]
   rw [← hq] at h1
   refine Ev.bind h1 ?_
   refine Ev.pos (by omega) ?_
   refine Ev.pos (by omega) ?_
   rw [show rdOf false t s[j] = t.getD q false by rw [hq, rdOf_nat]]
   have h4 := h3 q (Nat.le_refl _)
   rw [← hq] at h4
   by_cases c : Sums (s.take j) s[j]
   ·exact Ev.pos (h4.2 c) (skip c)
   ·refine Ev.neg (fun k => c (h4.1 k)) ?_
    exact Ev.pos (by omega) (keep c)
theorem l3Minimal (l : List Int) (hl : l.length ≤ 1048576) (hg : InR 1 1000000 l) : ∃ s, Sorted l s ∧ Ev (fun k => spec_l3Minimal.f k l) (minOf [] s) := by
 obtain ⟨s, h1, h2⟩ := sSort l hl
 refine ⟨s, h2, ?_⟩
 unfold spec_l3Minimal.f
 refine Ev.bind h1 ?_
 have := l3Minimal_l0 s (by have := h2.2.2; omega) (hg.sub fun x hx => (h2.2.1 x).1 hx) s.length 0 [] (by omega) (by omega) (by simp)
 simpa using this
theorem l3Ends_l0 (g : List Int) (t : List Bool) (hpos : 0 < g.length) (hg : InR 1 60 g) (ht : t.length = 261) : ∀ (d j : Nat), 261 - j = d → 200 ≤ j → j ≤ 260 → EvB (fun k => spec_l3Ends.l0 k g t (j : Int)) (∀ n : Nat, j ≤ n → (n : Int) < 200 + rd g 0 → t.getD n false = true) := by
 have ha := hg _ (List.getElem_mem hpos)
 have e0 : rd g 0 = g[0] := rd_get (i := 0) hpos
 intro d
 induction d with
 | zero => intro j hd h1 h2; omega
 | succ d ih =>
  intro j hd h1 h2
  refine EvB.step (fun _ => spec_l3Ends.l0.eq_2 ..) ?_
  refine EvB.pos (by omega) ?_
  rw [w64 (x := 200 + rd g 0) (by omega) (by omega)]
  by_cases c : (j : Int) < 200 + rd g 0
  ·refine EvB.pos c ?_
   refine EvB.pos (by omega) ?_
   refine EvB.pos (by omega) ?_
   rw [rdOf_nat]
   by_cases hb : t.getD j false = true
   ·refine EvB.pos hb ?_
    rw [w64s (by omega)]
    rcases Nat.lt_or_ge j 260 with hj | hj
    ·refine (ih (j + 1) (by omega) (by omega) (by omega)).iff ⟨fun h n h3 h4 => ?_, fun h n h3 h4 => h n (by omega) h4⟩
     rcases Nat.lt_or_ge j n with h5 | h5
     ·exact h n (by omega) h4
     ·have : n = j := by omega
      subst this; exact hb
    ·omega
   ·refine EvB.neg hb (EvB.of_false (Ev.now _) fun h => hb (h j (Nat.le_refl _) c))
  ·exact EvB.neg c (EvB.of_true (Ev.now _) fun n h3 h4 => by omega)
theorem l3Ends (g : List Int) (hl : g.length ≤ 1000000) (hpos : 0 < g.length) (hg : InR 1 60 g) : EvB (fun k => spec_l3Ends.f k g) (∀ n : Int, 200 ≤ n → Sums g n) := by
 have ha := hg _ (List.getElem_mem hpos)
 have e0 : rd g 0 = g[0] := rd_get (i := 0) hpos
 obtain ⟨t, h1, h2, h3⟩ := l3Table g (by omega) (hg.mono (Int.le_refl _) (by omega)) 260 (by omega)
 unfold spec_l3Ends.f
 refine EvB.bind h1 ?_
 refine (l3Ends_l0 g t hpos hg (by omega) 61 200 (by omega) (by omega) (by omega)).iff ⟨fun h => ?_, fun h n h4 h5 => ?_⟩
 ·refine ends_of (a := g[0]) (by omega) (List.getElem_mem hpos) fun n h4 h5 => ?_
  obtain ⟨q, rfl⟩ : ∃ q : Nat, n = (q : Int) := ⟨n.toNat, by omega⟩
  exact (h3 q (by omega)).1 (h q (by omega) (by omega))
 ·exact (h3 n (by omega)).2 (h n (by omega))
theorem sIsSG (l : List Int) (hl : l.length ≤ 1048576) : EvB (fun k => spec_IsSemigroup.f k l) (IsSG l) := by
 unfold spec_IsSemigroup.f
 by_cases hu : Use l
 case neg => exact EvB.bind ((l3Gens l (by omega)).no hu) (EvB.neg (by simp) (EvB.of_false (Ev.now _) fun h => hu ⟨h.rng, h.pos, by have := h.le; omega⟩))
 refine EvB.bind ((l3Gens l (by omega)).yes hu) (EvB.pos rfl ?_)
 by_cases h12 : l.length ≤ 12
 case neg => exact EvB.neg (by omega) (EvB.of_false (Ev.now _) fun h => h12 h.le)
 refine EvB.pos (by omega) ?_
 by_cases ha : l.Pairwise (· < ·)
 case neg => exact EvB.bind ((sAsc l (by omega)).no ha) (EvB.neg (by simp) (EvB.of_false (Ev.now _) fun h => ha h.asc))
 refine EvB.bind ((sAsc l (by omega)).yes ha) (EvB.pos rfl ?_)
 refine EvB.bind (sGcdList l (by omega) (hu.1.mono (Int.le_refl _) (by omega))) ?_
 by_cases hg : gcdL l = 1
 case neg => exact EvB.neg (by omega) (EvB.of_false (Ev.now _) fun h => hg h.gcd)
 refine EvB.pos (by omega) ?_
 obtain ⟨s, hs, hm⟩ := l3Minimal l hl (hu.1.mono (Int.le_refl _) (by omega))
 have : s = l := hs.uniq ⟨ha, fun _ => Iff.rfl, Nat.le_refl _⟩
 subst this
 refine EvB.bind hm ?_
 have hself := minOf_self s []
 have hmin : minOf [] s = s ↔ ∀ i : Nat, 1 ≤ i → i < s.length → ¬ Sums (s.take i) (s.getD i 0) := by
  rw [hself]
  constructor
  ·intro h i _ hi
   rw [getD_get hi]
   simpa using h i hi
  ·intro h i hi
   rw [List.nil_append]
   rcases Nat.eq_zero_or_pos i with h0 | h0
   ·subst h0
    intro k
    have := hu.1 _ (List.getElem_mem hi)
    have := Sums.nil (by simpa using k)
    omega
   ·have := h i h0 hi
    rwa [getD_get hi] at this
 by_cases hmm : minOf [] s = s
 case neg => exact EvB.bind ((l2Same (minOf [] s) s (by have := (minOf_sublist s []).length_le; omega)).no hmm) (EvB.neg (by simp) (EvB.of_false (Ev.now _) fun h => hmm (hmin.2 h.minl)))
 refine EvB.bind ((l2Same (minOf [] s) s (by have := (minOf_sublist s []).length_le; omega)).yes hmm) (EvB.pos rfl ?_)
 obtain ⟨b, hb, hP⟩ := l3Ends s (by omega) (by have := hu.2.1; omega) hu.1
 exact EvB.bind hb ⟨b, Ev.now _, hP.trans ⟨fun h => ⟨hu.2.1, h12, hu.1, ha, hg, hmin.1 hmm, h⟩, fun h => h.ends⟩⟩
theorem iSG_l1 (g R : List Int) (hpos : 0 < g.length) (hg : InR 1 60 g) (hR : ∀ r ∈ R, -1 ≤ r ∧ r ≤ 1000000) (hl : R.length ≤ 1000000) : ∀ (d j : Nat), R.length - j = d → j ≤ R.length → EvB (fun k => impl_IsSemigroup.l1 k g R (R.length : Int) (j : Int)) (∀ i : Nat, j ≤ i → i < R.length → R.getD i 0 - rd g 0 < 200) := by
 have ha := hg _ (List.getElem_mem hpos)
 have e0 : rd g 0 = g[0] := rd_get (i := 0) hpos
 intro d
 induction d with
 | zero =>
  intro j hd hj
  refine EvB.step (fun _ => impl_IsSemigroup.l1.eq_2 ..) ?_
  exact EvB.neg (by omega) (EvB.of_true (Ev.now _) fun i h1 h2 => by omega)
 | succ d ih =>
  intro j hd hj
  have hlt : j < R.length := by omega
  have hr := hR _ (List.getElem_mem hlt)
  refine EvB.step (fun _ => impl_IsSemigroup.l1.eq_2 ..) ?_
  refine EvB.pos (by omega) ?_
  refine EvB.pos (by omega) ?_
  refine EvB.pos (by omega) ?_
  refine EvB.pos (by omega) ?_
  rw [rd_get hlt, w64 (x := R[j] - rd g 0) (by omega) (by omega)]
  by_cases c : R[j] - rd g 0 ≥ 200
  ·refine EvB.pos c (EvB.of_false (Ev.now _) fun h => ?_)
   have := h j (Nat.le_refl _) hlt
   rw [getD_get hlt] at this
   omega
  ·refine EvB.neg c ?_
   rw [w64s (by omega)]
   refine (ih (j + 1) (by omega) (by omega)).iff ⟨fun h i h1 h2 => ?_, fun h i h1 h2 => h i (by omega) h2⟩
   rcases Nat.lt_or_ge j i with h3 | h3
   ·exact h i (by omega) h2
   ·have : i = j := by omega
    subst this
    rw [getD_get hlt]; omega
theorem iSG_l0 (g : List Int) (hl : 1 ≤ g.length) (hl2 : g.length ≤ 12) (hg : InR 1 60 g) (hgcd : gcdL g = 1) : ∀ (d j : Nat), g.length - j = d → 1 ≤ j → EvB (fun k => impl_IsSemigroup.l0 k g (j : Int)) ((∀ i : Nat, j ≤ i → i < g.length → ¬ Sums (g.take i) (g.getD i 0)) ∧ ∀ n : Int, 200 ≤ n → Sums g n) := by
 have hpos : 0 < g.length := by omega
 have ha := hg _ (List.getElem_mem hpos)
 have e0 : rd g 0 = g[0] := rd_get (i := 0) hpos
 intro d
 induction d with
 | zero =>
  intro j hd hj
  refine EvB.step (fun _ => impl_IsSemigroup.l0.eq_2 ..) ?_
  refine EvB.neg (by omega) ?_
  refine EvB.pos (by omega) ?_
  obtain ⟨R, h1, h2⟩ := leasts g (by omega) hg (rd g 0) (by omega) (by omega)
  refine EvB.bind h1 ?_
  have hag : rd g 0 ∈ g := by rw [e0]; exact List.getElem_mem hpos
  have hR : ∀ i : Nat, i < R.length → 0 ≤ R.getD i 0 ∧ Sums g (R.getD i 0) ∧ R.getD i 0 % rd g 0 = i ∧ ∀ n, Sums g n → n % rd g 0 = i → R.getD i 0 ≤ n := by
   intro i hi
   have hl := h2.len
   rcases h2.cls (i : Int) (by omega) (by omega) with ⟨e, h⟩ | ⟨k1, k2, k3, k4⟩
   ·exfalso
    obtain ⟨n, hn, hr⟩ := hits_gcdL (g := g) (a := rd g 0) (by omega) (fun x hx => by have := hg x hx; omega) (i : Int)
    rw [hgcd] at hr
    refine h n hn (hr.trans ?_)
    rw [show (i : Int) * ((1 : Nat) : Int) = (i : Int) by simp]
    exact Int.emod_eq_of_lt (by omega) (by omega)
   ·rw [rd_nat] at k1 k2 k3 k4
    exact ⟨k1, k2, k3, k4⟩
  by_cases hbig : ∀ r ∈ R, r ≤ 1000000
  ·refine (iSG_l1 g R hpos hg (fun r hr => ⟨?_, hbig r hr⟩) (by have := h2.len; omega) R.length 0 (by omega) (by omega)).iff ⟨fun h => ⟨fun i h3 h4 => by omega, ?_⟩, fun h i _ hi => ?_⟩
   ·obtain ⟨i, hi, rfl⟩ := List.getElem_of_mem hr
    have := hR i hi
    rw [getD_get hi] at this
    omega
   ·refine ends_of (a := rd g 0) (by omega) hag fun n h4 h5 => ?_
    have m0 := Int.emod_nonneg n (show rd g 0 ≠ 0 by omega)
    have m1 := Int.emod_lt_of_pos n (show 0 < rd g 0 by omega)
    have hl := h2.len
    have k := h (n % rd g 0).toNat (by omega) (by omega)
    have k2 := hR (n % rd g 0).toNat (by omega)
    refine (least_sums h2 (by omega) hag).1 ⟨?_, ?_⟩
    ·unfold rd; exact k2.1
    ·show R.getD (n % rd g 0).toNat 0 ≤ n
     have k3 := k2.2.2.1
     rw [Int.toNat_of_nonneg m0] at k3
     rcases Int.lt_or_le n (R.getD (n % rd g 0).toNat 0) with c | c
     ·exfalso
      have hd : rd g 0 ∣ R.getD (n % rd g 0).toNat 0 - n := Int.dvd_of_emod_eq_zero (by rw [Int.sub_emod, k3, Int.sub_self, Int.zero_emod])
      have := Int.le_of_dvd (by omega) hd
      omega
     ·exact c
   ·have k := hR i hi
    rcases Int.lt_or_le (R.getD i 0 - rd g 0) 200 with c | c
    ·exact c
    ·exfalso
     have hs := h.2 (R.getD i 0 - rd g 0) c
     have := k.2.2.2 _ hs (by rw [Int.sub_emod, k.2.2.1, Int.emod_self, Int.sub_zero]; exact Int.emod_eq_of_lt (by omega) (by have := h2.len; omega))
     omega
  ·exfalso
   refine hbig fun r hr => ?_
   obtain ⟨i, hi, rfl⟩ := List.getElem_of_mem hr
   have := h2.bd (i : Int) (by omega) (by have := h2.len; omega)
   rw [rd_get hi] at this
   omega
 | succ d ih =>
  intro j hd hj
  have hlt : j < g.length := by omega
  have hx := hg _ (List.getElem_mem hlt)
  refine EvB.step (fun _ => impl_IsSemigroup.l0.eq_2 ..) ?_
  refine EvB.pos (by omega) ?_
  refine EvB.pos (by omega) ?_
  refine EvB.pos (by omega) ?_
  rw [Int.toNat_natCast, rd_get hlt]
  have hG := iGenerates (g.take j) (by rw [List.length_take]; omega) g[j]
  have hu : Use (g.take j) := ⟨hg.sub fun x hx => List.mem_of_mem_take hx, by rw [List.length_take]; omega, by rw [List.length_take]; omega⟩
  by_cases c : Sums (g.take j) g[j]
  ·refine EvB.bind (hG.yes ⟨hu, by omega, c⟩) (EvB.pos rfl (EvB.of_false (Ev.now _) fun h => ?_))
   have := h.1 j (Nat.le_refl _) hlt
   rw [getD_get hlt] at this
   exact this c
  ·refine EvB.bind (hG.no fun h => c h.2.2) (EvB.neg (by simp) ?_)
   rw [w64s (by omega)]
   refine (ih (j + 1) (by omega) (by omega)).iff ⟨fun h => ⟨fun i h1 h2 => ?_, h.2⟩, fun h => ⟨fun i h1 h2 => h.1 i (by omega) h2, h.2⟩⟩
   rcases Nat.lt_or_ge j i with h3 | h3
   ·exact h.1 i (by omega) h2
   ·have : i = j := by omega
    subst this
    rw [getD_get hlt]; exact c
theorem iIsSG (l : List Int) (hl : l.length ≤ 1048576) : EvB (fun k => impl_IsSemigroup.f k l) (IsSG l) := by
 unfold impl_IsSemigroup.f
 by_cases h1 : (1 : Int) ≤ l.length ∧ (l.length : Int) ≤ 12
 case neg => exact EvB.call (within_no h1) (EvB.neg (by simp) (EvB.step (fun _ => impl_IsSemigroup.j0.eq_2 ..) (EvB.pos rfl (EvB.of_false (Ev.now _) fun h => h1 ⟨by have := h.pos; omega, by have := h.le; omega⟩))))
 refine EvB.call (within_yes h1) (EvB.pos rfl ?_)
 by_cases hr : InR 1 60 l
 case neg => exact EvB.bind ((allWithin 1 60 l (by omega)).no hr) (EvB.neg (by simp) (EvB.step (fun _ => impl_IsSemigroup.j0.eq_2 ..) (EvB.pos rfl (EvB.of_false (Ev.now _) fun h => hr h.rng))))
 refine EvB.bind ((allWithin 1 60 l (by omega)).yes hr) (EvB.pos rfl ?_)
 by_cases ha : l.Pairwise (· < ·)
 case neg => exact EvB.bind ((iAsc l (by omega)).no ha) (EvB.neg (by simp) (EvB.step (fun _ => impl_IsSemigroup.j0.eq_2 ..) (EvB.pos rfl (EvB.of_false (Ev.now _) fun h => ha h.asc))))
 refine EvB.bind ((iAsc l (by omega)).yes ha) (EvB.pos rfl ?_)
 refine EvB.bind (iGcdList l (by omega) (hr.mono (Int.le_refl _) (by omega))) ?_
 refine EvB.step (fun _ => impl_IsSemigroup.j0.eq_2 ..) ?_
 by_cases hg : gcdL l = 1
 case neg => exact EvB.pos (by rw [bne_iff_ne]; omega) (EvB.of_false (Ev.now _) fun h => hg h.gcd)
 refine EvB.neg (by rw [hg]; simp) ?_
 refine (iSG_l0 l (by omega) (by omega) hr hg (l.length - 1) 1 rfl (by omega)).iff ⟨fun h => ⟨by omega, by omega, hr, ha, hg, h.1, h.2⟩, fun h => ⟨h.minl, h.ends⟩⟩
end Go.Proofs.Ytddgegejeoihaaa.FFnArf
end
section
namespace Go.Proofs.Ytddgegejeoihaaa.FFnArf
open Go Go.RowKit Go.Proofs.YtddgegejeoihaaaW.PrintWords Go.Proofs.Ytddgegejeoihaaa.M Go.Proofs.Ytddgegejeoihaaa.PFnArf
def FG (l : List Int) (r : List Int × Bool) : Prop := ∃ s, Sorted l s ∧ ((Use l ∧ IsSG (minOf [] s) ∧ r = (minOf [] s, true)) ∨ (¬ (Use l ∧ IsSG (minOf [] s)) ∧ r = ([], false)))
theorem FG.uniq {l : List Int} {r r' : List Int × Bool} (h : FG l r) (h' : FG l r') : r = r' := by
 obtain ⟨s, hs, h⟩ := h
 obtain ⟨s', hs', h'⟩ := h'
 have := hs.uniq hs'
 subst this
 rcases h with ⟨a, b, rfl⟩ | ⟨a, rfl⟩ <;> rcases h' with ⟨a', b', rfl⟩ | ⟨a', rfl⟩
 ·rfl
 ·exact absurd ⟨a, b⟩ a'
 ·exact absurd ⟨a', b'⟩ a
 ·rfl
theorem FG.ok {l g : List Int} (h : FG l (g, true)) : IsSG g := by
 obtain ⟨s, _, ⟨_, b, e⟩ | ⟨_, e⟩⟩ := h
 ·injection e with e1 _; subst e1; exact b
 ·injection e with _ e2; cases e2
theorem FG.no {l g : List Int} (h : FG l (g, false)) : g = [] := by
 obtain ⟨s, _, ⟨_, b, e⟩ | ⟨_, e⟩⟩ := h
 ·injection e with _ e2; cases e2
 ·injection e
theorem FG.cases {l : List Int} {r : List Int × Bool} (h : FG l r) : (r.2 = true ∧ IsSG r.1) ∨ r = ([], false) := by
 obtain ⟨g, b⟩ := r
 cases b with
 | true => exact .inl ⟨rfl, h.ok⟩
 | false => right; rw [h.no]
theorem sFG (l : List Int) (hl : l.length ≤ 1048576) : ∃ r, Ev (fun k => spec_FromGens.f k l) r ∧ FG l r := by
 by_cases hu : Use l
 ·obtain ⟨s, hs, hm⟩ := l3Minimal l hl (hu.1.mono (Int.le_refl _) (by omega))
  have hlen : (minOf [] s).length ≤ 1048576 := by have := (minOf_sublist s []).length_le; have := hs.2.2; omega
  by_cases hg : IsSG (minOf [] s)
  ·refine ⟨(minOf [] s, true), ?_, s, hs, .inl ⟨hu, hg, rfl⟩⟩
   unfold spec_FromGens.f
   refine Ev.bind ((l3Gens l (by omega)).yes hu) (Ev.pos rfl ?_)
   refine Ev.bind hm ?_
   exact Ev.bind ((sIsSG _ hlen).yes hg) (Ev.pos rfl (Ev.now _))
  ·refine ⟨([], false), ?_, s, hs, .inr ⟨fun h => hg h.2, rfl⟩⟩
   unfold spec_FromGens.f
   refine Ev.bind ((l3Gens l (by omega)).yes hu) (Ev.pos rfl ?_)
   refine Ev.bind hm ?_
   exact Ev.bind ((sIsSG _ hlen).no hg) (Ev.neg (by simp) (Ev.now _))
 ·obtain ⟨s, _, hs⟩ := sSort l hl
  refine ⟨([], false), ?_, s, hs, .inr ⟨fun h => hu h.1, rfl⟩⟩
  unfold spec_FromGens.f
  exact Ev.bind ((l3Gens l (by omega)).no hu) (Ev.neg (by simp) (Ev.now _))
theorem sums_append_congr {A B C : List Int} (h : ∀ n, Sums A n ↔ Sums B n) (n : Int) : Sums (A ++ C) n ↔ Sums (B ++ C) n := by
 constructor
 ·refine Sums.sub fun x hx => ?_
  rcases List.mem_append.1 hx with k | k
  ·exact ((h x).1 (.one k)).mono fun y hy => List.mem_append_left _ hy
  ·exact .one (List.mem_append_right _ k)
 ·refine Sums.sub fun x hx => ?_
  rcases List.mem_append.1 hx with k | k
  ·exact ((h x).2 (.one k)).mono fun y hy => List.mem_append_left _ hy
  ·exact .one (List.mem_append_right _ k)
theorem iFG_l0 (s : List Int) (hl : s.length ≤ 20) (hg : InR 1 60 s) (F : List Int) (r : List Int × Bool) (hr : (IsSG F ∧ r = (F, true)) ∨ (¬ IsSG F ∧ r = ([], false))) : ∀ (d j : Nat) (out : List Int), s.length - j = d → j ≤ s.length → out.length ≤ j → (∀ x ∈ out, x ∈ s) → (∀ n, Sums out n ↔ Sums (s.take j) n) → out ++ minOf (s.take j) (s.drop j) = F →
 Ev (fun k => impl_FromGens.l0 k s (s.length : Int) (j : Int) out) r := by
 intro d
 induction d with
 | zero =>
  intro j out hd hj ho hsub hS hF
  rw [List.drop_of_length_le (by omega)] at hF
  simp only [minOf, List.append_nil] at hF
  subst hF
  refine Ev.step (fun _ => impl_FromGens.l0.eq_2 ..) ?_
  refine Ev.neg (by omega) ?_
  rcases hr with ⟨h, rfl⟩ | ⟨h, rfl⟩
  ·exact Ev.bind ((iIsSG out (by omega)).yes h) (Ev.pos rfl (Ev.now _))
  ·exact Ev.bind ((iIsSG out (by omega)).no h) (Ev.neg (by simp) (Ev.now _))
 | succ d ih =>
  intro j out hd hj ho hsub hS hF
  have hlt : j < s.length := by omega
  have hx := hg _ (List.getElem_mem hlt)
  rw [drop_cons hlt, minOf] at hF
  have keep : ¬ Sums (s.take j) s[j] → Ev (fun k => impl_FromGens.l0 k s (s.length : Int) ((j + 1 : Nat) : Int) (out ++ [s[j]])) r := by
   intro h
   rw [if_neg h] at hF
   refine ih (j + 1) _ (by omega) (by omega) (by simp <;> omega) (fun x hx => ?_) (fun n => ?_) ?_
   ·rcases List.mem_append.1 hx with k | k
    ·exact hsub x k
    ·rw [List.mem_singleton] at k; subst k; exact List.getElem_mem hlt
   ·rw [take_snoc' hlt]; exact sums_append_congr hS n
   ·rw [take_snoc' hlt, List.append_assoc, List.singleton_append]; exact hF
  have skip : Sums (s.take j) s[j] → Ev (fun k => impl_FromGens.l0 k s (s.length : Int) ((j + 1 : Nat) : Int) out) r := by
   intro h
   rw [if_pos h] at hF
   refine ih (j + 1) _ (by omega) (by omega) (by omega) hsub (fun n => ?_) ?_
   ·rw [hS, take_snoc' hlt]
    constructor
    ·exact Sums.mono fun x hx => List.mem_append_left _ hx
    ·refine Sums.sub fun x hx => ?_
     rcases List.mem_append.1 hx with k | k
     ·exact .one k
     ·rw [List.mem_singleton] at k; subst k; exact h
   ·rw [take_snoc' hlt]; exact hF
  refine Ev.step (fun _ => impl_FromGens.l0.eq_2 ..) ?_
  refine Ev.pos (by omega) ?_
  refine Ev.pos (by omega) ?_
  refine Ev.pos (by omega) ?_
  rw [rd_get hlt, w64s (by omega)]
  by_cases h0 : out.length = 0
  ·refine Ev.pos (by omega) ?_
   refine Ev.pos (by omega) (keep fun h => ?_)
   have h1 := (hS _).2 h
   rw [List.length_eq_zero_iff.1 h0] at h1
   have := h1.nil
   omega
  ·refine Ev.neg (by omega) ?_
   have hu : Use out := ⟨hg.sub hsub, by omega, by omega⟩
   have hG := iGenerates out (by omega) s[j]
   by_cases c : Sums (s.take j) s[j]
   ·exact Ev.bind (hG.yes ⟨hu, by omega, (hS _).2 c⟩) (Ev.pos rfl (skip c))
   ·refine Ev.bind (hG.no fun h => c ((hS _).1 h.2.2)) (Ev.neg (by simp) ?_)
    exact Ev.pos (by omega) (keep c)
theorem iFG (l : List Int) (hl : l.length ≤ 1048576) : ∃ r, Ev (fun k => impl_FromGens.f k l) r ∧ FG l r := by
 obtain ⟨s, h1, hs⟩ := iSort l hl
 by_cases hu : Use l
 ·have hls : s.length ≤ 20 := by have := hs.2.2; have := hu.2.2; omega
  have hgs : InR 1 60 s := hu.1.sub fun x hx => (hs.2.1 x).1 hx
  have go : ∀ r : List Int × Bool, (IsSG (minOf [] s) ∧ r = (minOf [] s, true)) ∨ (¬ IsSG (minOf [] s) ∧ r = ([], false)) → Ev (fun k => impl_FromGens.f k l) r := by
   intro r hr
   unfold impl_FromGens.f
   refine Ev.bind ((usable l (by omega)).yes hu) (Ev.pos rfl ?_)
   refine Ev.call h1 ?_
   exact iFG_l0 s hls hgs (minOf [] s) r hr s.length 0 [] (by omega) (by omega) (by simp) (by simp) (by simp) (by simp)
  by_cases hg : IsSG (minOf [] s)
  ·exact ⟨_, go _ (.inl ⟨hg, rfl⟩), s, hs, .inl ⟨hu, hg, rfl⟩⟩
  ·exact ⟨_, go _ (.inr ⟨hg, rfl⟩), s, hs, .inr ⟨fun h => hg h.2, rfl⟩⟩
 ·refine ⟨([], false), ?_, s, hs, .inr ⟨fun h => hu h.1, rfl⟩⟩
  unfold impl_FromGens.f
  exact Ev.bind ((usable l (by omega)).no hu) (Ev.neg (by simp) (Ev.now _))
end Go.Proofs.Ytddgegejeoihaaa.FFnArf
end
section
namespace Go.Proofs.Ytddgegejeoihaaa.FFnArf
open Go Go.RowKit Go.Proofs.YtddgegejeoihaaaW.PrintWords Go.Proofs.Ytddgegejeoihaaa.M Go.Proofs.Ytddgegejeoihaaa.PFnArf
theorem _root_.Go.Proofs.Ytddgegejeoihaaa.M.IsSG.first' {l : List Int} (h : IsSG l) : 1 ≤ rd l 0 ∧ rd l 0 ≤ 60 ∧ rd l 0 ∈ l := by
 have hpos := h.pos
 have hm : rd l ((0 : Nat) : Int) ∈ l := rd_mem (by omega)
 exact ⟨(h.rng _ hm).1, (h.rng _ hm).2, hm⟩
def Elem (l : List Int) (n : Int) : Prop := IsSG l ∧ 0 ≤ n ∧ Sums l n
theorem sHas (l : List Int) (h : IsSG l) (n : Int) : EvB (fun k => spec_l3Has.f k l n) (0 ≤ n ∧ Sums l n) := by
 have hle := h.le
 unfold spec_l3Has.f
 by_cases c1 : n < 0
 ·exact EvB.pos c1 (EvB.dec ⟨fun k => by omega, fun k => by omega⟩)
 ·refine EvB.neg c1 ?_
  by_cases c2 : n ≥ 200
  ·exact EvB.pos c2 (EvB.dec ⟨fun k => ⟨by omega, h.ends n c2⟩, fun k => by omega⟩)
  ·refine EvB.neg c2 ?_
   obtain ⟨q, rfl⟩ : ∃ q : Nat, n = (q : Int) := ⟨n.toNat, by omega⟩
   obtain ⟨t, h1, h2, h3⟩ := l3Table l (by omega) (h.rng.mono (Int.le_refl _) (by omega)) q (by omega)
   refine EvB.bind h1 ?_
   refine EvB.pos (by omega) ?_
   refine EvB.pos (by omega) ?_
   rw [rdOf_nat]
   exact ⟨_, Ev.now _, (h3 q (Nat.le_refl _)).trans ⟨fun k => ⟨by omega, k⟩, fun k => k.2⟩⟩
theorem least_full {l R : List Int} (h : IsSG l) (hR : Least l (rd l 0) R) {r : Int} (h0 : 0 ≤ r) (h1 : r < rd l 0) : 0 ≤ rd R r := by
 have hf := h.first'
 rcases hR.cls r h0 h1 with ⟨_, k⟩ | ⟨k, _⟩
 ·exfalso
  obtain ⟨n, hn, hr⟩ := hits_gcdL (g := l) (a := rd l 0) (by omega) (fun x hx => by have := h.rng x hx; omega) r
  rw [h.gcd] at hr
  refine k n hn (hr.trans ?_)
  rw [show r * ((1 : Nat) : Int) = r by simp]
  exact Int.emod_eq_of_lt h0 h1
 ·exact k
theorem least_le {l R : List Int} (h : IsSG l) (hR : Least l (rd l 0) R) (n : Int) : rd R (n % rd l 0) ≤ n ↔ Sums l n := by
 have hf := h.first'
 have m0 := Int.emod_nonneg n (show rd l 0 ≠ 0 by omega)
 have m1 := Int.emod_lt_of_pos n (show 0 < rd l 0 by omega)
 have := least_full h hR m0 m1
 have key := least_sums hR (by omega) hf.2.2 (n := n)
 exact ⟨fun k => key.1 ⟨this, k⟩, fun k => (key.2 k).2⟩
theorem sContains (l : List Int) (hl : l.length ≤ 1048576) (n : Int) : EvB (fun k => spec_Contains.f k l n) (Elem l n) := by
 unfold spec_Contains.f
 by_cases h : IsSG l
 ·refine EvB.bind ((sIsSG l hl).yes h) (EvB.pos rfl ?_)
  obtain ⟨b, h1, h2⟩ := sHas l h n
  exact EvB.bind h1 ⟨b, Ev.now _, h2.trans ⟨fun k => ⟨h, k⟩, fun k => k.2⟩⟩
 ·exact EvB.bind ((sIsSG l hl).no h) (EvB.neg (by simp) (EvB.of_false (Ev.now _) fun k => h k.1))
theorem iContains (l : List Int) (hl : l.length ≤ 1048576) (n : Int) : EvB (fun k => impl_Contains.f k l n) (Elem l n) := by
 unfold impl_Contains.f
 by_cases c1 : n < 0
 ·exact EvB.pos c1 (EvB.of_false (Ev.now _) fun k => by have := k.2.1; omega)
 refine EvB.neg c1 ?_
 by_cases h : IsSG l
 ·have hle := h.le
  have hpos := h.pos
  have hf := h.first'
  refine EvB.bind ((iIsSG l hl).yes h) (EvB.pos rfl ?_)
  by_cases c2 : n ≥ 200
  ·exact EvB.pos c2 (EvB.of_true (Ev.now _) ⟨h, by omega, h.ends n c2⟩)
  ·refine EvB.neg c2 ?_
   refine EvB.pos (by omega) ?_
   obtain ⟨R, h1, h2⟩ := leasts l (by omega) h.rng (rd l 0) hf.1 hf.2.1
   have m0 := Int.emod_nonneg n (show rd l 0 ≠ 0 by omega)
   have m1 := Int.emod_lt_of_pos n (show 0 < rd l 0 by omega)
   refine EvB.bind h1 ?_
   rw [tmod_pos (by omega)]
   refine EvB.neg (by omega) ?_
   refine EvB.pos m0 ?_
   refine EvB.pos (by rw [h2.len]; exact m1) ?_
   exact EvB.dec ((least_le h h2 n).trans ⟨fun k => ⟨h, by omega, k⟩, fun k => k.2.2⟩)
 ·exact EvB.bind ((iIsSG l hl).no h) (EvB.neg (by simp) (EvB.of_false (Ev.now _) fun k => h k.1))
theorem mem_drop {l : List Int} {j : Nat} (h : j < l.length) (x : Int) : x ∈ l.drop j ↔ x = l[j] ∨ x ∈ l.drop (j + 1) := by rw [drop_cons h, List.mem_cons]
theorem sHasNum_l0 (l : List Int) (x : Int) (hl : l.length ≤ 4611686018427387904) : ∀ (d j : Nat), l.length - j = d → j ≤ l.length → EvB (fun k => spec_HasNumber.l0 k l x (j : Int)) (x ∈ l.drop j) := by
 intro d
 induction d with
 | zero =>
  intro j hd hj
  refine EvB.step (fun _ => spec_HasNumber.l0.eq_2 ..) ?_
  refine EvB.neg (by omega) (EvB.of_false (Ev.now _) ?_)
  rw [List.drop_of_length_le (by omega)]; simp
 | succ d ih =>
  intro j hd hj
  have hlt : j < l.length := by omega
  refine EvB.step (fun _ => spec_HasNumber.l0.eq_2 ..) ?_
  refine EvB.pos (by omega) ?_
  refine EvB.pos (by omega) ?_
  rw [rd_get hlt]
  by_cases c : l[j] = x
  ·exact EvB.pos c (EvB.of_true (Ev.now _) ((mem_drop hlt x).2 (.inl c.symm)))
  ·refine EvB.neg c ?_
   rw [w64s (by omega)]
   exact (ih (j + 1) (by omega) (by omega)).iff ⟨fun k => (mem_drop hlt x).2 (.inr k), fun k => ((mem_drop hlt x).1 k).elim (fun e => absurd e.symm c) id⟩
theorem sHasNum (l : List Int) (x : Int) (hl : l.length ≤ 4611686018427387904) : EvB (fun k => spec_HasNumber.f k l x) (x ∈ l) := sHasNum_l0 l x hl l.length 0 (by omega) (by omega)
end Go.Proofs.Ytddgegejeoihaaa.FFnArf
end
section
namespace Go.Proofs.Ytddgegejeoihaaa.FFnArf
open Go Go.RowKit Go.Proofs.YtddgegejeoihaaaW.PrintWords Go.Proofs.Ytddgegejeoihaaa.M Go.Proofs.Ytddgegejeoihaaa.PFnArf
noncomputable def gapsUp (l : List Int) : Nat → List Int
 | 0 => []
 | n + 1 => open Classical in gapsUp l n ++ (if Sums l n then [] else [(n : Int)])
theorem gapsUp_len (l : List Int) (n : Nat) : (gapsUp l n).length ≤ n := by
 induction n with
 | zero => simp [gapsUp]
 | succ n ih => unfold gapsUp; rw [List.length_append]; split <;> simp <;> omega
theorem gapsUp_mem (l : List Int) (n : Nat) (x : Int) : x ∈ gapsUp l n ↔ 0 ≤ x ∧ x < n ∧ ¬ Sums l x := by
 induction n with
 | zero => simp [gapsUp]; omega
 | succ n ih =>
  unfold gapsUp
  rw [List.mem_append, ih]
  by_cases c : Sums l n
  ·rw [if_pos c]
   constructor
   ·rintro (h | h)
    ·exact ⟨h.1, by omega, h.2.2⟩
    ·simp at h
   ·rintro ⟨h1, h2, h3⟩
    refine .inl ⟨h1, ?_, h3⟩
    rcases Int.lt_or_le x n with k | k
    ·exact k
    ·exact absurd ((show (n : Int) = x by omega) ▸ c) h3
  ·rw [if_neg c, List.mem_singleton]
   constructor
   ·rintro (h | rfl)
    ·exact ⟨h.1, by omega, h.2.2⟩
    ·exact ⟨by omega, by omega, c⟩
   ·rintro ⟨h1, h2, h3⟩
    rcases Int.lt_or_le x n with k | k
    ·exact .inl ⟨h1, k, h3⟩
    ·exact .inr (by omega)
theorem gapsUp_asc (l : List Int) (n : Nat) : (gapsUp l n).Pairwise (· < ·) := by
 induction n with
 | zero => simp [gapsUp]
 | succ n ih =>
  unfold gapsUp
  rw [List.pairwise_append]
  refine ⟨ih, by split <;> simp, fun a ha b hb => ?_⟩
  have := (gapsUp_mem l n a).1 ha
  split at hb
  ·simp at hb
  ·rw [List.mem_singleton] at hb; omega
noncomputable def gaps (l : List Int) : List Int := gapsUp l 200
theorem gaps_len (l : List Int) : (gaps l).length ≤ 200 := by unfold gaps; exact gapsUp_len l _
theorem gapsUp_one (l : List Int) : gapsUp l 1 = [] := by unfold gapsUp gapsUp; rw [if_pos (by exact Sums.zero)]; rfl
theorem gapsUp_201 {l : List Int} (h : IsSG l) : gapsUp l 201 = gaps l := by
 have hs : Sums l ((200 : Nat) : Int) := h.ends _ (by omega)
 show gapsUp l (200 + 1) = _
 unfold gapsUp
 rw [if_pos hs, List.append_nil]
 rfl
theorem sGaps_l0 (l : List Int) (t : List Bool) (ht : t.length = 201) (htab : ∀ m : Nat, m ≤ 200 → (t.getD m false = true ↔ Sums l m)) : ∀ (d j : Nat), 200 - j = d → j ≤ 200 → Ev (fun k => spec_l4Gaps.l0 k (gapsUp l j) t (j : Int)) (gaps l) := by
 intro d
 induction d with
 | zero =>
  intro j hd hj
  have : j = 200 := by omega
  subst this
  refine Ev.step (fun _ => spec_l4Gaps.l0.eq_2 ..) ?_
  exact Ev.neg (by omega) (Ev.now _)
 | succ d ih =>
  intro j hd hj
  have := ih (j + 1) (by omega) (by omega)
  have hg := gapsUp_len l j
  refine Ev.step (fun _ => spec_l4Gaps.l0.eq_2 ..) ?_
  refine Ev.pos (by omega) ?_
  refine Ev.pos (by omega) ?_
  refine Ev.pos (by omega) ?_
  rw [rdOf_nat, w64s (by omega)]
  unfold gapsUp at this
  by_cases c : Sums l j
  ·rw [if_pos c, List.append_nil] at this
   exact Ev.pos ((htab j (by omega)).2 c) this
  ·rw [if_neg c] at this
   exact Ev.neg (fun k => c ((htab j (by omega)).1 k)) (Ev.pos (by omega) this)
theorem sL4Gaps (l : List Int) (h : IsSG l) : Ev (fun k => spec_l4Gaps.f k l) (gaps l) := by
 have hle := h.le
 obtain ⟨t, h1, h2, h3⟩ := l3Table l (by omega) (h.rng.mono (Int.le_refl _) (by omega)) 200 (by omega)
 unfold spec_l4Gaps.f
 refine Ev.bind h1 ?_
 have := sGaps_l0 l t (by omega) h3 199 1 (by omega) (by omega)
 rw [gapsUp_one] at this
 exact this
theorem sGaps (l : List Int) (hl : l.length ≤ 1048576) : ∃ g, Ev (fun k => spec_Gaps.f k l) g ∧ ((IsSG l ∧ g = gaps l) ∨ (¬ IsSG l ∧ g = [])) := by
 unfold spec_Gaps.f
 by_cases h : IsSG l
 ·exact ⟨gaps l, Ev.bind ((sIsSG l hl).yes h) (Ev.pos rfl (Ev.bind (sL4Gaps l h) (Ev.now _))), .inl ⟨h, rfl⟩⟩
 ·exact ⟨[], Ev.bind ((sIsSG l hl).no h) (Ev.neg (by simp) (Ev.now _)), .inr ⟨h, rfl⟩⟩
theorem iTable_l0 (l R : List Int) (h : IsSG l) (hR : Least l (rd l 0) R) (N : Nat) (hN : N ≤ 1000000) : ∀ (d j : Nat) (t : List Bool), N + 1 - j = d → j ≤ N + 1 → t.length = N + 1 → (∀ m : Nat, m < j → (t.getD m false = true ↔ Sums l m)) → ∃ t', Ev (fun k => impl_table.l0 k R t ((N + 1 : Nat) : Int) (j : Int) l) t' ∧ t'.length = N + 1 ∧ ∀ m : Nat, m ≤ N → (t'.getD m false = true ↔ Sums l m) := by
 have hpos := h.pos
 have hf := h.first'
 intro d
 induction d with
 | zero =>
  intro j t hd hj ht hm
  refine ⟨t, ?_, ht, fun m hmN => hm m (by omega)⟩
  refine Ev.step (fun _ => impl_table.l0.eq_2 ..) ?_
  exact Ev.neg (by omega) (Ev.now _)
 | succ d ih =>
  intro j t hd hj ht hm
  have m0 := Int.emod_nonneg (j : Int) (show rd l 0 ≠ 0 by omega)
  have m1 := Int.emod_lt_of_pos (j : Int) (show 0 < rd l 0 by omega)
  obtain ⟨t', a, b, c⟩ := ih (j + 1) (t.set j (decide (rd R ((j : Int) % rd l 0) ≤ j))) (by omega) (by omega) (by simpa using ht) (fun m hmj => by
   rw [getD_set _ _ _ _ _ (by omega)]
   by_cases e : m = j
   ·subst e; rw [if_pos rfl, decide_eq_true_iff]; exact least_le h hR m
   ·rw [if_neg e]; exact hm m (by omega))
  refine ⟨t', ?_, b, c⟩
  refine Ev.step (fun _ => impl_table.l0.eq_2 ..) ?_
  refine Ev.pos (by omega) ?_
  refine Ev.pos (by omega) ?_
  rw [tmod_pos (by omega)]
  refine Ev.neg (by omega) ?_
  refine Ev.pos m0 ?_
  refine Ev.pos (by rw [hR.len]; exact m1) ?_
  refine Ev.pos (by omega) ?_
  refine Ev.pos (by omega) ?_
  rw [w64s (by omega), Int.toNat_natCast]
  exact a
theorem iTable (l : List Int) (h : IsSG l) (N : Nat) (hN : N ≤ 1000000) : ∃ t, Ev (fun k => impl_table.f k l (N : Int)) t ∧ t.length = N + 1 ∧ ∀ m : Nat, m ≤ N → (t.getD m false = true ↔ Sums l m) := by
 have hpos := h.pos
 have hle := h.le
 have hf := h.first'
 obtain ⟨R, h1, h2⟩ := leasts l (by omega) h.rng (rd l 0) hf.1 hf.2.1
 obtain ⟨t, a, b⟩ := iTable_l0 l R h h2 N hN (N + 1) 0 (List.replicate (N + 1) false) (by omega) (by omega) (by simp) (fun m hm => by omega)
 refine ⟨t, ?_, b⟩
 unfold impl_table.f
 refine Ev.pos (by omega) ?_
 refine Ev.bind h1 ?_
 rw [w64s (by omega), Int.toNat_natCast]
 refine Ev.pos (by omega) ?_
 refine Ev.pos (by omega) ?_
 refine Ev.call rfl ?_
 rw [List.length_replicate]
 exact a
theorem iGaps_l0 (l : List Int) (h : IsSG l) (t : List Bool) (ht : t.length = 201) (htab : ∀ m : Nat, m ≤ 200 → (t.getD m false = true ↔ Sums l m)) : ∀ (d j : Nat), 201 - j = d → j ≤ 201 → Ev (fun k => impl_Gaps.l0 k (gapsUp l j) t ((201 : Nat) : Int) (j : Int)) (gaps l) := by
 intro d
 induction d with
 | zero =>
  intro j hd hj
  have : j = 201 := by omega
  subst this
  refine Ev.step (fun _ => impl_Gaps.l0.eq_2 ..) ?_
  rw [gapsUp_201 h]
  exact Ev.neg (by omega) (Ev.now _)
 | succ d ih =>
  intro j hd hj
  have := ih (j + 1) (by omega) (by omega)
  have hg := gapsUp_len l j
  refine Ev.step (fun _ => impl_Gaps.l0.eq_2 ..) ?_
  refine Ev.pos (by omega) ?_
  refine Ev.pos (by omega) ?_
  refine Ev.pos (by omega) ?_
  rw [rdOf_nat, w64s (by omega)]
  unfold gapsUp at this
  by_cases c : Sums l j
  ·rw [if_pos c, List.append_nil] at this
   exact Ev.pos ((htab j (by omega)).2 c) this
  ·rw [if_neg c] at this
   exact Ev.neg (fun k => c ((htab j (by omega)).1 k)) (Ev.pos (by omega) this)
theorem iGaps (l : List Int) (hl : l.length ≤ 1048576) : ∃ g, Ev (fun k => impl_Gaps.f k l) g ∧ ((IsSG l ∧ g = gaps l) ∨ (¬ IsSG l ∧ g = [])) := by
 unfold impl_Gaps.f
 by_cases h : IsSG l
 ·refine ⟨gaps l, ?_, .inl ⟨h, rfl⟩⟩
  obtain ⟨t, h1, h2, h3⟩ := iTable l h 200 (by omega)
  refine Ev.bind ((iIsSG l hl).yes h) (Ev.pos rfl ?_)
  refine Ev.bind h1 ?_
  have h2' : t.length = 201 := by omega
  rw [h2']
  have := iGaps_l0 l h t h2' h3 201 0 (by omega) (by omega)
  have e0 : gapsUp l 0 = [] := rfl
  rw [e0] at this
  refine Ev.congr (fun k => ?_) this
  rfl
 ·exact ⟨[], Ev.bind ((iIsSG l hl).no h) (Ev.neg (by simp) (Ev.now _)), .inr ⟨h, rfl⟩⟩
def lastOf (g : List Int) : Int := if g.length = 0 then -1 else g.getD (g.length - 1) 0
theorem gaps_both {l g g' : List Int} (h : (IsSG l ∧ g = gaps l) ∨ (¬ IsSG l ∧ g = [])) (h' : (IsSG l ∧ g' = gaps l) ∨ (¬ IsSG l ∧ g' = [])) : g = g' ∧ g.length ≤ 200 := by
 rcases h with ⟨a, e⟩ | ⟨a, e⟩ <;> rcases h' with ⟨a', e'⟩ | ⟨a', e'⟩
 ·rw [e, e']; exact ⟨Eq.refl _, gaps_len l⟩
 ·exact absurd a a'
 ·exact absurd a' a
 ·rw [e, e']; exact ⟨Eq.refl _, by simp⟩
theorem frobBoth (l : List Int) (hl : l.length ≤ 1048576) : ∃ g, ((IsSG l ∧ g = gaps l) ∨ (¬ IsSG l ∧ g = [])) ∧ Ev (fun k => spec_FrobeniusOf.f k l) (lastOf g) ∧ Ev (fun k => impl_FrobeniusOf.f k l) (lastOf g) := by
 obtain ⟨g, s1, s2⟩ := sGaps l hl
 obtain ⟨g', i1, i2⟩ := iGaps l hl
 obtain ⟨e, hg⟩ := gaps_both s2 i2
 subst e
 refine ⟨g, s2, ?_, ?_⟩
 ·unfold spec_FrobeniusOf.f
  refine Ev.bind s1 ?_
  unfold lastOf
  by_cases c : g.length = 0
  ·rw [if_pos c]; exact Ev.pos (by omega) (Ev.now _)
  ·rw [if_neg c]
   refine Ev.neg (by omega) ?_
   rw [w64p (by omega) (by omega), rd_nat]
   exact Ev.pos (by omega) (Ev.pos (by omega) (Ev.now _))
 ·unfold impl_FrobeniusOf.f
  refine Ev.bind i1 ?_
  unfold lastOf
  by_cases c : g.length = 0
  ·rw [if_pos c]; exact Ev.pos (by omega) (Ev.now _)
  ·rw [if_neg c]
   refine Ev.neg (by omega) ?_
   rw [w64p (by omega) (by omega), rd_nat]
   exact Ev.pos (by omega) (Ev.pos (by omega) (Ev.now _))
end Go.Proofs.Ytddgegejeoihaaa.FFnArf
end
