/- Plain tools: what holds from some number of rounds on; whole numbers that do not wrap; lists by index. No condition. -/
import Derived.Test.YtbjbolblahlhcaaM1ZFnExactGlueFrobenius
namespace Go.Proofs.Ytbjbolblahlhcaa.M
open Go Go.RowKit Go.Proofs.YtbjbolblahlhcaaW.PrintWords
theorem Ev.pos {α : Type} {c : Prop} [Decidable c] {A B : Nat → Option α} {r : α} (h : c) (k : Ev A r) : Ev (fun n => if c then A n else B n) r := by
 simpa only [if_pos h] using k
theorem Ev.neg {α : Type} {c : Prop} [Decidable c] {A B : Nat → Option α} {r : α} (h : ¬ c) (k : Ev B r) : Ev (fun n => if c then A n else B n) r := by
 simpa only [if_neg h] using k
theorem Ev.call {α β : Type} {g : Option α} {f : Nat → α → Option β} {a : α} {r : β} (h : g = some a) (k : Ev (fun n => f n a) r) : Ev (fun n => g.bind (f n)) r := by
 subst h; exact k
theorem Ev.same {α : Type} {g : Nat → Option α} {r r' : α} (h : Ev g r) (h' : Ev g r') : r = r' := by
 obtain ⟨K, h⟩ := h
 obtain ⟨K', h'⟩ := h'
 have h1 := h (max K K') (Nat.le_max_left _ _)
 have h2 := h' (max K K') (Nat.le_max_right _ _)
 rw [h1] at h2
 exact Option.some.inj h2
def EvB (g : Nat → Option Bool) (P : Prop) : Prop := ∃ b : Bool, Ev g b ∧ (b = true ↔ P)
theorem EvB.iff {g : Nat → Option Bool} {P Q : Prop} (h : EvB g P) (k : P ↔ Q) : EvB g Q := by
 obtain ⟨b, h1, h2⟩ := h
 exact ⟨b, h1, h2.trans k⟩
theorem EvB.yes {g : Nat → Option Bool} {P : Prop} (h : EvB g P) (k : P) : Ev g true := by
 obtain ⟨b, h1, h2⟩ := h
 rw [h2.2 k] at h1; exact h1
theorem EvB.no {g : Nat → Option Bool} {P : Prop} (h : EvB g P) (k : ¬ P) : Ev g false := by
 obtain ⟨b, h1, h2⟩ := h
 cases b with
 | false => exact h1
 | true => exact absurd (h2.1 rfl) k
theorem EvB.of_true {g : Nat → Option Bool} {P : Prop} (h : Ev g true) (k : P) : EvB g P := ⟨true, h, by simp [k]⟩
theorem EvB.of_false {g : Nat → Option Bool} {P : Prop} (h : Ev g false) (k : ¬ P) : EvB g P := ⟨false, h, by simp [k]⟩
theorem EvB.step {g f : Nat → Option Bool} {P : Prop} (h : ∀ k, g (k + 1) = f k) (k : EvB f P) : EvB g P := by
 obtain ⟨b, h1, h2⟩ := k
 exact ⟨b, Ev.step h h1, h2⟩
theorem EvB.pos {c : Prop} [Decidable c] {A B : Nat → Option Bool} {P : Prop} (h : c) (k : EvB A P) : EvB (fun n => if c then A n else B n) P := by
 obtain ⟨b, h1, h2⟩ := k
 exact ⟨b, Ev.pos h h1, h2⟩
theorem EvB.neg {c : Prop} [Decidable c] {A B : Nat → Option Bool} {P : Prop} (h : ¬ c) (k : EvB B P) : EvB (fun n => if c then A n else B n) P := by
 obtain ⟨b, h1, h2⟩ := k
 exact ⟨b, Ev.neg h h1, h2⟩
theorem EvB.bind {α : Type} {g : Nat → Option α} {f : Nat → α → Option Bool} {a : α} {P : Prop} (h : Ev g a) (k : EvB (fun n => f n a) P) : EvB (fun n => (g n).bind (f n)) P := by
 obtain ⟨b, h1, h2⟩ := k
 exact ⟨b, Ev.bind h h1, h2⟩
theorem EvB.call {α : Type} {g : Option α} {f : Nat → α → Option Bool} {a : α} {P : Prop} (h : g = some a) (k : EvB (fun n => f n a) P) : EvB (fun n => g.bind (f n)) P := by
 subst h; exact k
theorem EvB.dec {c : Prop} [Decidable c] {P : Prop} (h : c ↔ P) : EvB (fun _ => some (decide c)) P := ⟨decide c, Ev.now _, by simpa using h⟩
theorem EvB.eqv {g g' : Nat → Option Bool} {P : Prop} (h : EvB g P) (h' : EvB g' P) : ∃ b, Ev g b ∧ Ev g' b ∧ (b = true ↔ P) := by
 obtain ⟨b, h1, h2⟩ := h
 obtain ⟨b', h1', h2'⟩ := h'
 have : b' = b := by rw [Bool.eq_iff_iff, h2, h2']
 subst this
 exact ⟨b', h1, h1', h2⟩
theorem w64 {x : Int} (h1 : -9223372036854775808 ≤ x) (h2 : x ≤ 9223372036854775807) : wrap64 x = x := by unfold wrap64; omega
theorem w64s {j : Nat} (h : j < 9223372036854775807) : wrap64 ((j : Int) + 1) = ((j + 1 : Nat) : Int) := by unfold wrap64; omega
theorem w64p {j : Nat} (h : 1 ≤ j) (h2 : j ≤ 9223372036854775807) : wrap64 ((j : Int) - 1) = ((j - 1 : Nat) : Int) := by unfold wrap64; omega
theorem rd_nat (xs : List Int) (i : Nat) : rd xs (i : Int) = xs.getD i 0 := by simp [rd]
theorem rdOf_nat {α : Type} (d : α) (xs : List α) (i : Nat) : rdOf d xs (i : Int) = xs.getD i d := by simp [rdOf]
theorem rd_get {xs : List Int} {i : Nat} (h : i < xs.length) : rd xs (i : Int) = xs[i] := by rw [rd_nat, List.getD_eq_getElem?_getD, List.getElem?_eq_getElem h]; rfl
theorem rdOf_get {α : Type} {d : α} {xs : List α} {i : Nat} (h : i < xs.length) : rdOf d xs (i : Int) = xs[i] := by rw [rdOf_nat, List.getD_eq_getElem?_getD, List.getElem?_eq_getElem h]; rfl
theorem getD_get {α : Type} {d : α} {xs : List α} {i : Nat} (h : i < xs.length) : xs.getD i d = xs[i] := by rw [List.getD_eq_getElem?_getD, List.getElem?_eq_getElem h]; rfl
theorem rd_mem {xs : List Int} {i : Nat} (h : i < xs.length) : rd xs (i : Int) ∈ xs := by rw [rd_get h]; exact List.getElem_mem h
theorem drop_cons {α : Type} {xs : List α} {i : Nat} (h : i < xs.length) : xs.drop i = xs[i] :: xs.drop (i + 1) := List.drop_eq_getElem_cons h
theorem take_snoc' {α : Type} {xs : List α} {i : Nat} (h : i < xs.length) : xs.take (i + 1) = xs.take i ++ [xs[i]] := by rw [List.take_succ_eq_append_getElem h]
theorem tmod_pos {a b : Int} (h : 0 ≤ a) : Int.tmod a b = a % b := Int.tmod_eq_emod_of_nonneg h
theorem asc_ext : ∀ {s t : List Int}, s.Pairwise (· < ·) → t.Pairwise (· < ·) → (∀ x, x ∈ s ↔ x ∈ t) → s = t
 | [], [], _, _, _ => rfl
 | [], y :: t, _, _, h => by have := (h y).2 List.mem_cons_self; simp at this
 | x :: s, [], _, _, h => by have := (h x).1 List.mem_cons_self; simp at this
 | x :: s, y :: t, hs, ht, h => by
  obtain ⟨hs1, hs2⟩ := List.pairwise_cons.1 hs
  obtain ⟨ht1, ht2⟩ := List.pairwise_cons.1 ht
  have hxy : x = y := by
   rcases List.mem_cons.1 ((h x).1 List.mem_cons_self) with e | e
   ·exact e
   ·rcases List.mem_cons.1 ((h y).2 List.mem_cons_self) with e' | e'
    ·exact e'.symm
    ·have := ht1 x e; have := hs1 y e'; omega
  subst hxy
  congr 1
  refine asc_ext hs2 ht2 fun z => ⟨fun hz => ?_, fun hz => ?_⟩
  ·rcases List.mem_cons.1 ((h z).1 (List.mem_cons_of_mem _ hz)) with e | e
   ·subst e; have := hs1 z hz; omega
   ·exact e
  ·rcases List.mem_cons.1 ((h z).2 (List.mem_cons_of_mem _ hz)) with e | e
   ·subst e; have := ht1 z hz; omega
   ·exact e
theorem pairwise_of_adj {s : List Int} (h : ∀ i : Nat, i + 1 < s.length → s.getD i 0 < s.getD (i + 1) 0) : s.Pairwise (· < ·) := by
 rw [List.pairwise_iff_getElem]
 intro i j hi hj hij
 induction j with
 | zero => omega
 | succ j ih =>
  have h1 := h j (by omega)
  rw [getD_get (by omega), getD_get (by omega)] at h1
  rcases Nat.lt_or_ge i j with hlt | hge
  ·exact Int.lt_trans (ih (by omega) hlt) h1
  ·have : i = j := by omega
   subst this; exact h1
theorem adj_of_pairwise {s : List Int} (h : s.Pairwise (· < ·)) {i : Nat} (hi : i + 1 < s.length) : s.getD i 0 < s.getD (i + 1) 0 := by
 rw [getD_get (by omega), getD_get (by omega)]
 exact List.pairwise_iff_getElem.1 h i (i + 1) (by omega) (by omega) (by omega)
theorem sum_set (f : Int → Nat) : ∀ (R : List Int) (i : Nat) (h : i < R.length) (v : Int), ((R.set i v).map f).sum + f R[i] = (R.map f).sum + f v
 | [], i, h, v => by simp at h
 | x :: R, 0, h, v => by simp; omega
 | x :: R, i + 1, h, v => by
  have := sum_set f R i (by simpa using h) v
  simp only [List.set_cons_succ, List.map_cons, List.sum_cons, List.getElem_cons_succ]
  omega
theorem sum_ge (f : Int → Nat) {R : List Int} {i : Nat} (h : i < R.length) : f R[i] ≤ (R.map f).sum := by
 induction R generalizing i with
 | nil => simp at h
 | cons x R ih =>
  cases i with
  | zero => simp
  | succ i =>
   have := ih (i := i) (by simpa using h)
   simp only [List.map_cons, List.sum_cons, List.getElem_cons_succ]
   omega
theorem sum_le_len (f : Int → Nat) (hf : ∀ x, f x ≤ 1) (R : List Int) : (R.map f).sum ≤ R.length := by
 induction R with
 | nil => simp
 | cons x R ih => have := hf x; simp only [List.map_cons, List.sum_cons, List.length_cons]; omega
theorem InR.mono {lo hi lo' hi' : Int} {l : List Int} (h : InR lo hi l) (h1 : lo' ≤ lo) (h2 : hi ≤ hi') : InR lo' hi' l := fun x hx => ⟨by have := h x hx; omega, by have := h x hx; omega⟩
theorem InR.sub {lo hi : Int} {l l' : List Int} (h : InR lo hi l) (hs : ∀ x ∈ l', x ∈ l) : InR lo hi l' := fun x hx => h x (hs x hx)
end Go.Proofs.Ytbjbolblahlhcaa.M
