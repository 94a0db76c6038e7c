/- Plain mathematics of sums of numbers of a list, and of sorted lists: no program in sight. No condition. -/
import Derived.Test.YtbjbolblahlhcaaWWordsZFnExactGlueFrobenius
namespace Go.Proofs.Ytbjbolblahlhcaa.M
open Go Go.RowKit Go.Proofs.YtbjbolblahlhcaaW.PrintWords
inductive Sums (g : List Int) : Int → Prop
 | zero : Sums g 0
 | add {n x : Int} : x ∈ g → Sums g n → Sums g (n + x)
theorem Sums.trans {g : List Int} {a b : Int} (ha : Sums g a) (hb : Sums g b) : Sums g (a + b) := by
 induction hb with
 | zero => simpa using ha
 | add hx _ ih => rw [← Int.add_assoc]; exact .add hx ih
theorem Sums.one {g : List Int} {x : Int} (h : x ∈ g) : Sums g x := by simpa using Sums.add h .zero
theorem Sums.sub {g g' : List Int} {n : Int} (h : ∀ x ∈ g, Sums g' x) (hn : Sums g n) : Sums g' n := by
 induction hn with
 | zero => exact .zero
 | add hx _ ih => exact ih.trans (h _ hx)
theorem Sums.mono {g g' : List Int} {n : Int} (h : ∀ x ∈ g, x ∈ g') (hn : Sums g n) : Sums g' n := hn.sub fun x hx => .one (h x hx)
theorem Sums.nonneg {g : List Int} {n : Int} (h : ∀ x ∈ g, 1 ≤ x) (hn : Sums g n) : 0 ≤ n := by
 induction hn with
 | zero => omega
 | add hx _ ih => have := h _ hx; omega
theorem Sums.step {g : List Int} {n : Int} (hn : Sums g n) (h0 : n ≠ 0) : ∃ x ∈ g, Sums g (n - x) := by
 cases hn with
 | zero => exact absurd rfl h0
 | add hx h => exact ⟨_, hx, by rw [Int.add_sub_cancel]; exact h⟩
theorem Sums.mul {g : List Int} {n : Int} (hn : Sums g n) (k : Nat) : Sums g (k * n) := by
 induction k with
 | zero => simpa using Sums.zero
 | succ k ih => rw [Int.natCast_succ, Int.add_mul, Int.one_mul]; exact ih.trans hn
theorem Sums.nil {n : Int} (h : Sums [] n) : n = 0 := by
 cases h with
 | zero => rfl
 | add hx _ => simp at hx
theorem Sums.step_le {g : List Int} (hg : ∀ x ∈ g, 1 ≤ x) {n : Int} : Sums g n ↔ n = 0 ∨ ∃ x ∈ g, x ≤ n ∧ Sums g (n - x) := by
 constructor
 ·intro h
  by_cases h0 : n = 0
  ·exact .inl h0
  ·obtain ⟨x, hx, h⟩ := h.step h0
   exact .inr ⟨x, hx, by have := h.nonneg hg; omega, h⟩
 ·rintro (rfl | ⟨x, hx, _, h⟩)
  ·exact .zero
  ·have := Sums.add hx h
   rwa [Int.sub_add_cancel] at this
theorem emod_add_congr {a b c d m : Int} (h1 : a % m = b % m) (h2 : c % m = d % m) : (a + c) % m = (b + d) % m := by
 rw [Int.add_emod, h1, h2, ← Int.add_emod]
theorem emod_mul_congr {a b m : Int} (k : Int) (h1 : a % m = b % m) : (k * a) % m = (k * b) % m := by
 rw [Int.mul_emod, h1, ← Int.mul_emod]
def Hits (g : List Int) (a d : Int) : Prop := ∃ n, Sums g n ∧ n % a = d % a
theorem Hits.add {g : List Int} {a d e : Int} : Hits g a d → Hits g a e → Hits g a (d + e) := by
 rintro ⟨n, hn, h1⟩ ⟨m, hm, h2⟩
 exact ⟨n + m, hn.trans hm, emod_add_congr h1 h2⟩
theorem Hits.mul {g : List Int} {a d : Int} (k : Nat) : Hits g a d → Hits g a (k * d) := by
 rintro ⟨n, hn, h1⟩
 exact ⟨k * n, hn.mul k, emod_mul_congr _ h1⟩
theorem Hits.congr {g : List Int} {a d e : Int} (h : Hits g a d) (he : d % a = e % a) : Hits g a e := by
 obtain ⟨n, hn, h1⟩ := h
 exact ⟨n, hn, h1.trans he⟩
theorem Hits.neg {g : List Int} {a d : Int} (ha : 1 ≤ a) (h : Hits g a d) : Hits g a (-d) := by
 have := Hits.mul (a - 1).toNat h
 refine this.congr ?_
 rw [Int.toNat_of_nonneg (by omega), Int.sub_mul, Int.one_mul, Int.sub_eq_add_neg, Int.add_comm, Int.add_mul_emod_self_left]
theorem Hits.sub {g : List Int} {a d e : Int} (ha : 1 ≤ a) (h : Hits g a d) (h' : Hits g a e) : Hits g a (d - e) := by
 rw [Int.sub_eq_add_neg]; exact h.add (h'.neg ha)
theorem Hits.zmul {g : List Int} {a d : Int} (ha : 1 ≤ a) (k : Int) (h : Hits g a d) : Hits g a (k * d) := by
 rcases Int.le_total 0 k with hk | hk
 ·have := h.mul k.toNat
  rwa [Int.toNat_of_nonneg hk] at this
 ·have := (h.mul (-k).toNat).neg ha
  rw [Int.toNat_of_nonneg (by omega), Int.neg_mul, Int.neg_neg] at this
  exact this
theorem Hits.gcd {g : List Int} {a : Int} (ha : 1 ≤ a) : ∀ (x y : Nat), Hits g a x → Hits g a y → Hits g a (Nat.gcd x y) := by
 intro x y
 induction x, y using Nat.gcd.induction with
 | H0 n => intro _ h; simpa using h
 | H1 m n hm ih =>
  intro h1 h2
  rw [Nat.gcd_rec]
  refine ih ?_ h1
  have e : ((n % m : Nat) : Int) = (n : Int) - ((n / m : Nat) : Int) * m := by
   have := Nat.mod_add_div n m
   have h3 : (n : Int) = ((n % m : Nat) : Int) + (m : Int) * ((n / m : Nat) : Int) := by exact_mod_cast this.symm
   rw [Int.mul_comm]; omega
  rw [e]
  exact h2.sub ha (h1.zmul ha _)
def gcdL (g : List Int) : Nat := g.foldl (fun d x => Nat.gcd d x.natAbs) 0
theorem gcdL_snoc (g : List Int) (x : Int) : gcdL (g ++ [x]) = Nat.gcd (gcdL g) x.natAbs := by simp [gcdL]
theorem foldl_gcd_dvd (g : List Int) : ∀ d : Nat, (g.foldl (fun d x => Nat.gcd d x.natAbs) d) ∣ d ∧ ∀ x ∈ g, ((g.foldl (fun d x => Nat.gcd d x.natAbs) d : Nat) : Int) ∣ x := by
 induction g with
 | nil => intro d; exact ⟨Nat.dvd_refl _, fun _ h => by simp at h⟩
 | cons y t ih =>
  intro d
  simp only [List.foldl_cons]
  obtain ⟨h1, h2⟩ := ih (Nat.gcd d y.natAbs)
  refine ⟨Nat.dvd_trans h1 (Nat.gcd_dvd_left _ _), fun x hx => ?_⟩
  rcases List.mem_cons.1 hx with rfl | hx
  ·exact Int.ofNat_dvd_left.2 (Nat.dvd_trans h1 (Nat.gcd_dvd_right _ _))
  ·exact h2 x hx
theorem gcdL_dvd {g : List Int} {x : Int} (h : x ∈ g) : (gcdL g : Int) ∣ x := (foldl_gcd_dvd g 0).2 x h
theorem dvd_foldl_gcd (g : List Int) (c : Nat) : ∀ d : Nat, c ∣ d → (∀ x ∈ g, (c : Int) ∣ x) → c ∣ g.foldl (fun d x => Nat.gcd d x.natAbs) d := by
 induction g with
 | nil => intro d h _; exact h
 | cons y t ih =>
  intro d h hx
  simp only [List.foldl_cons]
  exact ih _ (Nat.dvd_gcd h (Int.ofNat_dvd_left.1 (hx y List.mem_cons_self))) fun x h => hx x (List.mem_cons_of_mem _ h)
theorem dvd_gcdL {g : List Int} {c : Nat} (h : ∀ x ∈ g, (c : Int) ∣ x) : c ∣ gcdL g := dvd_foldl_gcd g c 0 (Nat.dvd_zero _) h
theorem gcdL_congr {g g' : List Int} (h : ∀ x, x ∈ g ↔ x ∈ g') : gcdL g = gcdL g' :=
 Nat.dvd_antisymm (dvd_gcdL fun x hx => gcdL_dvd ((h x).2 hx)) (dvd_gcdL fun x hx => gcdL_dvd ((h x).1 hx))
theorem Sums.dvd {g : List Int} {c n : Int} (h : ∀ x ∈ g, c ∣ x) (hn : Sums g n) : c ∣ n := by
 induction hn with
 | zero => exact Int.dvd_zero _
 | add hx _ ih => exact Int.dvd_add ih (h _ hx)
theorem hits_foldl {g0 : List Int} {a : Int} (ha : 1 ≤ a) (hpos : ∀ x ∈ g0, 0 ≤ x) (g : List Int) (hs : ∀ x ∈ g, x ∈ g0) : ∀ d : Nat, Hits g0 a d → Hits g0 a ((g.foldl (fun d x => Nat.gcd d x.natAbs) d : Nat) : Int) := by
 induction g with
 | nil => intro d h; exact h
 | cons y t ih =>
  intro d h
  simp only [List.foldl_cons]
  refine ih (fun x hx => hs x (List.mem_cons_of_mem _ hx)) _ (Hits.gcd ha _ _ h ?_)
  have hy := hs y List.mem_cons_self
  have := hpos y hy
  exact ⟨y, .one hy, by rw [Int.natAbs_of_nonneg this]⟩
theorem hits_gcdL {g : List Int} {a : Int} (ha : 1 ≤ a) (hpos : ∀ x ∈ g, 0 ≤ x) (k : Int) : Hits g a (k * gcdL g) :=
 (hits_foldl ha hpos g (fun _ h => h) 0 ⟨0, .zero, rfl⟩).zmul ha k
def InR (lo hi : Int) (g : List Int) : Prop := ∀ x ∈ g, lo ≤ x ∧ x ≤ hi
structure IsSG (g : List Int) : Prop where
 pos : 1 ≤ g.length
 le : g.length ≤ 12
 rng : InR 1 60 g
 asc : g.Pairwise (· < ·)
 gcd : gcdL g = 1
 minl : ∀ i : Nat, 1 ≤ i → i < g.length → ¬ Sums (g.take i) (g.getD i 0)
 ends : ∀ n : Int, 200 ≤ n → Sums g n
theorem ends_of {g : List Int} {a : Int} (ha : 1 ≤ a) (hag : a ∈ g) {B : Int} (h : ∀ n, B ≤ n → n < B + a → Sums g n) : ∀ n, B ≤ n → Sums g n := by
 intro n hn
 have e : n = B + (n - B) % a + ((n - B) / a) * a := by have := Int.emod_add_mul_ediv (n - B) a; rw [Int.mul_comm]; omega
 have h1 := Int.emod_nonneg (n - B) (show a ≠ 0 by omega)
 have h2 := Int.emod_lt_of_pos (n - B) (show 0 < a by omega)
 have h3 : 0 ≤ (n - B) / a := Int.ediv_nonneg (by omega) (by omega)
 rw [e]
 refine (h _ (by omega) (by omega)).trans ?_
 have := (Sums.one hag).mul ((n - B) / a).toNat
 rwa [Int.toNat_of_nonneg h3] at this
noncomputable def minOf : List Int → List Int → List Int
 | _, [] => []
 | seen, x :: t => open Classical in if Sums seen x then minOf (seen ++ [x]) t else x :: minOf (seen ++ [x]) t
end Go.Proofs.Ytbjbolblahlhcaa.M
