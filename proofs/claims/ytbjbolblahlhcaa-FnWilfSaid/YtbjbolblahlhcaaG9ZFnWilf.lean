/- Part 9 of the claim for FnWilf, of the chain from the printed contracts and the plain laws to the row. It has no condition of its own. -/
import Derived.Test.YtbjbolblahlhcaaG8ZFnWilf
section
namespace Go.Proofs.Ytbjbolblahlhcaa.FFnWilf
open Go Go.RowKit Go.Proofs.YtbjbolblahlhcaaW.PrintWords Go.Proofs.Ytbjbolblahlhcaa.M Go.Proofs.Ytbjbolblahlhcaa.PFnWilf
theorem getD_set {α : Type} (t : List α) (i m : Nat) (v d : α) (hi : i < t.length) : (t.set i v).getD m d = if m = i then v else t.getD m d := by
 rw [List.getD_eq_getElem?_getD, List.getD_eq_getElem?_getD, List.getElem?_set]
 by_cases h : i = m
 ·subst h; simp [hi]
 ·rw [if_neg h, if_neg (fun e => h e.symm)]
theorem l3Table_l1 (g : List Int) (hl : g.length ≤ 4611686018427387904) (hg : InR 1 1000000 g) (N n : Nat) (hn1 : 1 ≤ n) (hn : n ≤ N) (hN : N ≤ 1000000) : ∀ (d j : Nat) (t : List Bool), g.length - j = d → j ≤ g.length → t.length = N + 1 →
 (∀ m : Nat, m ≤ N → m ≠ n → (t.getD m false = true ↔ m < n ∧ Sums g m)) → (t.getD n false = true ↔ ∃ x ∈ g.take j, x ≤ n ∧ Sums g (n - x)) →
 ∃ t' : List Bool, t'.length = N + 1 ∧ (∀ m : Nat, m ≤ N → (t'.getD m false = true ↔ m < n + 1 ∧ Sums g m)) ∧ ∀ r, Ev (fun k => spec_l3Table.l0 k g (N : Int) t' ((n + 1 : Nat) : Int)) r → Ev (fun k => spec_l3Table.l1 k g (N : Int) t (n : Int) (j : Int)) r := by
 intro d
 induction d with
 | zero =>
  intro j t hd hj ht hm hc
  have hj' : j = g.length := by omega
  subst hj'
  refine ⟨t, ht, fun m hmN => ?_, fun r hr => ?_⟩
  ·by_cases e : m = n
   ·subst e
    rw [hc, List.take_of_length_le (Nat.le_refl _)]
    have := Sums.step_le (g := g) (fun x hx => (hg x hx).1) (n := (m : Int))
    constructor
    ·intro h; exact ⟨by omega, this.2 (.inr h)⟩
    ·intro h; rcases this.1 h.2 with h0 | h0
     ·omega
     ·exact h0
   ·rw [hm m hmN e]
    constructor
    ·intro h; exact ⟨by omega, h.2⟩
    ·intro h; exact ⟨by omega, h.2⟩
  ·refine Ev.step (fun _ => spec_l3Table.l1.eq_2 ..) ?_
   refine Ev.neg (by omega) ?_
   rw [w64s (by omega)]
   exact hr
 | succ d ih =>
  intro j t hd hj ht hm hc
  have hlt : j < g.length := by omega
  have hx := hg _ (List.getElem_mem hlt)
  have htk : ∀ P : Int → Prop, (∃ x ∈ g.take (j + 1), P x) ↔ (∃ x ∈ g.take j, P x) ∨ P g[j] := by
   intro P
   rw [take_snoc' hlt]
   constructor
   ·rintro ⟨x, hx, h⟩
    rcases List.mem_append.1 hx with h1 | h1
    ·exact .inl ⟨x, h1, h⟩
    ·rw [List.mem_singleton] at h1; subst h1; exact .inr h
   ·rintro (⟨x, hx, h⟩ | h)
    ·exact ⟨x, List.mem_append_left _ hx, h⟩
    ·exact ⟨_, List.mem_append_right _ (List.mem_singleton.2 rfl), h⟩
  have go : ∀ t1 : List Bool, t1.length = N + 1 → (∀ m : Nat, m ≤ N → m ≠ n → (t1.getD m false = true ↔ m < n ∧ Sums g m)) → (t1.getD n false = true ↔ ∃ x ∈ g.take (j + 1), x ≤ n ∧ Sums g (n - x)) → (∀ r, Ev (fun k => spec_l3Table.l1 k g (N : Int) t1 (n : Int) ((j + 1 : Nat) : Int)) r → Ev (fun k => spec_l3Table.l1 k g (N : Int) t (n : Int) (j : Int)) r) →
   ∃ t' : List Bool, t'.length = N + 1 ∧ (∀ m : Nat, m ≤ N → (t'.getD m false = true ↔ m < n + 1 ∧ Sums g m)) ∧ ∀ r, Ev (fun k => spec_l3Table.l0 k g (N : Int) t' ((n + 1 : Nat) : Int)) r → Ev (fun k => spec_l3Table.l1 k g (N : Int) t (n : Int) (j : Int)) r := by
   intro t1 h1 h2 h3 h4
   have hd1 : g.length - (j + 1) = d := by clear h1 h2 h3 h4 ih hm hc htk hx; omega
   obtain ⟨t', a, b, c⟩ := ih (j + 1) t1 hd1 hlt h1 h2 h3
   exact ⟨t', a, b, fun r hr => h4 r (c r hr)⟩
  by_cases h : (n : Int) ≥ g[j]
  ·obtain ⟨q, hq⟩ : ∃ q : Nat, (n : Int) - g[j] = (q : Int) := ⟨((n : Int) - g[j]).toNat, by omega⟩
   have hqt := hm q (by omega) (by omega)
   by_cases hb : t.getD q false = true
   ·refine go (t.set n true) (by simpa using ht) (fun m hmN e => ?_) ?_ (fun r hr => ?_)
    ·rw [getD_set _ _ _ _ _ (by omega), if_neg e]; exact hm m hmN e
    ·rw [getD_set _ _ _ _ _ (by omega), if_pos rfl, htk]
     refine ⟨fun _ => .inr ⟨h, by rw [hq]; exact (hqt.1 hb).2⟩, fun _ => rfl⟩
    ·refine Ev.step (fun _ => spec_l3Table.l1.eq_2 ..) ?_
     refine Ev.pos (by omega) ?_
     refine Ev.pos (by omega) ?_
     rw [rd_get hlt]
     refine Ev.pos h ?_
     rw [hq, w64 (by omega) (by omega)]
     refine Ev.pos (by omega) ?_
     refine Ev.pos (by omega) ?_
     rw [rdOf_nat]
     refine Ev.pos hb ?_
     refine Ev.pos (by omega) ?_
     refine Ev.pos (by omega) ?_
     rw [w64s (by omega), Int.toNat_natCast]
     exact hr
   ·refine go t ht hm ?_ (fun r hr => ?_)
    ·rw [hc, htk]
     refine ⟨.inl, fun h' => h'.elim id fun h'' => ?_⟩
     exfalso
     rw [hq] at h''
     exact hb (hqt.2 ⟨by omega, h''.2⟩)
    ·refine Ev.step (fun _ => spec_l3Table.l1.eq_2 ..) ?_
     refine Ev.pos (by omega) ?_
     refine Ev.pos (by omega) ?_
     rw [rd_get hlt]
     refine Ev.pos h ?_
     rw [hq, w64 (by omega) (by omega)]
     refine Ev.pos (by omega) ?_
     refine Ev.pos (by omega) ?_
     rw [rdOf_nat]
     refine Ev.neg hb ?_
     rw [w64s (by omega)]
     exact hr
  ·refine go t ht hm ?_ (fun r hr => ?_)
   ·rw [hc, htk]
    exact ⟨.inl, fun h' => h'.elim id fun h'' => absurd h''.1 (by omega)⟩
   ·refine Ev.step (fun _ => spec_l3Table.l1.eq_2 ..) ?_
    refine Ev.pos (by omega) ?_
    refine Ev.pos (by omega) ?_
    rw [rd_get hlt]
    refine Ev.neg h ?_
    rw [w64s (by omega)]
    exact hr
theorem l3Table_l0 (g : List Int) (hl : g.length ≤ 4611686018427387904) (hg : InR 1 1000000 g) (N : Nat) (hN : N ≤ 1000000) : ∀ (d n : Nat) (t : List Bool), N + 1 - n = d → 1 ≤ n → n ≤ N + 1 → t.length = N + 1 →
 (∀ m : Nat, m ≤ N → (t.getD m false = true ↔ m < n ∧ Sums g m)) → ∃ t' : List Bool, Ev (fun k => spec_l3Table.l0 k g (N : Int) t (n : Int)) t' ∧ t'.length = N + 1 ∧ ∀ m : Nat, m ≤ N → (t'.getD m false = true ↔ Sums g m) := by
 intro d
 induction d with
 | zero =>
  intro n t hd h1 hn ht hm
  refine ⟨t, ?_, ht, fun m hmN => (hm m hmN).trans ⟨fun h => h.2, fun h => ⟨by omega, h⟩⟩⟩
  refine Ev.step (fun _ => spec_l3Table.l0.eq_2 ..) ?_
  exact Ev.neg (by omega) (Ev.now _)
 | succ d ih =>
  intro n t hd h1 hn ht hm
  obtain ⟨t1, a, b, c⟩ := l3Table_l1 g hl hg N n h1 (by omega) hN g.length 0 t (by omega) (by omega) ht (fun m hmN _ => hm m hmN) ⟨fun h => absurd ((hm n (by omega)).1 h).1 (by omega), fun h => by simp at h⟩
  obtain ⟨t', h2, h3⟩ := ih (n + 1) t1 (by omega) (by omega) (by omega) a b
  refine ⟨t', ?_, h3⟩
  refine Ev.step (fun _ => spec_l3Table.l0.eq_2 ..) ?_
  exact Ev.pos (by omega) (c _ h2)
theorem l3Table (g : List Int) (hl : g.length ≤ 4611686018427387904) (hg : InR 1 1000000 g) (N : Nat) (hN : N ≤ 1000000) : ∃ t : List Bool, Ev (fun k => spec_l3Table.f k g (N : Int)) t ∧ t.length = N + 1 ∧ ∀ m : Nat, m ≤ N → (t.getD m false = true ↔ Sums g m) := by
 obtain ⟨t, h1, h2⟩ := l3Table_l0 g hl hg N hN N 1 ((List.replicate (N + 1) false).set 0 true) (by omega) (by omega) (by omega) (by simp) (fun m hmN => by
  rw [getD_set _ _ _ _ _ (by simp)]
  by_cases e : m = 0
  ·subst e; simp; exact Sums.zero
  ·rw [if_neg e]
   constructor
   ·intro h; rw [List.getD_eq_getElem?_getD, List.getElem?_replicate] at h; split at h <;> simp at h
   ·intro h; omega)
 refine ⟨t, ?_, h2⟩
 show Ev (fun k => if 0 ≤ (wrap64 ((N : Int) + 1)) then (if (wrap64 ((N : Int) + 1) : Int).toNat ≤ 281474976710656 then ((some (List.replicate (wrap64 ((N : Int) + 1) : Int).toNat false : List Bool)).bind fun y => (if 0 < (y.length : Int) then (spec_l3Table.l0 k g N (y.set (0 : Int).toNat true) 1) else (none))) else (none)) else (none)) t
 rw [w64s (by omega), Int.toNat_natCast]
 refine Ev.pos (by omega) ?_
 refine Ev.pos (by omega) ?_
 refine Ev.call rfl ?_
 refine Ev.pos (by rw [List.length_replicate]; omega) ?_
 exact h1
def one_ (x : Int) : Nat := if 0 ≤ x then 1 else 0
def pot_ (x : Int) : Nat := if 0 ≤ x then x.toNat else 3661
def cnt (R : List Int) : Nat := (R.map one_).sum
def pot (R : List Int) : Nat := (R.map pot_).sum
theorem rd_set (R : List Int) {i m : Int} (v : Int) (h0 : 0 ≤ i) (h1 : i < R.length) (hm : 0 ≤ m) : rd (R.set i.toNat v) m = if m = i then v else rd R m := by
 unfold rd
 rw [getD_set _ _ _ _ _ (by omega)]
 by_cases e : m = i
 ·subst e; simp
 ·rw [if_neg (by omega), if_neg e]
structure LI (g : List Int) (a : Int) (R : List Int) : Prop where
 len : (R.length : Int) = a
 zero : rd R 0 = 0
 ok : ∀ r : Int, 0 ≤ r → r < a → rd R r = -1 ∨ (0 ≤ rd R r ∧ Sums g (rd R r) ∧ rd R r % a = r ∧ rd R r ≤ 60 * (cnt R : Int))
theorem cnt_le (R : List Int) : cnt R ≤ R.length := sum_le_len one_ (fun x => by unfold one_; split <;> omega) R
theorem LI.put {g : List Int} {a : Int} {R : List Int} (h : LI g a R) (ha : 1 ≤ a) (ha2 : a ≤ 60) {tq v : Int} (h0 : 0 ≤ tq) (h1 : tq < a) (hv : 1 ≤ v) (hs : Sums g v) (hr : v % a = tq) (hle : v ≤ 60 * (cnt R : Int) + 60) (hlow : rd R tq < 0 ∨ v < rd R tq) :
 LI g a (R.set tq.toNat v) ∧ pot (R.set tq.toNat v) < pot R ∧ cnt R ≤ cnt (R.set tq.toNat v) := by
 have hl := h.len
 have hti : tq.toNat < R.length := by omega
 have hget : R[tq.toNat] = rd R tq := by
  have := rd_get hti
  rw [Int.toNat_of_nonneg h0] at this
  exact this.symm
 have s1 := sum_set one_ R tq.toNat hti v
 have s2 := sum_set pot_ R tq.toNat hti v
 rw [hget] at s1 s2
 have o1 : one_ v = 1 := by unfold one_; rw [if_pos (by omega)]
 have p1 : pot_ v = v.toNat := by unfold pot_; rw [if_pos (by omega)]
 rw [o1] at s1
 rw [p1] at s2
 have hcl := cnt_le R
 have hcl' := cnt_le (R.set tq.toNat v)
 rw [List.length_set] at hcl'
 unfold cnt at hle hcl hcl'
 rcases h.ok tq h0 h1 with e | ⟨e1, e2, e3, e4⟩
 ·have o2 : one_ (rd R tq) = 0 := by unfold one_; rw [if_neg (by omega)]
  have p2 : pot_ (rd R tq) = 3661 := by unfold pot_; rw [if_neg (by omega)]
  rw [o2] at s1
  rw [p2] at s2
  refine ⟨⟨by simpa using hl, ?_, fun r hr0 hr1 => ?_⟩, ?_, ?_⟩
  ·have hne : (0 : Int) ≠ tq := by rintro rfl; have := h.zero; omega
   rw [rd_set R v h0 (by omega) (by omega), if_neg hne]; exact h.zero
  ·rw [rd_set R v h0 (by omega) hr0]
   by_cases er : r = tq
   ·subst er
    rw [if_pos rfl]
    exact .inr ⟨by omega, hs, hr, by unfold cnt; omega⟩
   ·rw [if_neg er]
    rcases h.ok r hr0 hr1 with k | ⟨k1, k2, k3, k4⟩
    ·exact .inl k
    ·exact .inr ⟨k1, k2, k3, by unfold cnt at k4 ⊢; omega⟩
  ·unfold pot; omega
  ·unfold cnt; omega
 ·have hlow' : v < rd R tq := by rcases hlow with k | k <;> omega
  have o2 : one_ (rd R tq) = 1 := by unfold one_; rw [if_pos e1]
  have p2 : pot_ (rd R tq) = (rd R tq).toNat := by unfold pot_; rw [if_pos e1]
  rw [o2] at s1
  rw [p2] at s2
  refine ⟨⟨by simpa using hl, ?_, fun r hr0 hr1 => ?_⟩, ?_, ?_⟩
  ·have hne : (0 : Int) ≠ tq := by rintro rfl; have := h.zero; omega
   rw [rd_set R v h0 (by omega) (by omega), if_neg hne]; exact h.zero
  ·rw [rd_set R v h0 (by omega) hr0]
   by_cases er : r = tq
   ·subst er
    rw [if_pos rfl]
    exact .inr ⟨by omega, hs, hr, by unfold cnt at e4 ⊢; omega⟩
   ·rw [if_neg er]
    rcases h.ok r hr0 hr1 with k | ⟨k1, k2, k3, k4⟩
    ·exact .inl k
    ·exact .inr ⟨k1, k2, k3, by unfold cnt at k4 ⊢; omega⟩
  ·unfold pot; omega
  ·unfold cnt; omega
def Rel (a : Int) (R : List Int) (r x : Int) : Prop := 0 ≤ rd R ((r + x) % a) ∧ rd R ((r + x) % a) ≤ rd R r + x
theorem leasts_l3 (g : List Int) (hl : g.length ≤ 1000000) (hg : InR 1 60 g) (a : Int) (ha : 1 ≤ a) (ha2 : a ≤ 60) (r n : Int) (hr0 : 0 ≤ r) (hr1 : r < a) (hn0 : 0 ≤ n) (hns : Sums g n) (hnr : n % a = r) :
 ∀ (d j : Nat) (R : List Int) (b : Bool), g.length - j = d → j ≤ g.length → LI g a R → n ≤ 60 * (cnt R : Int) → (rd R r ≤ n ∧ 0 ≤ rd R r) →
 ∃ (R' : List Int) (b' : Bool), LI g a R' ∧ ((b' = b ∧ R' = R ∧ (rd R r = n → ∀ i : Nat, j ≤ i → i < g.length → Rel a R r (g.getD i 0))) ∨ (b' = true ∧ pot R' < pot R)) ∧
  ∀ res, Ev (fun k => impl_leasts.l2 k g a R' b' a (r + 1)) res → Ev (fun k => impl_leasts.l3 k g a R b r n a r g (g.length : Int) (j : Int)) res := by
 intro d
 induction d with
 | zero =>
  intro j R b hd hj hR hnc hrr
  refine ⟨R, b, hR, .inl ⟨rfl, rfl, fun _ i h1 h2 => by omega⟩, fun res hres => ?_⟩
  refine Ev.step (fun _ => impl_leasts.l3.eq_2 ..) ?_
  refine Ev.neg (by omega) ?_
  rw [w64 (by omega) (by omega)]
  exact hres
 | succ d ih =>
  intro j R b hd hj hR hnc hrr
  have hlt : j < g.length := by omega
  have hx := hg _ (List.getElem_mem hlt)
  have hxs : g[j] ∈ g := List.getElem_mem hlt
  have hl' := hR.len
  have hcl := cnt_le R
  obtain ⟨tq, hto⟩ : ∃ tq, (r + g[j]) % a = tq := ⟨_, rfl⟩
  have ht0 : 0 ≤ tq := by rw [← hto]; exact Int.emod_nonneg _ (by omega)
  have ht1 : tq < a := by rw [← hto]; exact Int.emod_lt_of_pos _ (by omega)
  have hvr : (n + g[j]) % a = tq := by rw [← hto, ← hnr, Int.emod_add_emod]
  have hv1 : 1 ≤ n + g[j] := by omega
  have hv2 : n + g[j] ≤ 60 * (cnt R : Int) + 60 := by omega
  have changed : (rd R tq < 0 ∨ n + g[j] < rd R tq) → (∀ res, Ev (fun k => impl_leasts.l3 k g a (R.set tq.toNat (n + g[j])) true r n a r g (g.length : Int) ((j + 1 : Nat) : Int)) res → Ev (fun k => impl_leasts.l3 k g a R b r n a r g (g.length : Int) (j : Int)) res) →
   ∃ (R' : List Int) (b' : Bool), LI g a R' ∧ ((b' = b ∧ R' = R ∧ (rd R r = n → ∀ i : Nat, j ≤ i → i < g.length → Rel a R r (g.getD i 0))) ∨ (b' = true ∧ pot R' < pot R)) ∧
    ∀ res, Ev (fun k => impl_leasts.l2 k g a R' b' a (r + 1)) res → Ev (fun k => impl_leasts.l3 k g a R b r n a r g (g.length : Int) (j : Int)) res := by
   intro hlow hstep
   obtain ⟨h1, h2, h3⟩ := hR.put ha ha2 ht0 ht1 hv1 (Sums.add hxs hns) hvr hv2 hlow
   have hrr' : rd (R.set tq.toNat (n + g[j])) r ≤ n ∧ 0 ≤ rd (R.set tq.toNat (n + g[j])) r := by
    rw [rd_set R _ ht0 (by omega) hr0]
    by_cases e : r = tq
    ·exfalso
     subst e
     rcases hlow with k | k <;> omega
    ·rw [if_neg e]; exact hrr
   obtain ⟨R', b', k1, k2, k3⟩ := ih (j + 1) _ true (by omega) (by omega) h1 (by omega) hrr'
   refine ⟨R', b', k1, .inr ?_, fun res hres => hstep res (k3 res hres)⟩
   rcases k2 with ⟨rfl, rfl, _⟩ | ⟨rfl, k⟩
   ·exact ⟨rfl, h2⟩
   ·exact ⟨rfl, by omega⟩
  have hop : ∀ res, Ev (fun k => if rd R tq < 0 then (impl_leasts.l3 k g a (R.set tq.toNat (n + g[j])) true r n a r g (g.length : Int) ((j + 1 : Nat) : Int)) else (if n + g[j] < rd R tq then (impl_leasts.l3 k g a (R.set tq.toNat (n + g[j])) true r n a r g (g.length : Int) ((j + 1 : Nat) : Int)) else (impl_leasts.l3 k g a R b r n a r g (g.length : Int) ((j + 1 : Nat) : Int)))) res → Ev (fun k => impl_leasts.l3 k g a R b r n a r g (g.length : Int) (j : Int)) res := by
   intro res hres
   refine Ev.step (fun _ => impl_leasts.l3.eq_2 ..) ?_
   refine Ev.pos (by omega) ?_
   refine Ev.pos (by omega) ?_
   refine Ev.pos (by omega) ?_
   rw [rd_get hlt, w64 (x := r + g[j]) (by omega) (by omega), w64 (x := n + g[j]) (by omega) (by omega), w64s (by omega), tmod_pos (by omega), hto]
   refine Ev.neg (by omega) ?_
   refine Ev.pos (by omega) ?_
   refine Ev.pos (by omega) ?_
   exact hres
  by_cases c1 : rd R tq < 0
  ·exact changed (.inl c1) fun res hres => hop res (Ev.pos c1 hres)
  ·by_cases c2 : n + g[j] < rd R tq
   ·exact changed (.inr c2) fun res hres => hop res (Ev.neg c1 (Ev.pos c2 hres))
   ·obtain ⟨R', b', k1, k2, k3⟩ := ih (j + 1) R b (by omega) (by omega) hR hnc hrr
    refine ⟨R', b', k1, ?_, fun res hres => hop res (Ev.neg c1 (Ev.neg c2 (k3 res hres)))⟩
    rcases k2 with ⟨e1, e2, e3⟩ | k
    ·refine .inl ⟨e1, e2, fun hrn i h1 h2 => ?_⟩
     rcases Nat.lt_or_ge j i with h3 | h3
     ·exact e3 hrn i (by omega) h2
     ·have : i = j := by omega
      subst this
      unfold Rel
      rw [getD_get hlt, hto, hrn]
      omega
    ·exact .inr k
theorem leasts_l2 (g : List Int) (hl : g.length ≤ 1000000) (hg : InR 1 60 g) (a : Int) (ha : 1 ≤ a) (ha2 : a ≤ 60) :
 ∀ (d : Nat) (r : Int) (R : List Int) (b : Bool), (a - r).toNat = d → 0 ≤ r → r ≤ a → LI g a R →
 ∃ (R' : List Int) (b' : Bool), LI g a R' ∧ ((b' = b ∧ R' = R ∧ ∀ q : Int, r ≤ q → q < a → 0 ≤ rd R q → ∀ i : Nat, i < g.length → Rel a R q (g.getD i 0)) ∨ (b' = true ∧ pot R' < pot R)) ∧
  ∀ res, Ev (fun k => impl_leasts.l1 k g a R' b') res → Ev (fun k => impl_leasts.l2 k g a R b a r) res := by
 intro d
 induction d with
 | zero =>
  intro r R b hd h0 h1 hR
  refine ⟨R, b, hR, .inl ⟨rfl, rfl, fun q h2 h3 => by omega⟩, fun res hres => ?_⟩
  refine Ev.step (fun _ => impl_leasts.l2.eq_2 ..) ?_
  exact Ev.neg (by omega) hres
 | succ d ih =>
  intro r R b hd h0 h1 hR
  have hl' := hR.len
  by_cases c : rd R r < 0
  ·obtain ⟨R', b', k1, k2, k3⟩ := ih (r + 1) R b (by omega) (by omega) (by omega) hR
   refine ⟨R', b', k1, ?_, fun res hres => ?_⟩
   ·rcases k2 with ⟨e1, e2, e3⟩ | k
    ·refine .inl ⟨e1, e2, fun q h2 h3 h4 => ?_⟩
     by_cases e : q = r
     ·subst e; omega
     ·exact e3 q (by omega) h3 h4
    ·exact .inr k
   ·refine Ev.step (fun _ => impl_leasts.l2.eq_2 ..) ?_
    refine Ev.pos (by omega) ?_
    refine Ev.pos (by omega) ?_
    refine Ev.pos (by omega) ?_
    refine Ev.pos c ?_
    rw [w64 (by omega) (by omega)]
    exact k3 res hres
  ·rcases hR.ok r h0 (by omega) with e | ⟨e1, e2, e3, e4⟩
   ·omega
   ·obtain ⟨R1, b1, m1, m2, m3⟩ := leasts_l3 g hl hg a ha ha2 r (rd R r) h0 (by omega) e1 e2 e3 g.length 0 R b (by omega) (by omega) hR e4 ⟨Int.le_refl _, e1⟩
    obtain ⟨R', b', k1, k2, k3⟩ := ih (r + 1) R1 b1 (by omega) (by omega) (by omega) m1
    refine ⟨R', b', k1, ?_, fun res hres => ?_⟩
    ·rcases m2 with ⟨rfl, rfl, m⟩ | ⟨rfl, m⟩
     ·rcases k2 with ⟨f1, f2, f3⟩ | k
      ·refine .inl ⟨f1, f2, fun q h2 h3 h4 => ?_⟩
       by_cases e : q = r
       ·subst e; exact fun i hi => m rfl i (by omega) hi
       ·exact f3 q (by omega) h3 h4
      ·exact .inr k
     ·rcases k2 with ⟨rfl, rfl, _⟩ | ⟨rfl, k⟩
      ·exact .inr ⟨rfl, m⟩
      ·exact .inr ⟨rfl, by omega⟩
    ·refine Ev.step (fun _ => impl_leasts.l2.eq_2 ..) ?_
     refine Ev.pos (by omega) ?_
     refine Ev.pos (by omega) ?_
     refine Ev.pos (by omega) ?_
     refine Ev.neg c ?_
     exact m3 res (k3 res hres)
structure Least (g : List Int) (a : Int) (R : List Int) : Prop where
 len : (R.length : Int) = a
 bd : ∀ r : Int, 0 ≤ r → r < a → rd R r ≤ 3600
 cls : ∀ r : Int, 0 ≤ r → r < a → (rd R r = -1 ∧ ∀ n, Sums g n → n % a ≠ r) ∨ (0 ≤ rd R r ∧ Sums g (rd R r) ∧ rd R r % a = r ∧ ∀ n, Sums g n → n % a = r → rd R r ≤ n)
theorem least_of {g : List Int} {a : Int} {R : List Int} (ha : 1 ≤ a) (ha2 : a ≤ 60) (hR : LI g a R) (hf : ∀ q : Int, 0 ≤ q → q < a → 0 ≤ rd R q → ∀ i : Nat, i < g.length → Rel a R q (g.getD i 0)) : Least g a R := by
 have key : ∀ n, Sums g n → 0 ≤ rd R (n % a) ∧ rd R (n % a) ≤ n := by
  intro n hn
  induction hn with
  | zero => rw [Int.zero_emod, hR.zero]; omega
  | add hx hn ih =>
   rename_i n x
   obtain ⟨i, hi, rfl⟩ := List.getElem_of_mem hx
   have := hf (n % a) (Int.emod_nonneg _ (by omega)) (Int.emod_lt_of_pos _ (by omega)) ih.1 i hi
   unfold Rel at this
   rw [getD_get hi, Int.emod_add_emod] at this
   omega
 refine ⟨hR.len, fun r h0 h1 => ?_, fun r h0 h1 => ?_⟩
 ·have := cnt_le R
  have hl := hR.len
  rcases hR.ok r h0 h1 with e | ⟨_, _, _, e⟩ <;> omega
 rcases hR.ok r h0 h1 with e | ⟨e1, e2, e3, _⟩
 ·refine .inl ⟨e, fun n hn hr => ?_⟩
  have := key n hn
  rw [hr] at this
  omega
 ·refine .inr ⟨e1, e2, e3, fun n hn hr => ?_⟩
  have := key n hn
  rw [hr] at this
  exact this.2
theorem leasts_l1 (g : List Int) (hl : g.length ≤ 1000000) (hg : InR 1 60 g) (a : Int) (ha : 1 ≤ a) (ha2 : a ≤ 60) : ∀ (p : Nat) (R : List Int), pot R = p → LI g a R → ∃ R', Ev (fun k => impl_leasts.l1 k g a R true) R' ∧ Least g a R' := by
 intro p
 induction p using Nat.strongRecOn with
 | _ p ih =>
  intro R hp hR
  obtain ⟨R1, b1, k1, k2, k3⟩ := leasts_l2 g hl hg a ha ha2 a.toNat 0 R false (by omega) (by omega) (by omega) hR
  rcases k2 with ⟨rfl, rfl, f⟩ | ⟨rfl, k⟩
  ·refine ⟨R1, ?_, least_of ha ha2 hR fun q h1 h2 => f q h1 h2⟩
   refine Ev.step (fun _ => impl_leasts.l1.eq_2 ..) ?_
   refine Ev.pos rfl ?_
   rw [hR.len]
   refine k3 _ ?_
   refine Ev.step (fun _ => impl_leasts.l1.eq_2 ..) ?_
   exact Ev.neg (by simp) (Ev.now _)
  ·obtain ⟨R', h1, h2⟩ := ih (pot R1) (by omega) R1 rfl k1
   refine ⟨R', ?_, h2⟩
   refine Ev.step (fun _ => impl_leasts.l1.eq_2 ..) ?_
   refine Ev.pos rfl ?_
   rw [hR.len]
   exact k3 _ h1
theorem leasts_l0 (g : List Int) (A : Nat) (hA : 1 ≤ A) (hA2 : A ≤ 60) (res : List Int) (hres : Ev (fun k => impl_leasts.l1 k g (A : Int) ((List.replicate A (-1)).set 0 0) true) res) : ∀ (d j : Nat) (R : List Int), A - j = d → j ≤ A → R.length = A → R.take j = List.replicate j (-1) →
 Ev (fun k => impl_leasts.l0 k g (A : Int) R (A : Int) (j : Int)) res := by
 intro d
 induction d with
 | zero =>
  intro j R hd hj hR ht
  have : j = A := by omega
  subst this
  rw [List.take_of_length_le (by omega)] at ht
  subst ht
  refine Ev.step (fun _ => impl_leasts.l0.eq_2 ..) ?_
  refine Ev.neg (by omega) ?_
  refine Ev.pos (by simp <;> omega) ?_
  exact hres
 | succ d ih =>
  intro j R hd hj hR ht
  refine Ev.step (fun _ => impl_leasts.l0.eq_2 ..) ?_
  refine Ev.pos (by omega) ?_
  refine Ev.pos (by omega) ?_
  refine Ev.pos (by omega) ?_
  rw [w64s (by omega), Int.toNat_natCast]
  refine ih (j + 1) _ (by omega) (by omega) (by simpa using hR) ?_
  rw [take_snoc' (by simp <;> omega), List.take_set_of_le (Nat.le_refl _), ht, List.getElem_set_self, List.replicate_succ']
theorem leasts (g : List Int) (hl : g.length ≤ 1000000) (hg : InR 1 60 g) (a : Int) (ha : 1 ≤ a) (ha2 : a ≤ 60) : ∃ R, Ev (fun k => impl_leasts.f k g a) R ∧ Least g a R := by
 obtain ⟨A, rfl⟩ : ∃ A : Nat, a = (A : Int) := ⟨a.toNat, by omega⟩
 have hrd : ∀ r : Int, 0 ≤ r → r < (A : Int) → rd ((List.replicate A (-1)).set (0 : Int).toNat 0) r = if r = 0 then 0 else -1 := by
  intro r h0 h1
  rw [rd_set _ _ (by omega) (by simp <;> omega) h0]
  by_cases e : r = 0
  ·rw [if_pos e, if_pos e]
  ·rw [if_neg e, if_neg e]
   unfold rd
   rw [List.getD_eq_getElem?_getD, List.getElem?_replicate, if_pos (by omega)]
   rfl
 have hLI : LI g A ((List.replicate A (-1)).set (0 : Int).toNat 0) := by
  refine ⟨by simp, ?_, fun r h0 h1 => ?_⟩
  ·rw [hrd 0 (by omega) (by omega), if_pos rfl]
  ·rw [hrd r h0 h1]
   by_cases e : r = 0
   ·rw [if_pos e]; exact .inr ⟨by omega, .zero, by rw [Int.zero_emod]; exact e.symm, by omega⟩
   ·rw [if_neg e]; exact .inl rfl
 obtain ⟨R, h1, h2⟩ := leasts_l1 g hl hg A ha ha2 _ _ rfl hLI
 refine ⟨R, ?_, h2⟩
 show Ev (fun k => if 0 ≤ (A : Int) then (if (A : Int).toNat ≤ 35184372088832 then ((some (List.replicate (A : Int).toNat 0 : List Int)).bind fun y => (impl_leasts.l0 k g A y (y.length : Int) 0)) else (none)) else (none)) R
 refine Ev.pos (by omega) ?_
 refine Ev.pos (by omega) ?_
 refine Ev.call rfl ?_
 rw [Int.toNat_natCast, List.length_replicate]
 exact leasts_l0 g A (by omega) (by omega) R h1 A 0 (List.replicate A 0) (by omega) (by omega) (by simp) (by simp)
end Go.Proofs.Ytbjbolblahlhcaa.FFnWilf
end
section
namespace Go.Proofs.Ytbjbolblahlhcaa.FFnWilf
open Go Go.RowKit Go.Proofs.YtbjbolblahlhcaaW.PrintWords Go.Proofs.Ytbjbolblahlhcaa.M Go.Proofs.Ytbjbolblahlhcaa.PFnWilf
def Sorted (l s : List Int) : Prop := s.Pairwise (· < ·) ∧ (∀ x, x ∈ s ↔ x ∈ l) ∧ s.length ≤ l.length
theorem Sorted.uniq {l s t : List Int} (h : Sorted l s) (k : Sorted l t) : s = t := asc_ext h.1 k.1 fun x => (h.2.1 x).trans (k.2.1 x).symm
theorem insert_asc {out : List Int} (h : out.Pairwise (· < ·)) (x : Int) (m : Nat) (hm : m ≤ out.length) (h1 : ∀ j, (hj : j < out.length) → m ≤ j → x < out[j]) (h2 : ∀ j, (hj : j < out.length) → j < m → out[j] < x) : (out.take m ++ [x] ++ out.drop m).Pairwise (· < ·) := by
 rw [List.append_assoc, List.pairwise_append]
 refine ⟨h.sublist (List.take_sublist _ _), ?_, ?_⟩
 ·rw [List.singleton_append, List.pairwise_cons]
  refine ⟨fun y hy => ?_, h.sublist (List.drop_sublist _ _)⟩
  obtain ⟨i, hi, rfl⟩ := List.getElem_of_mem hy
  rw [List.getElem_drop]
  rw [List.length_drop] at hi
  exact h1 (m + i) (by omega) (by omega)
 ·intro a ha b hb
  obtain ⟨i, hi, rfl⟩ := List.getElem_of_mem ha
  rw [List.length_take] at hi
  rw [List.getElem_take]
  have hax := h2 i (by omega) (by omega)
  rw [List.singleton_append] at hb
  rcases List.mem_cons.1 hb with rfl | hb
  ·exact hax
  ·obtain ⟨j, hj, rfl⟩ := List.getElem_of_mem hb
   rw [List.length_drop] at hj
   rw [List.getElem_drop]
   exact Int.lt_trans hax (h1 (m + j) (by omega) (by omega))
theorem sSort_l1 (l : List Int) (hl : l.length ≤ 1048576) (out : List Int) (ho : out.Pairwise (· < ·)) (i : Nat) (hi : i < l.length) (hol : out.length ≤ i) : ∀ m : Nat, m ≤ out.length → (∀ j, (hj : j < out.length) → m ≤ j → l[i] < out[j]) →
 ∃ out' : List Int, out'.Pairwise (· < ·) ∧ (∀ y, y ∈ out' ↔ y ∈ out ∨ y = l[i]) ∧ out'.length ≤ i + 1 ∧ ∀ r, Ev (fun k => spec_SortList.l0 k l out' ((i + 1 : Nat) : Int)) r → Ev (fun k => spec_SortList.l1 k l out (i : Int) (m : Int)) r := by
 have mem : ∀ m y, y ∈ out.take m ++ [l[i]] ++ out.drop m ↔ y ∈ out ∨ y = l[i] := by
  intro m y
  have e : y ∈ out ↔ y ∈ out.take m ∨ y ∈ out.drop m := by rw [← List.mem_append, List.take_append_drop]
  simp only [List.mem_append, List.mem_singleton, e]
  constructor
  ·rintro ((h | h) | h)
   ·exact .inl (.inl h)
   ·exact .inr h
   ·exact .inl (.inr h)
  ·rintro ((h | h) | h)
   ·exact .inl (.inl h)
   ·exact .inr h
   ·exact .inl (.inr h)
 have len : ∀ m, m ≤ out.length → (out.take m ++ [l[i]] ++ out.drop m).length = out.length + 1 := by intro m hm; simp; omega
 intro m
 induction m with
 | zero =>
  intro hm h1
  refine ⟨out.take 0 ++ [l[i]] ++ out.drop 0, insert_asc ho _ 0 hm h1 (fun j _ hj => by omega), mem 0, by rw [len 0 hm]; omega, fun r hr => ?_⟩
  refine Ev.step (fun _ => spec_SortList.l1.eq_2 ..) ?_
  refine Ev.neg (by omega) ?_
  refine Ev.call rfl ?_
  refine Ev.pos (by omega) ?_
  refine Ev.pos (by omega) ?_
  refine Ev.call rfl ?_
  refine Ev.pos (by simp <;> omega) ?_
  refine Ev.call rfl ?_
  refine Ev.call rfl ?_
  refine Ev.pos (by omega) ?_
  refine Ev.pos (by omega) ?_
  refine Ev.pos (by simp <;> omega) ?_
  refine Ev.call rfl ?_
  refine Ev.pos (by simp <;> omega) ?_
  rw [w64s (by omega), rd_get hi]
  exact hr
 | succ m ih =>
  intro hm h1
  have hlt : m < out.length := by omega
  have e : ((m + 1 : Nat) : Int) > 0 := by omega
  by_cases c1 : out[m] > l[i]
  ·obtain ⟨out', a, b, c, d⟩ := ih (by omega) fun j hj hmj => by
    rcases Nat.lt_or_ge m j with h | h
    ·exact h1 j hj (by omega)
    ·have : j = m := by omega
     subst this; exact c1
   refine ⟨out', a, b, c, fun r hr => ?_⟩
   refine Ev.step (fun _ => spec_SortList.l1.eq_2 ..) ?_
   refine Ev.pos e ?_
   rw [w64p (by omega) (by omega), Nat.add_sub_cancel]
   refine Ev.pos (by omega) ?_
   refine Ev.pos (by omega) ?_
   refine Ev.pos (by omega) ?_
   refine Ev.pos (by omega) ?_
   rw [rd_get hlt, rd_get hi]
   exact Ev.pos c1 (d r hr)
  ·by_cases c2 : out[m] = l[i]
   ·refine ⟨out, ho, fun y => ⟨.inl, fun h => h.elim id fun h => ?_⟩, by omega, fun r hr => ?_⟩
    ·subst h; rw [← c2]; exact List.getElem_mem hlt
    ·refine Ev.step (fun _ => spec_SortList.l1.eq_2 ..) ?_
     refine Ev.pos e ?_
     rw [w64p (by omega) (by omega), Nat.add_sub_cancel]
     refine Ev.pos (by omega) ?_
     refine Ev.pos (by omega) ?_
     refine Ev.pos (by omega) ?_
     refine Ev.pos (by omega) ?_
     rw [rd_get hlt, rd_get hi]
     refine Ev.neg c1 (Ev.pos c2 ?_)
     rw [w64s (by omega)]
     exact hr
   ·refine ⟨out.take (m + 1) ++ [l[i]] ++ out.drop (m + 1), insert_asc ho _ (m + 1) hm h1 (fun j hj hjm => ?_), mem (m + 1), by rw [len _ hm]; omega, fun r hr => ?_⟩
    ·rcases Nat.lt_or_ge j m with h | h
     ·have := List.pairwise_iff_getElem.1 ho j m hj hlt h
      omega
     ·have : j = m := by omega
      subst this; omega
    ·refine Ev.step (fun _ => spec_SortList.l1.eq_2 ..) ?_
     refine Ev.pos e ?_
     rw [w64p (by omega) (by omega), Nat.add_sub_cancel]
     refine Ev.pos (by omega) ?_
     refine Ev.pos (by omega) ?_
     refine Ev.pos (by omega) ?_
     refine Ev.pos (by omega) ?_
     rw [rd_get hlt, rd_get hi]
     refine Ev.neg c1 (Ev.neg c2 ?_)
     refine Ev.call rfl ?_
     refine Ev.pos (by omega) ?_
     refine Ev.pos (by omega) ?_
     refine Ev.call rfl ?_
     refine Ev.pos (by simp <;> omega) ?_
     refine Ev.call rfl ?_
     refine Ev.call rfl ?_
     refine Ev.pos (by simp <;> omega) ?_
     refine Ev.call rfl ?_
     refine Ev.pos (by simp <;> omega) ?_
     rw [w64s (by omega)]
     exact hr
theorem sSort_l0 (l : List Int) (hl : l.length ≤ 1048576) : ∀ (d i : Nat) (out : List Int), l.length - i = d → i ≤ l.length → out.Pairwise (· < ·) → (∀ y, y ∈ out ↔ y ∈ l.take i) → out.length ≤ i → ∃ s, Ev (fun k => spec_SortList.l0 k l out (i : Int)) s ∧ Sorted l s := by
 intro d
 induction d with
 | zero =>
  intro i out hd hi ho hm hol
  rw [List.take_of_length_le (by omega)] at hm
  refine ⟨out, ?_, ho, hm, by omega⟩
  refine Ev.step (fun _ => spec_SortList.l0.eq_2 ..) ?_
  exact Ev.neg (by omega) (Ev.now _)
 | succ d ih =>
  intro i out hd hi ho hm hol
  have hlt : i < l.length := by omega
  obtain ⟨out', a, b, c, e⟩ := sSort_l1 l hl out ho i hlt hol out.length (Nat.le_refl _) (fun j hj h => by omega)
  obtain ⟨s, h1, h2⟩ := ih (i + 1) out' (by omega) (by omega) a (fun y => by rw [b, hm, take_snoc' hlt, List.mem_append, List.mem_singleton]) c
  refine ⟨s, ?_, h2⟩
  refine Ev.step (fun _ => spec_SortList.l0.eq_2 ..) ?_
  exact Ev.pos (by omega) (e s h1)
theorem sSort (l : List Int) (hl : l.length ≤ 1048576) : ∃ s, Ev (fun k => spec_SortList.f k l) s ∧ Sorted l s :=
 sSort_l0 l hl l.length 0 [] (by omega) (by omega) List.Pairwise.nil (by simp) (by simp)
theorem compact_asc {zs : List Int} (h : zs.Pairwise (· ≤ ·)) : Sorted zs (Lib.compact zs) := by
 have hle : ∀ i j, (hi : i < zs.length) → (hj : j < zs.length) → i ≤ j → zs[i] ≤ zs[j] := by
  intro i j hi hj hij
  rcases Nat.lt_or_ge i j with h' | h'
  ·exact List.pairwise_iff_getElem.1 h i j hi hj h'
  ·have : i = j := by omega
   subst this; exact Int.le_refl _
 have hg : ∀ i, (hi : i < zs.length) → zs.toArray[i]! = zs[i] := by intro i hi; rw [getElem!_pos _ i (by simpa using hi)]; simp
 refine ⟨?_, fun x => ?_, ?_⟩
 ·unfold Lib.compact Lib.compactUpTo
  rw [List.pairwise_map, List.pairwise_filter]
  refine List.pairwise_iff_getElem.2 ?_
  intro i j hi hj hij ki kj
  simp only [List.getElem_range] at ki kj ⊢
  simp only [List.length_range] at hi hj
  rw [hg i hi, hg j hj]
  unfold Lib.keeps at kj
  have := of_decide_eq_true kj
  rcases this with e | e
  ·omega
  ·rw [hg j hj, hg (j - 1) (by omega)] at e
   have h1 := hle i (j - 1) hi (by omega) (by omega)
   have h2 := hle (j - 1) j (by omega) hj (by omega)
   omega
 ·unfold Lib.compact Lib.compactUpTo
  simp only [List.mem_map, List.mem_filter, List.mem_range]
  constructor
  ·rintro ⟨i, ⟨hi, _⟩, rfl⟩
   rw [hg i hi]; exact List.getElem_mem hi
  ·intro hx
   obtain ⟨i, hi, rfl⟩ := List.getElem_of_mem hx
   have : ∀ n, ∀ i, (hi : i < zs.length) → i = n → ∃ a, (a < zs.length ∧ Lib.keeps zs.toArray a = true) ∧ zs.toArray[a]! = zs[i] := by
    intro n
    induction n with
    | zero => intro i hi e; subst e; exact ⟨0, ⟨hi, by simp [Lib.keeps]⟩, hg 0 hi⟩
    | succ n ih =>
     intro i hi e
     by_cases c : zs[i] = zs[i - 1]
     ·obtain ⟨a, ha, hb⟩ := ih (i - 1) (by omega) (by omega)
      exact ⟨a, ha, by rw [hb, c]⟩
     ·refine ⟨i, ⟨hi, ?_⟩, hg i hi⟩
      unfold Lib.keeps
      refine decide_eq_true (.inr ?_)
      rw [hg i hi, hg (i - 1) (by omega)]
      exact c
   exact this i i hi rfl
 ·unfold Lib.compact Lib.compactUpTo
  rw [List.length_map]
  exact Nat.le_trans (List.length_filter_le _ _) (by simp)
theorem least_sums {g : List Int} {a : Int} {R : List Int} (hR : Least g a R) (ha : 1 ≤ a) (hag : a ∈ g) {n : Int} : (0 ≤ rd R (n % a) ∧ rd R (n % a) ≤ n) ↔ Sums g n := by
 have h0 := Int.emod_nonneg n (show a ≠ 0 by omega)
 have h1 := Int.emod_lt_of_pos n (show 0 < a by omega)
 rcases hR.cls (n % a) h0 h1 with ⟨e, h⟩ | ⟨e1, e2, e3, e4⟩
 ·constructor
  ·intro k; omega
  ·intro k; exact absurd rfl (h n k)
 ·constructor
  ·rintro ⟨_, k⟩
   have hd : a ∣ n - rd R (n % a) := Int.dvd_of_emod_eq_zero (by rw [Int.sub_emod, e3, Int.sub_self, Int.zero_emod])
   obtain ⟨q, hq⟩ := hd
   have hq0 : 0 ≤ q := by
    rcases Int.lt_or_le q 0 with h | h
    ·have := Int.mul_le_mul_of_nonneg_left (show q ≤ -1 by omega) (show 0 ≤ a by omega)
     omega
    ·exact h
   have := e2.trans ((Sums.one hag).mul q.toNat)
   rw [Int.toNat_of_nonneg hq0, Int.mul_comm, ← hq] at this
   rwa [show rd R (n % a) + (n - rd R (n % a)) = n by omega] at this
  ·intro k; exact ⟨e1, e4 n k rfl⟩
theorem Use.len {l : List Int} (h : Use l) : l.length ≤ 20 := h.2.2
theorem iGenerates (l : List Int) (hl : l.length ≤ 1000000) (n : Int) : EvB (fun k => impl_Generates.f k l n) (Use l ∧ (0 ≤ n ∧ n ≤ 1000000) ∧ Sums l n) := by
 by_cases hu : Use l
 ·by_cases hn : 0 ≤ n ∧ n ≤ 1000000
  ·have hpos : 0 < l.length := by have := hu.2.1; omega
   have ha := hu.1 _ (List.getElem_mem hpos)
   have e0 : rd l 0 = l[0] := rd_get (i := 0) hpos
   obtain ⟨R, h1, h2⟩ := leasts l hl hu.1 (rd l 0) (by omega) (by omega)
   have hag : rd l 0 ∈ l := by rw [e0]; exact List.getElem_mem hpos
   have key := least_sums h2 (by omega) hag (n := n)
   have hm0 := Int.emod_nonneg n (show rd l 0 ≠ 0 by omega)
   have hm1 := Int.emod_lt_of_pos n (show 0 < rd l 0 by omega)
   unfold impl_Generates.f
   refine EvB.bind ((usable l (by omega)).yes hu) ?_
   refine EvB.pos rfl ?_
   refine EvB.call (within_yes hn) ?_
   refine EvB.pos rfl ?_
   refine EvB.pos (by omega) ?_
   refine EvB.bind h1 ?_
   rw [tmod_pos hn.1]
   refine EvB.neg (by omega) ?_
   refine EvB.pos hm0 ?_
   refine EvB.pos (by rw [h2.len]; exact hm1) ?_
   by_cases c : rd R (n % rd l 0) ≥ 0
   ·refine EvB.pos c (EvB.dec ?_)
    constructor
    ·intro k; exact ⟨hu, hn, key.1 ⟨c, k⟩⟩
    ·intro k; exact (key.2 k.2.2).2
   ·refine EvB.neg c (EvB.of_false (Ev.now _) ?_)
    intro k; exact c (key.2 k.2.2).1
  ·unfold impl_Generates.f
   refine EvB.bind ((usable l (by omega)).yes hu) ?_
   refine EvB.pos rfl ?_
   refine EvB.call (within_no hn) ?_
   refine EvB.neg (by simp) (EvB.of_false (Ev.now _) fun k => hn k.2.1)
 ·unfold impl_Generates.f
  refine EvB.bind ((usable l (by omega)).no hu) ?_
  exact EvB.neg (by simp) (EvB.of_false (Ev.now _) fun k => hu k.1)
theorem minOf_mem : ∀ (t seen : List Int) {x : Int}, x ∈ minOf seen t → x ∈ t
 | [], _, _, h => by simp [minOf] at h
 | y :: t, seen, x, h => by
  unfold minOf at h
  split at h
  ·exact List.mem_cons_of_mem _ (minOf_mem t _ h)
  ·rcases List.mem_cons.1 h with rfl | h
   ·exact List.mem_cons_self
   ·exact List.mem_cons_of_mem _ (minOf_mem t _ h)
theorem minOf_sublist : ∀ (t seen : List Int), (minOf seen t).Sublist t
 | [], _ => by simp [minOf]
 | y :: t, seen => by
  unfold minOf
  split
  ·exact (minOf_sublist t _).cons _
  ·exact (minOf_sublist t _).cons_cons _
theorem minOf_self : ∀ (t seen : List Int), minOf seen t = t ↔ ∀ i, (hi : i < t.length) → ¬ Sums (seen ++ t.take i) t[i]
 | [], _ => by simp [minOf]
 | y :: t, seen => by
  unfold minOf
  split
  ·rename_i h
   constructor
   ·intro e
    have := (minOf_sublist t (seen ++ [y])).length_le
    rw [e] at this
    simp at this
    omega
   ·intro k
    have := k 0 (by simp)
    rw [List.take_zero, List.append_nil] at this
    exact absurd h this
  ·rename_i h
   rw [List.cons.injEq]
   have := minOf_self t (seen ++ [y])
   rw [this]
   constructor
   ·rintro ⟨_, k⟩ i hi
    cases i with
    | zero => simpa using h
    | succ i =>
     have := k i (by simpa using hi)
     simpa using this
   ·intro k
    refine ⟨rfl, fun i hi => ?_⟩
    have := k (i + 1) (by simpa using hi)
    simpa using this
theorem l3Minimal_l0 (s : List Int) (hl : s.length ≤ 1048576) (hg : InR 1 1000000 s) : ∀ (d j : Nat) (out : List Int), s.length - j = d → j ≤ s.length → out.length ≤ j → Ev (fun k => spec_l3Minimal.l0 k out s (j : Int)) (out ++ minOf (s.take j) (s.drop j)) := by
 intro d
 induction d with
 | zero =>
  intro j out hd hj ho
  refine Ev.step (fun _ => spec_l3Minimal.l0.eq_2 ..) ?_
  refine Ev.neg (by omega) ?_
  rw [List.drop_of_length_le (by omega)]
  simp only [minOf, List.append_nil]
  exact Ev.now _
 | succ d ih =>
  intro j out hd hj ho
  have hlt : j < s.length := by omega
  have hx := hg _ (List.getElem_mem hlt)
  have keep : ¬ Sums (s.take j) s[j] → Ev (fun k => spec_l3Minimal.l0 k (out ++ [s[j]]) s ((j + 1 : Nat) : Int)) (out ++ minOf (s.take j) (s.drop j)) := by
   intro h
   have := ih (j + 1) (out ++ [s[j]]) (by omega) (by omega) (by simp <;> omega)
   rw [drop_cons hlt, minOf, if_neg h]
   rwa [take_snoc' hlt, List.append_assoc, List.singleton_append] at this
  have skip : Sums (s.take j) s[j] → Ev (fun k => spec_l3Minimal.l0 k out s ((j + 1 : Nat) : Int)) (out ++ minOf (s.take j) (s.drop j)) := by
   intro h
   have := ih (j + 1) out (by omega) (by omega) (by omega)
   rw [drop_cons hlt, minOf, if_pos h]
   rwa [take_snoc' hlt] at this
  refine Ev.step (fun _ => spec_l3Minimal.l0.eq_2 ..) ?_
  refine Ev.pos (by omega) ?_
  rw [rd_get hlt, w64s (by omega)]
  by_cases h0 : j = 0
  ·subst h0
   refine Ev.pos (by omega) ?_
   refine Ev.pos (by omega) ?_
   refine Ev.pos (by omega) ?_
   refine keep fun h => ?_
   have := h.nil
   omega
  ·refine Ev.neg (by omega) ?_
   refine Ev.pos (by omega) ?_
   refine Ev.pos (by omega) ?_
   obtain ⟨q, hq⟩ : ∃ q : Nat, s[j] = (q : Int) := ⟨s[j].toNat, by omega⟩
   obtain ⟨t, h1, h2, h3⟩ := l3Table (s.take j) (by rw [List.length_take]; omega) (hg.sub fun x hx => List.mem_of_mem_take hx) q (by omega)
   rw [Int.toNat_natCast]
   rw [← hq] at h1
   refine Ev.bind h1 ?_
   refine Ev.pos (by omega) ?_
   refine Ev.pos (by omega) ?_
   rw [show rdOf false t s[j] = t.getD q false by rw [hq, rdOf_nat]]
   have h4 := h3 q (Nat.le_refl _)
   rw [← hq] at h4
   by_cases c : Sums (s.take j) s[j]
   ·exact Ev.pos (h4.2 c) (skip c)
   ·refine Ev.neg (fun k => c (h4.1 k)) ?_
    exact Ev.pos (by omega) (keep c)
theorem l3Minimal (l : List Int) (hl : l.length ≤ 1048576) (hg : InR 1 1000000 l) : ∃ s, Sorted l s ∧ Ev (fun k => spec_l3Minimal.f k l) (minOf [] s) := by
 obtain ⟨s, h1, h2⟩ := sSort l hl
 refine ⟨s, h2, ?_⟩
 unfold spec_l3Minimal.f
 refine Ev.bind h1 ?_
 have := l3Minimal_l0 s (by have := h2.2.2; omega) (hg.sub fun x hx => (h2.2.1 x).1 hx) s.length 0 [] (by omega) (by omega) (by simp)
 simpa using this
theorem l3Ends_l0 (g : List Int) (t : List Bool) (hpos : 0 < g.length) (hg : InR 1 60 g) (ht : t.length = 261) : ∀ (d j : Nat), 261 - j = d → 200 ≤ j → j ≤ 260 → EvB (fun k => spec_l3Ends.l0 k g t (j : Int)) (∀ n : Nat, j ≤ n → (n : Int) < 200 + rd g 0 → t.getD n false = true) := by
 have ha := hg _ (List.getElem_mem hpos)
 have e0 : rd g 0 = g[0] := rd_get (i := 0) hpos
 intro d
 induction d with
 | zero => intro j hd h1 h2; omega
 | succ d ih =>
  intro j hd h1 h2
  refine EvB.step (fun _ => spec_l3Ends.l0.eq_2 ..) ?_
  refine EvB.pos (by omega) ?_
  rw [w64 (x := 200 + rd g 0) (by omega) (by omega)]
  by_cases c : (j : Int) < 200 + rd g 0
  ·refine EvB.pos c ?_
   refine EvB.pos (by omega) ?_
   refine EvB.pos (by omega) ?_
   rw [rdOf_nat]
   by_cases hb : t.getD j false = true
   ·refine EvB.pos hb ?_
    rw [w64s (by omega)]
    rcases Nat.lt_or_ge j 260 with hj | hj
    ·refine (ih (j + 1) (by omega) (by omega) (by omega)).iff ⟨fun h n h3 h4 => ?_, fun h n h3 h4 => h n (by omega) h4⟩
     rcases Nat.lt_or_ge j n with h5 | h5
     ·exact h n (by omega) h4
     ·have : n = j := by omega
      subst this; exact hb
    ·omega
   ·refine EvB.neg hb (EvB.of_false (Ev.now _) fun h => hb (h j (Nat.le_refl _) c))
  ·exact EvB.neg c (EvB.of_true (Ev.now _) fun n h3 h4 => by omega)
theorem l3Ends (g : List Int) (hl : g.length ≤ 1000000) (hpos : 0 < g.length) (hg : InR 1 60 g) : EvB (fun k => spec_l3Ends.f k g) (∀ n : Int, 200 ≤ n → Sums g n) := by
 have ha := hg _ (List.getElem_mem hpos)
 have e0 : rd g 0 = g[0] := rd_get (i := 0) hpos
 obtain ⟨t, h1, h2, h3⟩ := l3Table g (by omega) (hg.mono (Int.le_refl _) (by omega)) 260 (by omega)
 unfold spec_l3Ends.f
 refine EvB.bind h1 ?_
 refine (l3Ends_l0 g t hpos hg (by omega) 61 200 (by omega) (by omega) (by omega)).iff ⟨fun h => ?_, fun h n h4 h5 => ?_⟩
 ·refine ends_of (a := g[0]) (by omega) (List.getElem_mem hpos) fun n h4 h5 => ?_
  obtain ⟨q, rfl⟩ : ∃ q : Nat, n = (q : Int) := ⟨n.toNat, by omega⟩
  exact (h3 q (by omega)).1 (h q (by omega) (by omega))
 ·exact (h3 n (by omega)).2 (h n (by omega))
theorem sIsSG (l : List Int) (hl : l.length ≤ 1048576) : EvB (fun k => spec_IsSemigroup.f k l) (IsSG l) := by
 unfold spec_IsSemigroup.f
 by_cases hu : Use l
 case neg => exact EvB.bind ((l3Gens l (by omega)).no hu) (EvB.neg (by simp) (EvB.of_false (Ev.now _) fun h => hu ⟨h.rng, h.pos, by have := h.le; omega⟩))
 refine EvB.bind ((l3Gens l (by omega)).yes hu) (EvB.pos rfl ?_)
 by_cases h12 : l.length ≤ 12
 case neg => exact EvB.neg (by omega) (EvB.of_false (Ev.now _) fun h => h12 h.le)
 refine EvB.pos (by omega) ?_
 by_cases ha : l.Pairwise (· < ·)
 case neg => exact EvB.bind ((sAsc l (by omega)).no ha) (EvB.neg (by simp) (EvB.of_false (Ev.now _) fun h => ha h.asc))
 refine EvB.bind ((sAsc l (by omega)).yes ha) (EvB.pos rfl ?_)
 refine EvB.bind (sGcdList l (by omega) (hu.1.mono (Int.le_refl _) (by omega))) ?_
 by_cases hg : gcdL l = 1
 case neg => exact EvB.neg (by omega) (EvB.of_false (Ev.now _) fun h => hg h.gcd)
 refine EvB.pos (by omega) ?_
 obtain ⟨s, hs, hm⟩ := l3Minimal l hl (hu.1.mono (Int.le_refl _) (by omega))
 have : s = l := hs.uniq ⟨ha, fun _ => Iff.rfl, Nat.le_refl _⟩
 subst this
 refine EvB.bind hm ?_
 have hself := minOf_self s []
 have hmin : minOf [] s = s ↔ ∀ i : Nat, 1 ≤ i → i < s.length → ¬ Sums (s.take i) (s.getD i 0) := by
  rw [hself]
  constructor
  ·intro h i _ hi
   rw [getD_get hi]
   simpa using h i hi
  ·intro h i hi
   rw [List.nil_append]
   rcases Nat.eq_zero_or_pos i with h0 | h0
   ·subst h0
    intro k
    have := hu.1 _ (List.getElem_mem hi)
    have := Sums.nil (by simpa using k)
    omega
   ·have := h i h0 hi
    rwa [getD_get hi] at this
 by_cases hmm : minOf [] s = s
 case neg => exact EvB.bind ((l2Same (minOf [] s) s (by have := (minOf_sublist s []).length_le; omega)).no hmm) (EvB.neg (by simp) (EvB.of_false (Ev.now _) fun h => hmm (hmin.2 h.minl)))
 refine EvB.bind ((l2Same (minOf [] s) s (by have := (minOf_sublist s []).length_le; omega)).yes hmm) (EvB.pos rfl ?_)
 obtain ⟨b, hb, hP⟩ := l3Ends s (by omega) (by have := hu.2.1; omega) hu.1
 exact EvB.bind hb ⟨b, Ev.now _, hP.trans ⟨fun h => ⟨hu.2.1, h12, hu.1, ha, hg, hmin.1 hmm, h⟩, fun h => h.ends⟩⟩
theorem iSG_l1 (g R : List Int) (hpos : 0 < g.length) (hg : InR 1 60 g) (hR : ∀ r ∈ R, -1 ≤ r ∧ r ≤ 1000000) (hl : R.length ≤ 1000000) : ∀ (d j : Nat), R.length - j = d → j ≤ R.length → EvB (fun k => impl_IsSemigroup.l1 k g R (R.length : Int) (j : Int)) (∀ i : Nat, j ≤ i → i < R.length → R.getD i 0 - rd g 0 < 200) := by
 have ha := hg _ (List.getElem_mem hpos)
 have e0 : rd g 0 = g[0] := rd_get (i := 0) hpos
 intro d
 induction d with
 | zero =>
  intro j hd hj
  refine EvB.step (fun _ => impl_IsSemigroup.l1.eq_2 ..) ?_
  exact EvB.neg (by omega) (EvB.of_true (Ev.now _) fun i h1 h2 => by omega)
 | succ d ih =>
  intro j hd hj
  have hlt : j < R.length := by omega
  have hr := hR _ (List.getElem_mem hlt)
  refine EvB.step (fun _ => impl_IsSemigroup.l1.eq_2 ..) ?_
  refine EvB.pos (by omega) ?_
  refine EvB.pos (by omega) ?_
  refine EvB.pos (by omega) ?_
  refine EvB.pos (by omega) ?_
  rw [rd_get hlt, w64 (x := R[j] - rd g 0) (by omega) (by omega)]
  by_cases c : R[j] - rd g 0 ≥ 200
  ·refine EvB.pos c (EvB.of_false (Ev.now _) fun h => ?_)
   have := h j (Nat.le_refl _) hlt
   rw [getD_get hlt] at this
   omega
  ·refine EvB.neg c ?_
   rw [w64s (by omega)]
   refine (ih (j + 1) (by omega) (by omega)).iff ⟨fun h i h1 h2 => ?_, fun h i h1 h2 => h i (by omega) h2⟩
   rcases Nat.lt_or_ge j i with h3 | h3
   ·exact h i (by omega) h2
   ·have : i = j := by omega
    subst this
    rw [getD_get hlt]; omega
theorem iSG_l0 (g : List Int) (hl : 1 ≤ g.length) (hl2 : g.length ≤ 12) (hg : InR 1 60 g) (hgcd : gcdL g = 1) : ∀ (d j : Nat), g.length - j = d → 1 ≤ j → EvB (fun k => impl_IsSemigroup.l0 k g (j : Int)) ((∀ i : Nat, j ≤ i → i < g.length → ¬ Sums (g.take i) (g.getD i 0)) ∧ ∀ n : Int, 200 ≤ n → Sums g n) := by
 have hpos : 0 < g.length := by omega
 have ha := hg _ (List.getElem_mem hpos)
 have e0 : rd g 0 = g[0] := rd_get (i := 0) hpos
 intro d
 induction d with
 | zero =>
  intro j hd hj
  refine EvB.step (fun _ => impl_IsSemigroup.l0.eq_2 ..) ?_
  refine EvB.neg (by omega) ?_
  refine EvB.pos (by omega) ?_
  obtain ⟨R, h1, h2⟩ := leasts g (by omega) hg (rd g 0) (by omega) (by omega)
  refine EvB.bind h1 ?_
  have hag : rd g 0 ∈ g := by rw [e0]; exact List.getElem_mem hpos
  have hR : ∀ i : Nat, i < R.length → 0 ≤ R.getD i 0 ∧ Sums g (R.getD i 0) ∧ R.getD i 0 % rd g 0 = i ∧ ∀ n, Sums g n → n % rd g 0 = i → R.getD i 0 ≤ n := by
   intro i hi
   have hl := h2.len
   rcases h2.cls (i : Int) (by omega) (by omega) with ⟨e, h⟩ | ⟨k1, k2, k3, k4⟩
   ·exfalso
    obtain ⟨n, hn, hr⟩ := hits_gcdL (g := g) (a := rd g 0) (by omega) (fun x hx => by have := hg x hx; omega) (i : Int)
    rw [hgcd] at hr
    refine h n hn (hr.trans ?_)
    rw [show (i : Int) * ((1 : Nat) : Int) = (i : Int) by simp]
    exact Int.emod_eq_of_lt (by omega) (by omega)
   ·rw [rd_nat] at k1 k2 k3 k4
    exact ⟨k1, k2, k3, k4⟩
  by_cases hbig : ∀ r ∈ R, r ≤ 1000000
  ·refine (iSG_l1 g R hpos hg (fun r hr => ⟨?_, hbig r hr⟩) (by have := h2.len; omega) R.length 0 (by omega) (by omega)).iff ⟨fun h => ⟨fun i h3 h4 => by omega, ?_⟩, fun h i _ hi => ?_⟩
   ·obtain ⟨i, hi, rfl⟩ := List.getElem_of_mem hr
    have := hR i hi
    rw [getD_get hi] at this
    omega
   ·refine ends_of (a := rd g 0) (by omega) hag fun n h4 h5 => ?_
    have m0 := Int.emod_nonneg n (show rd g 0 ≠ 0 by omega)
    have m1 := Int.emod_lt_of_pos n (show 0 < rd g 0 by omega)
    have hl := h2.len
    have k := h (n % rd g 0).toNat (by omega) (by omega)
    have k2 := hR (n % rd g 0).toNat (by omega)
    refine (least_sums h2 (by omega) hag).1 ⟨?_, ?_⟩
    ·unfold rd; exact k2.1
    ·show R.getD (n % rd g 0).toNat 0 ≤ n
     have k3 := k2.2.2.1
     rw [Int.toNat_of_nonneg m0] at k3
     rcases Int.lt_or_le n (R.getD (n % rd g 0).toNat 0) with c | c
     ·exfalso
      have hd : rd g 0 ∣ R.getD (n % rd g 0).toNat 0 - n := Int.dvd_of_emod_eq_zero (by rw [Int.sub_emod, k3, Int.sub_self, Int.zero_emod])
      have := Int.le_of_dvd (by omega) hd
      omega
     ·exact c
   ·have k := hR i hi
    rcases Int.lt_or_le (R.getD i 0 - rd g 0) 200 with c | c
    ·exact c
    ·exfalso
     have hs := h.2 (R.getD i 0 - rd g 0) c
     have := k.2.2.2 _ hs (by rw [Int.sub_emod, k.2.2.1, Int.emod_self, Int.sub_zero]; exact Int.emod_eq_of_lt (by omega) (by have := h2.len; omega))
     omega
  ·exfalso
   refine hbig fun r hr => ?_
   obtain ⟨i, hi, rfl⟩ := List.getElem_of_mem hr
   have := h2.bd (i : Int) (by omega) (by have := h2.len; omega)
   rw [rd_get hi] at this
   omega
 | succ d ih =>
  intro j hd hj
  have hlt : j < g.length := by omega
  have hx := hg _ (List.getElem_mem hlt)
  refine EvB.step (fun _ => impl_IsSemigroup.l0.eq_2 ..) ?_
  refine EvB.pos (by omega) ?_
  refine EvB.pos (by omega) ?_
  refine EvB.pos (by omega) ?_
  rw [Int.toNat_natCast, rd_get hlt]
  have hG := iGenerates (g.take j) (by rw [List.length_take]; omega) g[j]
  have hu : Use (g.take j) := ⟨hg.sub fun x hx => List.mem_of_mem_take hx, by rw [List.length_take]; omega, by rw [List.length_take]; omega⟩
  by_cases c : Sums (g.take j) g[j]
  ·refine EvB.bind (hG.yes ⟨hu, by omega, c⟩) (EvB.pos rfl (EvB.of_false (Ev.now _) fun h => ?_))
   have := h.1 j (Nat.le_refl _) hlt
   rw [getD_get hlt] at this
   exact this c
  ·refine EvB.bind (hG.no fun h => c h.2.2) (EvB.neg (by simp) ?_)
   rw [w64s (by omega)]
   refine (ih (j + 1) (by omega) (by omega)).iff ⟨fun h => ⟨fun i h1 h2 => ?_, h.2⟩, fun h => ⟨fun i h1 h2 => h.1 i (by omega) h2, h.2⟩⟩
   rcases Nat.lt_or_ge j i with h3 | h3
   ·exact h.1 i (by omega) h2
   ·have : i = j := by omega
    subst this
    rw [getD_get hlt]; exact c
theorem iIsSG (l : List Int) (hl : l.length ≤ 1048576) : EvB (fun k => impl_IsSemigroup.f k l) (IsSG l) := by
 unfold impl_IsSemigroup.f
 by_cases h1 : (1 : Int) ≤ l.length ∧ (l.length : Int) ≤ 12
 case neg => exact EvB.call (within_no h1) (EvB.neg (by simp) (EvB.step (fun _ => impl_IsSemigroup.j0.eq_2 ..) (EvB.pos rfl (EvB.of_false (Ev.now _) fun h => h1 ⟨by have := h.pos; omega, by have := h.le; omega⟩))))
 refine EvB.call (within_yes h1) (EvB.pos rfl ?_)
 by_cases hr : InR 1 60 l
 case neg => exact EvB.bind ((allWithin 1 60 l (by omega)).no hr) (EvB.neg (by simp) (EvB.step (fun _ => impl_IsSemigroup.j0.eq_2 ..) (EvB.pos rfl (EvB.of_false (Ev.now _) fun h => hr h.rng))))
 refine EvB.bind ((allWithin 1 60 l (by omega)).yes hr) (EvB.pos rfl ?_)
 by_cases ha : l.Pairwise (· < ·)
 case neg => exact EvB.bind ((iAsc l (by omega)).no ha) (EvB.neg (by simp) (EvB.step (fun _ => impl_IsSemigroup.j0.eq_2 ..) (EvB.pos rfl (EvB.of_false (Ev.now _) fun h => ha h.asc))))
 refine EvB.bind ((iAsc l (by omega)).yes ha) (EvB.pos rfl ?_)
 refine EvB.bind (iGcdList l (by omega) (hr.mono (Int.le_refl _) (by omega))) ?_
 refine EvB.step (fun _ => impl_IsSemigroup.j0.eq_2 ..) ?_
 by_cases hg : gcdL l = 1
 case neg => exact EvB.pos (by rw [bne_iff_ne]; omega) (EvB.of_false (Ev.now _) fun h => hg h.gcd)
 refine EvB.neg (by rw [hg]; simp) ?_
 refine (iSG_l0 l (by omega) (by omega) hr hg (l.length - 1) 1 rfl (by omega)).iff ⟨fun h => ⟨by omega, by omega, hr, ha, hg, h.1, h.2⟩, fun h => ⟨h.minl, h.ends⟩⟩
end Go.Proofs.Ytbjbolblahlhcaa.FFnWilf
end
section
namespace Go.Proofs.Ytbjbolblahlhcaa.FFnWilf
open Go Go.RowKit Go.Proofs.YtbjbolblahlhcaaW.PrintWords Go.Proofs.Ytbjbolblahlhcaa.M Go.Proofs.Ytbjbolblahlhcaa.PFnWilf
def FG (l : List Int) (r : List Int × Bool) : Prop := ∃ s, Sorted l s ∧ ((Use l ∧ IsSG (minOf [] s) ∧ r = (minOf [] s, true)) ∨ (¬ (Use l ∧ IsSG (minOf [] s)) ∧ r = ([], false)))
theorem FG.uniq {l : List Int} {r r' : List Int × Bool} (h : FG l r) (h' : FG l r') : r = r' := by
 obtain ⟨s, hs, h⟩ := h
 obtain ⟨s', hs', h'⟩ := h'
 have := hs.uniq hs'
 subst this
 rcases h with ⟨a, b, rfl⟩ | ⟨a, rfl⟩ <;> rcases h' with ⟨a', b', rfl⟩ | ⟨a', rfl⟩
 ·rfl
 ·exact absurd ⟨a, b⟩ a'
 ·exact absurd ⟨a', b'⟩ a
 ·rfl
theorem FG.ok {l g : List Int} (h : FG l (g, true)) : IsSG g := by
 obtain ⟨s, _, ⟨_, b, e⟩ | ⟨_, e⟩⟩ := h
 ·injection e with e1 _; subst e1; exact b
 ·injection e with _ e2; cases e2
theorem FG.no {l g : List Int} (h : FG l (g, false)) : g = [] := by
 obtain ⟨s, _, ⟨_, b, e⟩ | ⟨_, e⟩⟩ := h
 ·injection e with _ e2; cases e2
 ·injection e
theorem FG.cases {l : List Int} {r : List Int × Bool} (h : FG l r) : (r.2 = true ∧ IsSG r.1) ∨ r = ([], false) := by
 obtain ⟨g, b⟩ := r
 cases b with
 | true => exact .inl ⟨rfl, h.ok⟩
 | false => right; rw [h.no]
theorem sFG (l : List Int) (hl : l.length ≤ 1048576) : ∃ r, Ev (fun k => spec_FromGens.f k l) r ∧ FG l r := by
 by_cases hu : Use l
 ·obtain ⟨s, hs, hm⟩ := l3Minimal l hl (hu.1.mono (Int.le_refl _) (by omega))
  have hlen : (minOf [] s).length ≤ 1048576 := by have := (minOf_sublist s []).length_le; have := hs.2.2; omega
  by_cases hg : IsSG (minOf [] s)
  ·refine ⟨(minOf [] s, true), ?_, s, hs, .inl ⟨hu, hg, rfl⟩⟩
   unfold spec_FromGens.f
   refine Ev.bind ((l3Gens l (by omega)).yes hu) (Ev.pos rfl ?_)
   refine Ev.bind hm ?_
   exact Ev.bind ((sIsSG _ hlen).yes hg) (Ev.pos rfl (Ev.now _))
  ·refine ⟨([], false), ?_, s, hs, .inr ⟨fun h => hg h.2, rfl⟩⟩
   unfold spec_FromGens.f
   refine Ev.bind ((l3Gens l (by omega)).yes hu) (Ev.pos rfl ?_)
   refine Ev.bind hm ?_
   exact Ev.bind ((sIsSG _ hlen).no hg) (Ev.neg (by simp) (Ev.now _))
 ·obtain ⟨s, _, hs⟩ := sSort l hl
  refine ⟨([], false), ?_, s, hs, .inr ⟨fun h => hu h.1, rfl⟩⟩
  unfold spec_FromGens.f
  exact Ev.bind ((l3Gens l (by omega)).no hu) (Ev.neg (by simp) (Ev.now _))
end Go.Proofs.Ytbjbolblahlhcaa.FFnWilf
end
section
namespace Go.Proofs.Ytbjbolblahlhcaa.FFnWilf
open Go Go.RowKit Go.Proofs.YtbjbolblahlhcaaW.PrintWords Go.Proofs.Ytbjbolblahlhcaa.M Go.Proofs.Ytbjbolblahlhcaa.PFnWilf
theorem _root_.Go.Proofs.Ytbjbolblahlhcaa.M.IsSG.first' {l : List Int} (h : IsSG l) : 1 ≤ rd l 0 ∧ rd l 0 ≤ 60 ∧ rd l 0 ∈ l := by
 have hpos := h.pos
 have hm : rd l ((0 : Nat) : Int) ∈ l := rd_mem (by omega)
 exact ⟨(h.rng _ hm).1, (h.rng _ hm).2, hm⟩
def Elem (l : List Int) (n : Int) : Prop := IsSG l ∧ 0 ≤ n ∧ Sums l n
theorem least_full {l R : List Int} (h : IsSG l) (hR : Least l (rd l 0) R) {r : Int} (h0 : 0 ≤ r) (h1 : r < rd l 0) : 0 ≤ rd R r := by
 have hf := h.first'
 rcases hR.cls r h0 h1 with ⟨_, k⟩ | ⟨k, _⟩
 ·exfalso
  obtain ⟨n, hn, hr⟩ := hits_gcdL (g := l) (a := rd l 0) (by omega) (fun x hx => by have := h.rng x hx; omega) r
  rw [h.gcd] at hr
  refine k n hn (hr.trans ?_)
  rw [show r * ((1 : Nat) : Int) = r by simp]
  exact Int.emod_eq_of_lt h0 h1
 ·exact k
theorem least_le {l R : List Int} (h : IsSG l) (hR : Least l (rd l 0) R) (n : Int) : rd R (n % rd l 0) ≤ n ↔ Sums l n := by
 have hf := h.first'
 have m0 := Int.emod_nonneg n (show rd l 0 ≠ 0 by omega)
 have m1 := Int.emod_lt_of_pos n (show 0 < rd l 0 by omega)
 have := least_full h hR m0 m1
 have key := least_sums hR (by omega) hf.2.2 (n := n)
 exact ⟨fun k => key.1 ⟨this, k⟩, fun k => (key.2 k).2⟩
theorem mem_drop {l : List Int} {j : Nat} (h : j < l.length) (x : Int) : x ∈ l.drop j ↔ x = l[j] ∨ x ∈ l.drop (j + 1) := by rw [drop_cons h, List.mem_cons]
end Go.Proofs.Ytbjbolblahlhcaa.FFnWilf
end
section
namespace Go.Proofs.Ytbjbolblahlhcaa.FFnWilf
open Go Go.RowKit Go.Proofs.YtbjbolblahlhcaaW.PrintWords Go.Proofs.Ytbjbolblahlhcaa.M Go.Proofs.Ytbjbolblahlhcaa.PFnWilf
noncomputable def gapsUp (l : List Int) : Nat → List Int
 | 0 => []
 | n + 1 => open Classical in gapsUp l n ++ (if Sums l n then [] else [(n : Int)])
theorem gapsUp_len (l : List Int) (n : Nat) : (gapsUp l n).length ≤ n := by
 induction n with
 | zero => simp [gapsUp]
 | succ n ih => unfold gapsUp; rw [List.length_append]; split <;> simp <;> omega
theorem gapsUp_mem (l : List Int) (n : Nat) (x : Int) : x ∈ gapsUp l n ↔ 0 ≤ x ∧ x < n ∧ ¬ Sums l x := by
 induction n with
 | zero => simp [gapsUp]; omega
 | succ n ih =>
  unfold gapsUp
  rw [List.mem_append, ih]
  by_cases c : Sums l n
  ·rw [if_pos c]
   constructor
   ·rintro (h | h)
    ·exact ⟨h.1, by omega, h.2.2⟩
    ·simp at h
   ·rintro ⟨h1, h2, h3⟩
    refine .inl ⟨h1, ?_, h3⟩
    rcases Int.lt_or_le x n with k | k
    ·exact k
    ·exact absurd ((show (n : Int) = x by omega) ▸ c) h3
  ·rw [if_neg c, List.mem_singleton]
   constructor
   ·rintro (h | rfl)
    ·exact ⟨h.1, by omega, h.2.2⟩
    ·exact ⟨by omega, by omega, c⟩
   ·rintro ⟨h1, h2, h3⟩
    rcases Int.lt_or_le x n with k | k
    ·exact .inl ⟨h1, k, h3⟩
    ·exact .inr (by omega)
theorem gapsUp_asc (l : List Int) (n : Nat) : (gapsUp l n).Pairwise (· < ·) := by
 induction n with
 | zero => simp [gapsUp]
 | succ n ih =>
  unfold gapsUp
  rw [List.pairwise_append]
  refine ⟨ih, by split <;> simp, fun a ha b hb => ?_⟩
  have := (gapsUp_mem l n a).1 ha
  split at hb
  ·simp at hb
  ·rw [List.mem_singleton] at hb; omega
noncomputable def gaps (l : List Int) : List Int := gapsUp l 200
theorem gaps_len (l : List Int) : (gaps l).length ≤ 200 := by unfold gaps; exact gapsUp_len l _
theorem gapsUp_one (l : List Int) : gapsUp l 1 = [] := by unfold gapsUp gapsUp; rw [if_pos (by exact Sums.zero)]; rfl
theorem gapsUp_201 {l : List Int} (h : IsSG l) : gapsUp l 201 = gaps l := by
 have hs : Sums l ((200 : Nat) : Int) := h.ends _ (by omega)
 show gapsUp l (200 + 1) = _
 unfold gapsUp
 rw [if_pos hs, List.append_nil]
 rfl
theorem sGaps_l0 (l : List Int) (t : List Bool) (ht : t.length = 201) (htab : ∀ m : Nat, m ≤ 200 → (t.getD m false = true ↔ Sums l m)) : ∀ (d j : Nat), 200 - j = d → j ≤ 200 → Ev (fun k => spec_l4Gaps.l0 k (gapsUp l j) t (j : Int)) (gaps l) := by
 intro d
 induction d with
 | zero =>
  intro j hd hj
  have : j = 200 := by omega
  subst this
  refine Ev.step (fun _ => spec_l4Gaps.l0.eq_2 ..) ?_
  exact Ev.neg (by omega) (Ev.now _)
 | succ d ih =>
  intro j hd hj
  have := ih (j + 1) (by omega) (by omega)
  have hg := gapsUp_len l j
  refine Ev.step (fun _ => spec_l4Gaps.l0.eq_2 ..) ?_
  refine Ev.pos (by omega) ?_
  refine Ev.pos (by omega) ?_
  refine Ev.pos (by omega) ?_
  rw [rdOf_nat, w64s (by omega)]
  unfold gapsUp at this
  by_cases c : Sums l j
  ·rw [if_pos c, List.append_nil] at this
   exact Ev.pos ((htab j (by omega)).2 c) this
  ·rw [if_neg c] at this
   exact Ev.neg (fun k => c ((htab j (by omega)).1 k)) (Ev.pos (by omega) this)
theorem sL4Gaps (l : List Int) (h : IsSG l) : Ev (fun k => spec_l4Gaps.f k l) (gaps l) := by
 have hle := h.le
 obtain ⟨t, h1, h2, h3⟩ := l3Table l (by omega) (h.rng.mono (Int.le_refl _) (by omega)) 200 (by omega)
 unfold spec_l4Gaps.f
 refine Ev.bind h1 ?_
 have := sGaps_l0 l t (by omega) h3 199 1 (by omega) (by omega)
 rw [gapsUp_one] at this
 exact this
theorem sGaps (l : List Int) (hl : l.length ≤ 1048576) : ∃ g, Ev (fun k => spec_Gaps.f k l) g ∧ ((IsSG l ∧ g = gaps l) ∨ (¬ IsSG l ∧ g = [])) := by
 unfold spec_Gaps.f
 by_cases h : IsSG l
 ·exact ⟨gaps l, Ev.bind ((sIsSG l hl).yes h) (Ev.pos rfl (Ev.bind (sL4Gaps l h) (Ev.now _))), .inl ⟨h, rfl⟩⟩
 ·exact ⟨[], Ev.bind ((sIsSG l hl).no h) (Ev.neg (by simp) (Ev.now _)), .inr ⟨h, rfl⟩⟩
theorem iTable_l0 (l R : List Int) (h : IsSG l) (hR : Least l (rd l 0) R) (N : Nat) (hN : N ≤ 1000000) : ∀ (d j : Nat) (t : List Bool), N + 1 - j = d → j ≤ N + 1 → t.length = N + 1 → (∀ m : Nat, m < j → (t.getD m false = true ↔ Sums l m)) → ∃ t', Ev (fun k => impl_table.l0 k R t ((N + 1 : Nat) : Int) (j : Int) l) t' ∧ t'.length = N + 1 ∧ ∀ m : Nat, m ≤ N → (t'.getD m false = true ↔ Sums l m) := by
 have hpos := h.pos
 have hf := h.first'
 intro d
 induction d with
 | zero =>
  intro j t hd hj ht hm
  refine ⟨t, ?_, ht, fun m hmN => hm m (by omega)⟩
  refine Ev.step (fun _ => impl_table.l0.eq_2 ..) ?_
  exact Ev.neg (by omega) (Ev.now _)
 | succ d ih =>
  intro j t hd hj ht hm
  have m0 := Int.emod_nonneg (j : Int) (show rd l 0 ≠ 0 by omega)
  have m1 := Int.emod_lt_of_pos (j : Int) (show 0 < rd l 0 by omega)
  obtain ⟨t', a, b, c⟩ := ih (j + 1) (t.set j (decide (rd R ((j : Int) % rd l 0) ≤ j))) (by omega) (by omega) (by simpa using ht) (fun m hmj => by
   rw [getD_set _ _ _ _ _ (by omega)]
   by_cases e : m = j
   ·subst e; rw [if_pos rfl, decide_eq_true_iff]; exact least_le h hR m
   ·rw [if_neg e]; exact hm m (by omega))
  refine ⟨t', ?_, b, c⟩
  refine Ev.step (fun _ => impl_table.l0.eq_2 ..) ?_
  refine Ev.pos (by omega) ?_
  refine Ev.pos (by omega) ?_
  rw [tmod_pos (by omega)]
  refine Ev.neg (by omega) ?_
  refine Ev.pos m0 ?_
  refine Ev.pos (by rw [hR.len]; exact m1) ?_
  refine Ev.pos (by omega) ?_
  refine Ev.pos (by omega) ?_
  rw [w64s (by omega), Int.toNat_natCast]
  exact a
theorem iTable (l : List Int) (h : IsSG l) (N : Nat) (hN : N ≤ 1000000) : ∃ t, Ev (fun k => impl_table.f k l (N : Int)) t ∧ t.length = N + 1 ∧ ∀ m : Nat, m ≤ N → (t.getD m false = true ↔ Sums l m) := by
 have hpos := h.pos
 have hle := h.le
 have hf := h.first'
 obtain ⟨R, h1, h2⟩ := leasts l (by omega) h.rng (rd l 0) hf.1 hf.2.1
 obtain ⟨t, a, b⟩ := iTable_l0 l R h h2 N hN (N + 1) 0 (List.replicate (N + 1) false) (by omega) (by omega) (by simp) (fun m hm => by omega)
 refine ⟨t, ?_, b⟩
 unfold impl_table.f
 refine Ev.pos (by omega) ?_
 refine Ev.bind h1 ?_
 rw [w64s (by omega), Int.toNat_natCast]
 refine Ev.pos (by omega) ?_
 refine Ev.pos (by omega) ?_
 refine Ev.call rfl ?_
 rw [List.length_replicate]
 exact a
theorem iGaps_l0 (l : List Int) (h : IsSG l) (t : List Bool) (ht : t.length = 201) (htab : ∀ m : Nat, m ≤ 200 → (t.getD m false = true ↔ Sums l m)) : ∀ (d j : Nat), 201 - j = d → j ≤ 201 → Ev (fun k => impl_Gaps.l0 k (gapsUp l j) t ((201 : Nat) : Int) (j : Int)) (gaps l) := by
 intro d
 induction d with
 | zero =>
  intro j hd hj
  have : j = 201 := by omega
  subst this
  refine Ev.step (fun _ => impl_Gaps.l0.eq_2 ..) ?_
  rw [gapsUp_201 h]
  exact Ev.neg (by omega) (Ev.now _)
 | succ d ih =>
  intro j hd hj
  have := ih (j + 1) (by omega) (by omega)
  have hg := gapsUp_len l j
  refine Ev.step (fun _ => impl_Gaps.l0.eq_2 ..) ?_
  refine Ev.pos (by omega) ?_
  refine Ev.pos (by omega) ?_
  refine Ev.pos (by omega) ?_
  rw [rdOf_nat, w64s (by omega)]
  unfold gapsUp at this
  by_cases c : Sums l j
  ·rw [if_pos c, List.append_nil] at this
   exact Ev.pos ((htab j (by omega)).2 c) this
  ·rw [if_neg c] at this
   exact Ev.neg (fun k => c ((htab j (by omega)).1 k)) (Ev.pos (by omega) this)
theorem iGaps (l : List Int) (hl : l.length ≤ 1048576) : ∃ g, Ev (fun k => impl_Gaps.f k l) g ∧ ((IsSG l ∧ g = gaps l) ∨ (¬ IsSG l ∧ g = [])) := by
 unfold impl_Gaps.f
 by_cases h : IsSG l
 ·refine ⟨gaps l, ?_, .inl ⟨h, rfl⟩⟩
  obtain ⟨t, h1, h2, h3⟩ := iTable l h 200 (by omega)
  refine Ev.bind ((iIsSG l hl).yes h) (Ev.pos rfl ?_)
  refine Ev.bind h1 ?_
  have h2' : t.length = 201 := by omega
  rw [h2']
  have := iGaps_l0 l h t h2' h3 201 0 (by omega) (by omega)
  have e0 : gapsUp l 0 = [] := rfl
  rw [e0] at this
  refine Ev.congr (fun k => ?_) this
  rfl
 ·exact ⟨[], Ev.bind ((iIsSG l hl).no h) (Ev.neg (by simp) (Ev.now _)), .inr ⟨h, rfl⟩⟩
def lastOf (g : List Int) : Int := if g.length = 0 then -1 else g.getD (g.length - 1) 0
theorem gaps_both {l g g' : List Int} (h : (IsSG l ∧ g = gaps l) ∨ (¬ IsSG l ∧ g = [])) (h' : (IsSG l ∧ g' = gaps l) ∨ (¬ IsSG l ∧ g' = [])) : g = g' ∧ g.length ≤ 200 := by
 rcases h with ⟨a, e⟩ | ⟨a, e⟩ <;> rcases h' with ⟨a', e'⟩ | ⟨a', e'⟩
 ·rw [e, e']; exact ⟨Eq.refl _, gaps_len l⟩
 ·exact absurd a a'
 ·exact absurd a' a
 ·rw [e, e']; exact ⟨Eq.refl _, by simp⟩
theorem frobBoth (l : List Int) (hl : l.length ≤ 1048576) : ∃ g, ((IsSG l ∧ g = gaps l) ∨ (¬ IsSG l ∧ g = [])) ∧ Ev (fun k => spec_FrobeniusOf.f k l) (lastOf g) ∧ Ev (fun k => impl_FrobeniusOf.f k l) (lastOf g) := by
 obtain ⟨g, s1, s2⟩ := sGaps l hl
 obtain ⟨g', i1, i2⟩ := iGaps l hl
 obtain ⟨e, hg⟩ := gaps_both s2 i2
 subst e
 refine ⟨g, s2, ?_, ?_⟩
 ·unfold spec_FrobeniusOf.f
  refine Ev.bind s1 ?_
  unfold lastOf
  by_cases c : g.length = 0
  ·rw [if_pos c]; exact Ev.pos (by omega) (Ev.now _)
  ·rw [if_neg c]
   refine Ev.neg (by omega) ?_
   rw [w64p (by omega) (by omega), rd_nat]
   exact Ev.pos (by omega) (Ev.pos (by omega) (Ev.now _))
 ·unfold impl_FrobeniusOf.f
  refine Ev.bind i1 ?_
  unfold lastOf
  by_cases c : g.length = 0
  ·rw [if_pos c]; exact Ev.pos (by omega) (Ev.now _)
  ·rw [if_neg c]
   refine Ev.neg (by omega) ?_
   rw [w64p (by omega) (by omega), rd_nat]
   exact Ev.pos (by omega) (Ev.pos (by omega) (Ev.now _))
end Go.Proofs.Ytbjbolblahlhcaa.FFnWilf
end
section
namespace Go.Proofs.Ytbjbolblahlhcaa.WM
open Go.Proofs.Ytbjbolblahlhcaa.M
def clo : Nat → Nat → Nat → Nat
 | 0, _, m => m
 | n + 1, g, m => clo n (2 * g) (m ||| (m <<< g))
theorem clo_bit : ∀ (n g m x : Nat), (clo n g m).testBit x = true ↔ ∃ j, j < 2 ^ n ∧ j * g ≤ x ∧ m.testBit (x - j * g) = true := by
 intro n
 induction n with
 | zero =>
  intro g m x
  constructor
  ·intro h; exact ⟨0, by simp, by simp, by simpa [clo] using h⟩
  ·rintro ⟨j, hj, _, h⟩
   have h0 : j = 0 := by simpa using hj
   subst h0
   simpa [clo] using h
 | succ n ih =>
  intro g m x
  unfold clo
  rw [ih]
  constructor
  ·rintro ⟨j, hj, hx, h⟩
   rw [Nat.testBit_or, Nat.testBit_shiftLeft, Bool.or_eq_true, Bool.and_eq_true, decide_eq_true_eq] at h
   have e2 : j * (2 * g) = (2 * j) * g := by rw [Nat.mul_comm 2 j, Nat.mul_assoc]
   rcases h with h | ⟨h1, h⟩
   ·exact ⟨2 * j, by rw [Nat.pow_succ]; omega, by omega, by rw [← e2]; exact h⟩
   ·have e3 : (2 * j + 1) * g = j * (2 * g) + g := by rw [Nat.add_mul, Nat.one_mul, e2]
    exact ⟨2 * j + 1, by rw [Nat.pow_succ]; omega, by omega, by rw [e3, Nat.sub_add_eq]; exact h⟩
  ·rintro ⟨j, hj, hx, h⟩
   have e2 : (j / 2) * (2 * g) = (2 * (j / 2)) * g := by rw [Nat.mul_comm 2 (j / 2), Nat.mul_assoc]
   refine ⟨j / 2, by rw [Nat.pow_succ] at hj; omega, ?_, ?_⟩
   ·rw [e2]; exact Nat.le_trans (Nat.mul_le_mul_right g (by omega)) hx
   ·rw [Nat.testBit_or, Nat.testBit_shiftLeft, Bool.or_eq_true, Bool.and_eq_true, decide_eq_true_eq, e2]
    by_cases hp : j % 2 = 0
    ·left
     have : 2 * (j / 2) = j := by omega
     rw [this]; exact h
    ·right
     have e4 : j = 2 * (j / 2) + 1 := by omega
     have e3 : j * g = (2 * (j / 2)) * g + g := by
      conv => lhs; rw [e4]
      rw [Nat.add_mul, Nat.one_mul]
     refine ⟨by omega, ?_⟩
     rw [← Nat.sub_add_eq, ← e3]; exact h
def add (g m : Nat) : Nat := (clo 8 g m) % 2 ^ 256
def Sp (m : Nat) (l : List Int) : Prop := m < 2 ^ 256 ∧ ∀ x : Nat, x < 256 → (m.testBit x = true ↔ Sums l x)
theorem sums_snoc {l : List Int} {g n : Int} : Sums (l ++ [g]) n ↔ ∃ j : Nat, Sums l (n - j * g) := by
 constructor
 ·intro h
  induction h with
  | zero => exact ⟨0, by simpa using Sums.zero⟩
  | @add n x hx _ ih =>
   obtain ⟨j, hj⟩ := ih
   rcases List.mem_append.1 hx with hx | hx
   ·refine ⟨j, ?_⟩
    have := Sums.add hx hj
    rwa [show n - j * g + x = n + x - j * g by omega] at this
   ·have hx : x = g := by simpa using hx
    subst hx
    refine ⟨j + 1, ?_⟩
    rw [Int.natCast_succ, Int.add_mul, Int.one_mul, show n + x - (j * x + x) = n - j * x by omega]
    exact hj
 ·rintro ⟨j, hj⟩
  have h1 : Sums (l ++ [g]) (n - j * g) := hj.mono fun x hx => List.mem_append_left _ hx
  have h2 : Sums (l ++ [g]) (j * g) := (Sums.one (by simp)).mul j
  have := h1.trans h2
  rwa [Int.sub_add_cancel] at this
theorem sp_one : Sp 1 [] := by
 refine ⟨by decide, fun x _ => ?_⟩
 cases x with
 | zero => exact ⟨fun _ => Sums.zero, fun _ => by decide⟩
 | succ x =>
  constructor
  ·intro h
   rw [Nat.testBit_succ] at h
   simp at h
  ·intro h
   have := h.nil
   omega
theorem sp_add {m : Nat} {l : List Int} {g : Nat} (h : Sp m l) (hl : ∀ x ∈ l, 1 ≤ x) (hg : 1 ≤ g) : Sp (add g m) (l ++ [(g : Int)]) := by
 refine ⟨Nat.mod_lt _ (Nat.pow_pos (by decide)), fun x hx => ?_⟩
 unfold add
 rw [Nat.testBit_mod_two_pow, decide_eq_true hx, Bool.true_and, clo_bit, sums_snoc]
 constructor
 ·rintro ⟨j, _, hjx, hb⟩
  refine ⟨j, ?_⟩
  have := (h.2 _ (by omega)).1 hb
  rwa [Int.ofNat_sub hjx, Int.natCast_mul] at this
 ·rintro ⟨j, hj⟩
  have h0 := hj.nonneg hl
  have hjx : j * g ≤ x := by
   have : ((j * g : Nat) : Int) ≤ x := by rw [Int.natCast_mul]; omega
   exact Int.ofNat_le.1 this
  have hjj : j ≤ j * g := Nat.le_mul_of_pos_right j hg
  refine ⟨j, by omega, hjx, (h.2 _ (by omega)).2 ?_⟩
  rw [Int.ofNat_sub hjx, Int.natCast_mul]
  exact hj
def cnt : Nat → Nat → Nat
 | 0, _ => 0
 | n + 1, G => cnt n G + (G.testBit n).toNat
def sizeOf (G : Nat) : Nat := if G = 0 then 0 else Nat.log2 G + 1
def wilf (c n e : Nat) : Bool := Nat.ble c (e * n) && (!(Nat.beq e 2) || Nat.beq (2 * n) c)
def chkG (G e : Nat) : Bool := Nat.ble (2 ^ 200) G || wilf (sizeOf G) (sizeOf G - cnt (sizeOf G) G) e
def chk (m e : Nat) : Bool := chkG (2 ^ 256 - (m + 1)) e
def fin (m e : Nat) : Bool := chk m e && (m.testBit 60 || chk (add 60 m) (e + 1))
def go : List Nat → Nat → Nat → Nat → Bool
 | [], _, m, e => fin m e
 | g :: rest, k, m, e => match k with
  | 0 => fin m e
  | k + 1 => go rest (k + 1) m e && (m.testBit g || go rest k (add g m) (e + 1))
def win (a : Nat) : List Nat := List.range' (a + 1) (min 12 (21 - a))
theorem all1 : ((List.range 6).all fun a => go (win (a + 1)) 5 (add (a + 1) 1) 1) = true := by decide +kernel
theorem all2 : ((List.range 3).all fun a => go (win (a + 7)) 5 (add (a + 7) 1) 1) = true := by decide +kernel
theorem all3 : ((List.range 12).all fun a => go (win (a + 10)) 5 (add (a + 10) 1) 1) = true := by decide +kernel
theorem all (a : Nat) (h1 : 1 ≤ a) (h2 : a ≤ 21) : go (win a) 5 (add a 1) 1 = true := by
 by_cases h6 : a ≤ 6
 ·have := List.all_eq_true.1 all1 (a - 1) (List.mem_range.2 (by omega))
  rwa [show a - 1 + 1 = a by omega] at this
 ·by_cases h9 : a ≤ 9
  ·have := List.all_eq_true.1 all2 (a - 7) (List.mem_range.2 (by omega))
   rwa [show a - 7 + 7 = a by omega] at this
  ·have := List.all_eq_true.1 all3 (a - 10) (List.mem_range.2 (by omega))
   rwa [show a - 10 + 10 = a by omega] at this
def Mn : List Int → List Nat → Prop
 | _, [] => True
 | l, x :: t => ¬ Sums l (x : Int) ∧ Mn (l ++ [(x : Int)]) t
def ints (t : List Nat) : List Int := t.map fun x : Nat => (x : Int)
theorem go_sound : ∀ (rest : List Nat) (k m e : Nat) (l : List Int), Sp m l → (∀ x ∈ l, 1 ≤ x) → (∀ x ∈ rest, 1 ≤ x ∧ x < 256) → go rest k m e = true →
 ∀ t : List Nat, t.Sublist rest → t.length ≤ k → Mn l t → ∃ m', Sp m' (l ++ ints t) ∧ fin m' (e + t.length) = true := by
 intro rest
 induction rest with
 | nil =>
  intro k m e l hs _ _ hg t ht _ _
  have : t = [] := List.sublist_nil.1 ht
  subst this
  exact ⟨m, by simpa [ints] using hs, by simpa [go] using hg⟩
 | cons g rest ih =>
  intro k m e l hs hl hr hg t ht hk hm
  cases k with
  | zero =>
   have : t = [] := List.eq_nil_of_length_eq_zero (by omega)
   subst this
   exact ⟨m, by simpa [ints] using hs, by simpa [go] using hg⟩
  | succ k =>
   unfold go at hg
   rw [Bool.and_eq_true, Bool.or_eq_true] at hg
   cases ht with
   | cons _ h => exact ih (k + 1) m e l hs hl (fun x hx => hr x (List.mem_cons_of_mem _ hx)) hg.1 t h hk hm
   | cons_cons _ h =>
    rename_i t
    have hg1 := hr g (List.mem_cons_self ..)
    rcases hg.2 with hb | hg2
    ·exact absurd ((hs.2 g hg1.2).1 hb) hm.1
    ·obtain ⟨m', h1, h2⟩ := ih k (add g m) (e + 1) (l ++ [(g : Int)]) (sp_add hs hl hg1.1) (by
      intro x hx; rcases List.mem_append.1 hx with hx | hx; exact hl x hx; have : x = g := by simpa using hx
      omega) (fun x hx => hr x (List.mem_cons_of_mem _ hx)) hg2 t h (by simpa using hk) hm.2
     refine ⟨m', ?_, ?_⟩
     ·simpa [ints, List.append_assoc] using h1
     ·rw [List.length_cons, show e + (t.length + 1) = e + 1 + t.length by omega]; exact h2
theorem asc_sublist : ∀ (n s : Nat) (t : List Nat), t.Pairwise (· < ·) → (∀ x ∈ t, s ≤ x ∧ x < s + n) → t.Sublist (List.range' s n) := by
 intro n
 induction n with
 | zero =>
  intro s t _ h
  cases t with
  | nil => exact List.nil_sublist _
  | cons x t => have := h x (List.mem_cons_self ..); omega
 | succ n ih =>
  intro s t hp h
  rw [List.range'_succ]
  cases t with
  | nil => exact List.nil_sublist _
  | cons x t =>
   have hx := h x (List.mem_cons_self ..)
   have hp' := List.pairwise_cons.1 hp
   by_cases hxs : x = s
   ·subst hxs
    refine (ih (x + 1) t hp'.2 fun y hy => ?_).cons_cons x
    have := hp'.1 y hy
    have := h y (List.mem_cons_of_mem _ hy)
    omega
   ·refine (ih (s + 1) (x :: t) hp fun y hy => ?_).cons s
    have h2 := h y hy
    rcases List.mem_cons.1 hy with rfl | hy
    ·omega
    ·have := hp'.1 y hy; omega
theorem top (a : Nat) (t : List Nat) (h1 : 1 ≤ a) (h2 : a ≤ 21) (hp : (a :: t).Pairwise (· < ·)) (hw : ∀ x ∈ t, x ≤ a + 12 ∧ x ≤ 21) (hk : t.length ≤ 5) (hm : Mn [(a : Int)] t) :
 ∃ m', Sp m' (ints (a :: t)) ∧ fin m' (1 + t.length) = true := by
 have hp' := List.pairwise_cons.1 hp
 have := go_sound (win a) 5 (add a 1) 1 [(a : Int)] (by have := sp_add sp_one (g := a) (by simp) h1; simpa using this) (by simp; omega) (by
  intro x hx; unfold win at hx; rw [List.mem_range'_1] at hx; omega) (all a h1 h2) t (by
  unfold win; refine asc_sublist _ _ t hp'.2 fun x hx => ?_
  have := hp'.1 x hx; have := hw x hx; omega) hk hm
 simpa [ints] using this
noncomputable def cntS (l : List Int) : Nat → Nat
 | 0 => 0
 | n + 1 => open Classical in cntS l n + (if Sums l n then 0 else 1)
theorem cnt_cntS {G : Nat} {l : List Int} (h : ∀ x : Nat, x < 256 → (G.testBit x = true ↔ ¬ Sums l x)) : ∀ n : Nat, n ≤ 256 → cnt n G = cntS l n := by
 intro n
 induction n with
 | zero => intro _; rfl
 | succ n ih =>
  intro hn
  unfold cnt cntS
  rw [ih (by omega)]
  by_cases hs : Sums l n
  ·rw [if_pos hs]
   have : G.testBit n = false := by
    cases hb : G.testBit n with
    | false => rfl
    | true => exact absurd hs ((h n (by omega)).1 hb)
   rw [this]; rfl
  ·rw [if_neg hs, (h n (by omega)).2 hs]; rfl
theorem top_bit {G : Nat} (h : G ≠ 0) : G.testBit (Nat.log2 G) = true := by
 have h1 : 2 ^ Nat.log2 G ≤ G := Nat.log2_self_le h
 have h2 : G < 2 ^ (Nat.log2 G + 1) := Nat.lt_log2_self
 rw [Nat.testBit_eq_decide_div_mod_eq, decide_eq_true_eq]
 have h3 : G / 2 ^ Nat.log2 G = 1 := by
  have hp : 0 < 2 ^ Nat.log2 G := Nat.pow_pos (by decide)
  have a1 : 1 ≤ G / 2 ^ Nat.log2 G := (Nat.le_div_iff_mul_le hp).2 (by omega)
  have a2 : G / 2 ^ Nat.log2 G < 2 := (Nat.div_lt_iff_lt_mul hp).2 (by rw [Nat.pow_succ] at h2; omega)
  omega
 rw [h3]
def Wil (l : List Int) (e : Nat) : Prop := ∃ c : Nat, c ≤ 200 ∧ (∀ x : Nat, c ≤ x → x < 256 → Sums l x) ∧ (c = 0 ∨ ¬ Sums l ((c - 1 : Nat) : Int)) ∧ c ≤ e * (c - cntS l c) ∧ (e = 2 → 2 * (c - cntS l c) = c)
theorem chk_sound {m e : Nat} {l : List Int} (h : Sp m l) (hc : chk m e = true) (hbig : ∀ x : Nat, 200 ≤ x → x < 256 → Sums l x) : Wil l e := by
 have hG : ∀ x : Nat, x < 256 → ((2 ^ 256 - (m + 1)).testBit x = true ↔ ¬ Sums l x) := by
  intro x hx
  rw [Nat.testBit_two_pow_sub_succ h.1, decide_eq_true hx, Bool.true_and, ← h.2 x hx]
  simp
 have hlt : 2 ^ 256 - (m + 1) < 2 ^ 256 := by have := h.1; omega
 unfold chk at hc
 revert hc hG hlt
 generalize 2 ^ 256 - (m + 1) = G
 intro hc hG hlt
 have hoff : ∀ i, 200 ≤ i → G.testBit i = false := by
  intro i hi
  by_cases h2 : i < 256
  ·cases hb : G.testBit i with
   | false => rfl
   | true => exact absurd (hbig i hi h2) ((hG i h2).1 hb)
  ·exact Nat.testBit_lt_two_pow (Nat.lt_of_lt_of_le hlt (Nat.pow_le_pow_right (by decide) (by omega)))
 have h200 : G < 2 ^ 200 := Nat.lt_pow_two_of_testBit G hoff
 unfold chkG at hc
 have hb : Nat.ble (2 ^ 200) G = false := by
  cases hh : Nat.ble (2 ^ 200) G with
  | false => rfl
  | true => exact absurd (Nat.le_of_ble_eq_true hh) (by omega)
 rw [hb, Bool.false_or] at hc
 unfold wilf at hc
 rw [Bool.and_eq_true, Bool.or_eq_true] at hc
 have hcs : sizeOf G ≤ 200 ∧ G < 2 ^ sizeOf G ∧ (sizeOf G = 0 ∨ G.testBit (sizeOf G - 1) = true) := by
  unfold sizeOf
  by_cases h0 : G = 0
  ·rw [if_pos h0]; exact ⟨by omega, by omega, .inl rfl⟩
  ·rw [if_neg h0]
   refine ⟨(Nat.log2_lt h0).2 h200, Nat.lt_log2_self, .inr ?_⟩
   rw [Nat.add_sub_cancel]; exact top_bit h0
 revert hc hcs
 generalize sizeOf G = c
 intro hc hcs
 have hcc := cnt_cntS hG c (by omega)
 rw [hcc] at hc
 refine ⟨c, hcs.1, ?_, ?_, Nat.le_of_ble_eq_true hc.1, ?_⟩
 ·intro x h1 h2
  refine Classical.byContradiction fun hn => ?_
  have := Nat.testBit_lt_two_pow (Nat.lt_of_lt_of_le hcs.2.1 (Nat.pow_le_pow_right (by decide) h1))
  rw [(hG x h2).2 hn] at this
  exact absurd this (by decide)
 ·rcases hcs.2.2 with h | h
  ·exact .inl h
  ·by_cases h0 : c = 0
   ·exact .inl h0
   ·exact .inr ((hG (c - 1) (by omega)).1 h)
 ·intro he
  rcases hc.2 with h | h
  ·subst he; exact absurd h (by decide)
  ·exact Nat.eq_of_beq_eq_true h
theorem wilf_top (a : Nat) (t : List Nat) (h1 : 1 ≤ a) (h2 : a ≤ 21) (hp : (a :: t).Pairwise (· < ·)) (hw : ∀ x ∈ t, x ≤ a + 12 ∧ x ≤ 21) (hk : t.length ≤ 5) (hm : Mn [(a : Int)] t) (hbig : ∀ x : Nat, 200 ≤ x → x < 256 → Sums (ints (a :: t)) x) :
 Wil (ints (a :: t)) (1 + t.length) := by
 obtain ⟨m, hs, hf⟩ := top a t h1 h2 hp hw hk hm
 unfold fin at hf
 rw [Bool.and_eq_true] at hf
 exact chk_sound hs hf.1 hbig
theorem wilf_top60 (a : Nat) (t : List Nat) (h1 : 1 ≤ a) (h2 : a ≤ 21) (hp : (a :: t).Pairwise (· < ·)) (hw : ∀ x ∈ t, x ≤ a + 12 ∧ x ≤ 21) (hk : t.length ≤ 5) (hm : Mn [(a : Int)] t)
 (h60 : ¬ Sums (ints (a :: t)) 60) (hbig : ∀ x : Nat, 200 ≤ x → x < 256 → Sums (ints (a :: t) ++ [60]) x) :
 Wil (ints (a :: t) ++ [60]) (2 + t.length) := by
 obtain ⟨m, hs, hf⟩ := top a t h1 h2 hp hw hk hm
 unfold fin at hf
 rw [Bool.and_eq_true, Bool.or_eq_true] at hf
 rcases hf.2 with h | h
 ·exact absurd ((hs.2 60 (by omega)).1 h) h60
 ·have hpos : ∀ x ∈ ints (a :: t), 1 ≤ x := by
   intro x hx
   unfold ints at hx
   obtain ⟨y, hy, rfl⟩ := List.mem_map.1 hx
   rcases List.mem_cons.1 hy with rfl | hy
   ·omega
   ·have := (List.pairwise_cons.1 hp).1 y hy; omega
  have h3 := sp_add hs hpos (g := 60) (by omega)
  have := chk_sound h3 h hbig
  rwa [show 1 + t.length + 1 = 2 + t.length by omega] at this
end Go.Proofs.Ytbjbolblahlhcaa.WM
end
section
namespace Go.Proofs.Ytbjbolblahlhcaa.FFnWilf
open Go Go.RowKit Go.Proofs.YtbjbolblahlhcaaW.PrintWords Go.Proofs.Ytbjbolblahlhcaa.M Go.Proofs.Ytbjbolblahlhcaa.PFnWilf Go.Proofs.Ytbjbolblahlhcaa.WM
noncomputable def con (l : List Int) : Nat := (lastOf (gaps l) + 1).toNat
theorem lastOf_mem {g : List Int} (h : g.length ≠ 0) : lastOf g ∈ g := by
 unfold lastOf
 rw [if_neg h, getD_get (by omega)]
 exact List.getElem_mem _
theorem last_bd (l : List Int) : -1 ≤ lastOf (gaps l) ∧ lastOf (gaps l) < 200 := by
 by_cases h : (gaps l).length = 0
 ·unfold lastOf; rw [if_pos h]; omega
 ·have := lastOf_mem h
  unfold gaps at this ⊢
  have := (gapsUp_mem l 200 _).1 this
  omega
theorem con_eq (l : List Int) : lastOf (gaps l) + 1 = (con l : Int) := by
 have := last_bd l
 unfold con; omega
theorem con_le (l : List Int) : con l ≤ 200 := by
 have := last_bd l
 unfold con; omega
theorem conBoth (l : List Int) (h : IsSG l) : Ev (fun k => spec_ConductorOf.f k l) (con l : Int) ∧ Ev (fun k => impl_ConductorOf.f k l) (con l : Int) := by
 have hle := h.le
 obtain ⟨g, h1, h2, h3⟩ := frobBoth l (by omega)
 have hg : g = gaps l := by
  rcases h1 with ⟨_, e⟩ | ⟨n, _⟩
  ·exact e
  ·exact absurd h n
 rw [hg] at h2 h3
 have hb := last_bd l
 have e := con_eq l
 revert h2 h3 hb e
 generalize lastOf (gaps l) = x
 generalize con l = c
 intro h2 h3 hb e
 unfold spec_ConductorOf.f impl_ConductorOf.f
 refine ⟨Ev.bind h2 ?_, Ev.bind h3 ?_⟩
 ·rw [w64 (by omega) (by omega), e]; exact Ev.now _
 ·rw [w64 (by omega) (by omega), e]; exact Ev.now _
noncomputable def smUp (l : List Int) : Nat → List Int
 | 0 => []
 | n + 1 => open Classical in smUp l n ++ (if Sums l n then [(n : Int)] else [])
theorem smUp_yes {l : List Int} {n : Nat} (h : Sums l n) : smUp l (n + 1) = smUp l n ++ [(n : Int)] := by
 show (smUp l n ++ _) = _
 rw [if_pos h]
theorem smUp_no {l : List Int} {n : Nat} (h : ¬ Sums l n) : smUp l (n + 1) = smUp l n := by
 show (smUp l n ++ _) = _
 rw [if_neg h, List.append_nil]
theorem smUp_len (l : List Int) (n : Nat) : (smUp l n).length + cntS l n = n := by
 induction n with
 | zero => rfl
 | succ n ih =>
  unfold smUp cntS
  rw [List.length_append]
  by_cases h : Sums l n
  ·rw [if_pos h, if_pos h]; simp only [List.length_cons, List.length_nil]; omega
  ·rw [if_neg h, if_neg h]; simp only [List.length_nil]; omega
theorem gapsUp_cnt (l : List Int) (n : Nat) : (gapsUp l n).length = cntS l n := by
 induction n with
 | zero => rfl
 | succ n ih =>
  unfold gapsUp cntS
  rw [List.length_append, ih]
  by_cases h : Sums l n
  ·rw [if_pos h, if_pos h]; rfl
  ·rw [if_neg h, if_neg h]; rfl
theorem sSmall_l0 (l : List Int) (c : Nat) (hc : c ≤ 200) (t : List Bool) (ht : t.length = c + 1) (htab : ∀ m : Nat, m ≤ c → (t.getD m false = true ↔ Sums l m)) : ∀ (d j : Nat), c - j = d → j ≤ c → Ev (fun k => spec_l4Small.l0 k (c : Int) (smUp l j) t (j : Int)) (smUp l c) := by
 intro d
 induction d with
 | zero =>
  intro j hd hj
  have : j = c := by omega
  subst this
  refine Ev.step (fun _ => spec_l4Small.l0.eq_2 ..) ?_
  exact Ev.neg (by omega) (Ev.now _)
 | succ d ih =>
  intro j hd hj
  have := ih (j + 1) (by omega) (by omega)
  have hg := smUp_len l j
  refine Ev.step (fun _ => spec_l4Small.l0.eq_2 ..) ?_
  refine Ev.pos (by omega) ?_
  refine Ev.pos (by omega) ?_
  refine Ev.pos (by omega) ?_
  rw [rdOf_nat, w64s (by omega)]
  by_cases c : Sums l j
  ·rw [smUp_yes c] at this
   exact Ev.pos ((htab j (by omega)).2 c) (Ev.pos (by omega) this)
  ·rw [smUp_no c] at this
   exact Ev.neg (fun k => c ((htab j (by omega)).1 k)) this
theorem iSmall_l0 (l : List Int) (c : Nat) (hc : c ≤ 200) (t : List Bool) (ht : t.length = 201) (htab : ∀ m : Nat, m ≤ 200 → (t.getD m false = true ↔ Sums l m)) : ∀ (d j : Nat), c - j = d → j ≤ c → Ev (fun k => impl_SmallElements.l0 k (smUp l j) t (c : Int) (j : Int)) (smUp l c) := by
 intro d
 induction d with
 | zero =>
  intro j hd hj
  have : j = c := by omega
  subst this
  refine Ev.step (fun _ => impl_SmallElements.l0.eq_2 ..) ?_
  exact Ev.neg (by omega) (Ev.now _)
 | succ d ih =>
  intro j hd hj
  have := ih (j + 1) (by omega) (by omega)
  have hg := smUp_len l j
  refine Ev.step (fun _ => impl_SmallElements.l0.eq_2 ..) ?_
  refine Ev.pos (by omega) ?_
  refine Ev.pos (by omega) ?_
  refine Ev.pos (by omega) ?_
  rw [rdOf_nat, w64s (by omega)]
  by_cases c : Sums l j
  ·rw [smUp_yes c] at this
   exact Ev.pos ((htab j (by omega)).2 c) (Ev.pos (by omega) this)
  ·rw [smUp_no c] at this
   exact Ev.neg (fun k => c ((htab j (by omega)).1 k)) this
theorem sSmall (l : List Int) (h : IsSG l) : Ev (fun k => spec_SmallElements.f k l) (smUp l (con l)) := by
 have hle := h.le
 have hc := con_le l
 unfold spec_SmallElements.f
 refine Ev.bind ((sIsSG l (by omega)).yes h) (Ev.pos rfl ?_)
 refine Ev.bind (conBoth l h).1 ?_
 refine Ev.bind (a := smUp l (con l)) ?_ (Ev.now _)
 unfold spec_l4Small.f
 refine Ev.call rfl ?_
 by_cases h0 : con l = 0
 ·rw [h0]; exact Ev.pos (by omega) (Ev.now _)
 ·refine Ev.neg (by omega) ?_
  obtain ⟨t, h1, h2, h3⟩ := l3Table l (by omega) (h.rng.mono (Int.le_refl _) (by omega)) (con l) (by omega)
  refine Ev.bind h1 ?_
  exact sSmall_l0 l (con l) hc t (by omega) h3 (con l) 0 (by omega) (by omega)
theorem iSmall (l : List Int) (h : IsSG l) : Ev (fun k => impl_SmallElements.f k l) (smUp l (con l)) := by
 have hle := h.le
 have hc := con_le l
 unfold impl_SmallElements.f
 refine Ev.bind ((iIsSG l (by omega)).yes h) (Ev.pos rfl ?_)
 obtain ⟨t, h1, h2, h3⟩ := iTable l h 200 (by omega)
 refine Ev.bind h1 ?_
 refine Ev.bind (conBoth l h).2 ?_
 exact iSmall_l0 l (con l) hc t (by omega) h3 (con l) 0 (by omega) (by omega)
theorem leftBoth (l : List Int) (h : IsSG l) : Ev (fun k => spec_LeftCount.f k l) ((smUp l (con l)).length : Int) ∧ Ev (fun k => impl_LeftCount.f k l) ((smUp l (con l)).length : Int) := by
 have hle := h.le
 have s := sSmall l h
 have i := iSmall l h
 revert s i
 generalize smUp l (con l) = sm
 intro s i
 unfold spec_LeftCount.f impl_LeftCount.f
 exact ⟨Ev.bind ((sIsSG l (by omega)).yes h) (Ev.pos rfl (Ev.bind s (Ev.now _))), Ev.bind ((iIsSG l (by omega)).yes h) (Ev.pos rfl (Ev.bind i (Ev.now _)))⟩
theorem leftNo (l : List Int) (hl : l.length ≤ 1048576) (h : ¬ IsSG l) : Ev (fun k => spec_LeftCount.f k l) (-1) ∧ Ev (fun k => impl_LeftCount.f k l) (-1) := by
 unfold spec_LeftCount.f impl_LeftCount.f
 exact ⟨Ev.bind ((sIsSG l hl).no h) (Ev.neg (by simp) (Ev.now _)), Ev.bind ((iIsSG l hl).no h) (Ev.neg (by simp) (Ev.now _))⟩
theorem wilfBoth (l : List Int) (h : IsSG l) (n : Nat) (hn : n = (smUp l (con l)).length) : Ev (fun k => spec_WilfNumber.f k l) ((l.length : Int) * n - con l) ∧ Ev (fun k => impl_WilfNumber.f k l) ((l.length : Int) * n - con l) := by
 have hle := h.le
 have hc := con_le l
 obtain ⟨s1, i1⟩ := leftBoth l h
 obtain ⟨s2, i2⟩ := conBoth l h
 have hn2 := smUp_len l (con l)
 rw [← hn] at s1 i1 hn2
 revert s2 i2 hc hn2
 generalize con l = c
 intro hc s2 i2 hn2
 have hm : l.length * n ≤ 12 * 200 := Nat.mul_le_mul hle (by omega)
 have hm2 : (l.length : Int) * n = ((l.length * n : Nat) : Int) := by rw [Int.natCast_mul]
 unfold spec_WilfNumber.f impl_WilfNumber.f
 refine ⟨Ev.bind ((sIsSG l (by omega)).yes h) (Ev.pos rfl (Ev.bind s1 (Ev.bind s2 ?_))), Ev.bind ((iIsSG l (by omega)).yes h) (Ev.pos rfl (Ev.bind i1 (Ev.bind i2 ?_)))⟩
 ·rw [hm2, w64 (x := ((l.length * n : Nat) : Int)) (by omega) (by omega), w64 (by omega) (by omega)]; exact Ev.now _
 ·rw [hm2, w64 (x := ((l.length * n : Nat) : Int)) (by omega) (by omega), w64 (by omega) (by omega)]; exact Ev.now _
theorem wilfNo (l : List Int) (hl : l.length ≤ 1048576) (h : ¬ IsSG l) : Ev (fun k => spec_WilfNumber.f k l) (-1) ∧ Ev (fun k => impl_WilfNumber.f k l) (-1) := by
 unfold spec_WilfNumber.f impl_WilfNumber.f
 exact ⟨Ev.bind ((sIsSG l hl).no h) (Ev.neg (by simp) (Ev.now _)), Ev.bind ((iIsSG l hl).no h) (Ev.neg (by simp) (Ev.now _))⟩
theorem con_gap (l : List Int) : ∀ n : Nat, con l ≤ n → n < 200 → Sums l n := by
 intro n h1 h2
 refine Classical.byContradiction fun hn => ?_
 have hm : (n : Int) ∈ gaps l := (gapsUp_mem l 200 _).2 ⟨by omega, by omega, hn⟩
 have hasc := gapsUp_asc l 200
 have e := con_eq l
 unfold gaps at hm e
 revert hm hasc e
 generalize gapsUp l 200 = g
 intro hm hasc e
 obtain ⟨i, hi, hx⟩ := List.mem_iff_getElem.1 hm
 have hlast : (n : Int) ≤ lastOf g := by
  unfold lastOf
  rw [if_neg (by omega), getD_get (by omega), ← hx]
  by_cases hl : i = g.length - 1
  ·subst hl; omega
  ·exact Int.le_of_lt (List.pairwise_iff_getElem.1 hasc i (g.length - 1) hi (by omega) (by omega))
 omega
theorem cntS_from (l : List Int) (c : Nat) : ∀ n : Nat, c ≤ n → (∀ x : Nat, c ≤ x → x < n → Sums l x) → cntS l n = cntS l c := by
 intro n
 induction n with
 | zero =>
  intro h _
  have : c = 0 := by omega
  subst this
  rfl
 | succ n ih =>
  intro h hs
  by_cases hc : c = n + 1
  ·subst hc; rfl
  ·have := ih (by omega) fun x h1 h2 => hs x h1 (by omega)
   show cntS l n + _ = _
   rw [if_pos (hs n (by omega) (by omega)), this]; rfl
theorem gaps_cnt (l : List Int) : (gaps l).length = cntS l (con l) := by
 unfold gaps
 rw [gapsUp_cnt]
 exact cntS_from l (con l) 200 (con_le l) fun x h1 h2 => con_gap l x h1 h2
theorem genusBoth (l : List Int) (h : IsSG l) : Ev (fun k => spec_GenusOf.f k l) (cntS l (con l) : Int) ∧ Ev (fun k => impl_GenusOf.f k l) (cntS l (con l) : Int) := by
 have hle := h.le
 have e := gaps_cnt l
 obtain ⟨g, h1, h2⟩ := iGaps l (by omega)
 have hg : g = gaps l := by
  rcases h2 with ⟨_, e⟩ | ⟨n, _⟩
  ·exact e
  ·exact absurd h n
 rw [hg] at h1
 have h3 := sL4Gaps l h
 revert h1 h3 e
 generalize gaps l = g
 generalize cntS l (con l) = n
 intro e h1 h3
 rw [← e]
 unfold spec_GenusOf.f impl_GenusOf.f
 exact ⟨Ev.bind ((sIsSG l (by omega)).yes h) (Ev.pos rfl (Ev.bind h3 (Ev.now _))), Ev.bind ((iIsSG l (by omega)).yes h) (Ev.pos rfl (Ev.bind h1 (Ev.now _)))⟩
theorem con_top (l : List Int) (h0 : con l ≠ 0) : ¬ Sums l ((con l - 1 : Nat) : Int) := by
 have e := con_eq l
 have hg : (gaps l).length ≠ 0 := by
  intro hl
  unfold lastOf at e
  rw [if_pos hl] at e
  omega
 have hm := lastOf_mem hg
 have hm2 := ((gapsUp_mem l 200 _).1 hm).2.2
 rwa [show lastOf (gaps l) = ((con l - 1 : Nat) : Int) by omega] at hm2
theorem cnt_zero (l : List Int) : cntS l (con l) = 0 ↔ con l = 0 := by
 constructor
 ·intro h
  refine Classical.byContradiction fun h0 => ?_
  have ht := con_top l h0
  have : cntS l (con l) = cntS l (con l - 1) + 1 := by
   conv => lhs; rw [show con l = (con l - 1) + 1 by omega]
   show cntS l (con l - 1) + _ = _
   rw [if_neg ht]
  omega
 ·intro h; rw [h]; rfl
theorem depthBoth (l : List Int) (hl : l.length ≤ 1048576) : ∃ r, Ev (fun k => spec_DepthOf.f k l) r ∧ Ev (fun k => impl_DepthOf.f k l) r := by
 unfold spec_DepthOf.f impl_DepthOf.f
 by_cases h : IsSG l
 ·obtain ⟨s, i⟩ := conBoth l h
  have hpos := h.pos
  have hf := h.first'
  revert s i
  generalize con l = c
  intro s i
  exact ⟨_, Ev.bind ((sIsSG l hl).yes h) (Ev.pos rfl (Ev.bind s (Ev.pos (by omega) (Ev.neg (by omega) (Ev.now _))))), Ev.bind ((iIsSG l hl).yes h) (Ev.pos rfl (Ev.bind i (Ev.pos (by omega) (Ev.neg (by omega) (Ev.now _)))))⟩
 ·exact ⟨_, Ev.bind ((sIsSG l hl).no h) (Ev.neg (by simp) (Ev.now _)), Ev.bind ((iIsSG l hl).no h) (Ev.neg (by simp) (Ev.now _))⟩
theorem sporBoth (l : List Int) (hl : l.length ≤ 1048576) : ∃ r : Int × Int, Ev (fun k => spec_SporadicDensity.f k l) r ∧ Ev (fun k => impl_SporadicDensity.f k l) r := by
 unfold spec_SporadicDensity.f impl_SporadicDensity.f
 by_cases h : IsSG l
 ·obtain ⟨s, i⟩ := conBoth l h
  obtain ⟨s1, i1⟩ := leftBoth l h
  obtain ⟨_, i2⟩ := genusBoth l h
  have hz := cnt_zero l
  have hc := con_le l
  have hn := smUp_len l (con l)
  revert s i s1 i1 i2 hz hc hn
  generalize (smUp l (con l)).length = n
  generalize cntS l (con l) = g
  generalize con l = c
  intro s i s1 i1 i2 hz hc hn
  by_cases h0 : c = 0
  ·exact ⟨_, Ev.bind ((sIsSG l hl).yes h) (Ev.pos rfl (Ev.bind s (Ev.pos (by omega) (Ev.now _)))), Ev.bind ((iIsSG l hl).yes h) (Ev.pos rfl (Ev.bind i2 (Ev.pos (by omega) (Ev.now _))))⟩
  ·have hg : Nat.gcd n c ≠ 0 := by
    intro e; exact h0 (Nat.eq_zero_of_gcd_eq_zero_right e)
   refine ⟨_, Ev.bind ((sIsSG l hl).yes h) (Ev.pos rfl (Ev.bind s (Ev.neg (by omega) (Ev.bind s1 (Ev.bind (sGcd n c (by omega) (by omega)) (Ev.bind s1 (Ev.neg (by omega) (Ev.now _)))))))), Ev.bind ((iIsSG l hl).yes h) (Ev.pos rfl (Ev.bind i2 (Ev.neg (by omega) (Ev.bind i1 (Ev.bind i ?_)))))⟩
   unfold impl_lowest.f
   exact Ev.bind (Ev.bind (iGcd n c (by omega) (by omega)) (Ev.neg (by omega) (Ev.now _))) (Ev.now _)
 ·exact ⟨_, Ev.bind ((sIsSG l hl).no h) (Ev.neg (by simp) (Ev.now _)), Ev.bind ((iIsSG l hl).no h) (Ev.neg (by simp) (Ev.now _))⟩
def below (c : Int) (l : List Int) : Nat := (l.filter fun g => decide (g < c)).length
theorem below_le (c : Int) (l : List Int) : below c l ≤ l.length := List.length_filter_le _ _
theorem below_cons (c x : Int) (l : List Int) : below c (x :: l) = (if x < c then 1 else 0) + below c l := by
 unfold below
 rw [List.filter_cons]
 by_cases h : x < c
 ·rw [if_pos h, if_pos (decide_eq_true h), List.length_cons]; omega
 ·rw [if_neg h, if_neg (by simpa using h)]; omega
theorem sPrim_l0 (l : List Int) (h : IsSG l) (c : Int) (hc : Ev (fun k => spec_ConductorOf.f k l) c) : ∀ (d j n : Nat), l.length - j = d → j ≤ l.length → n ≤ j → Ev (fun k => spec_PrimitiveBelow.l0 k (n : Int) (j : Int) l) ((n + below c (l.drop j) : Nat) : Int) := by
 have hle := h.le
 intro d
 induction d with
 | zero =>
  intro j n hd hj hn
  have : l.drop j = [] := List.drop_eq_nil_of_le (by omega)
  rw [this]
  refine Ev.step (fun _ => spec_PrimitiveBelow.l0.eq_2 ..) ?_
  exact Ev.neg (by omega) (Ev.now _)
 | succ d ih =>
  intro j n hd hj hn
  have hlt : j < l.length := by omega
  rw [drop_cons hlt, below_cons]
  refine Ev.step (fun _ => spec_PrimitiveBelow.l0.eq_2 ..) ?_
  refine Ev.pos (by omega) (Ev.pos (by omega) (Ev.bind hc ?_))
  rw [rd_get hlt, w64s (by omega)]
  by_cases hx : l[j] < c
  ·refine Ev.call (a := 1) (by rw [decide_eq_true hx]; rfl) ?_
   rw [w64s (by omega), if_pos hx, ← Nat.add_assoc]
   exact ih (j + 1) (n + 1) (by omega) (by omega) (by omega)
  ·refine Ev.call (a := 0) (by rw [decide_eq_false hx]; rfl) ?_
   rw [Int.add_zero, w64 (by omega) (by omega), if_neg hx, Nat.zero_add]
   exact ih (j + 1) n (by omega) (by omega) (by omega)
theorem iPrim_l0 (l : List Int) (h : IsSG l) (c : Int) (hc : Ev (fun k => impl_ConductorOf.f k l) c) : ∀ (d j n : Nat), l.length - j = d → j ≤ l.length → n ≤ j → Ev (fun k => impl_PrimitiveBelow.l0 k (n : Int) l (l.length : Int) (j : Int) l) ((n + below c (l.drop j) : Nat) : Int) := by
 have hle := h.le
 intro d
 induction d with
 | zero =>
  intro j n hd hj hn
  have : l.drop j = [] := List.drop_eq_nil_of_le (by omega)
  rw [this]
  refine Ev.step (fun _ => impl_PrimitiveBelow.l0.eq_2 ..) ?_
  exact Ev.neg (by omega) (Ev.now _)
 | succ d ih =>
  intro j n hd hj hn
  have hlt : j < l.length := by omega
  rw [drop_cons hlt, below_cons]
  refine Ev.step (fun _ => impl_PrimitiveBelow.l0.eq_2 ..) ?_
  refine Ev.pos (by omega) (Ev.pos (by omega) (Ev.pos (by omega) (Ev.bind hc ?_)))
  rw [rd_get hlt, w64s (j := j) (by omega)]
  by_cases hx : l[j] < c
  ·refine Ev.pos hx ?_
   rw [w64s (j := n) (by omega), if_pos hx, ← Nat.add_assoc]
   exact ih (j + 1) (n + 1) (by omega) (by omega) (by omega)
  ·refine Ev.neg hx ?_
   rw [if_neg hx, Nat.zero_add]
   exact ih (j + 1) n (by omega) (by omega) (by omega)
theorem primBoth (l : List Int) (h : IsSG l) : ∃ n : Nat, n ≤ l.length ∧ Ev (fun k => spec_PrimitiveBelow.f k l) (n : Int) ∧ Ev (fun k => impl_PrimitiveBelow.f k l) (n : Int) := by
 have hle := h.le
 obtain ⟨s, i⟩ := conBoth l h
 revert s i
 generalize (con l : Int) = c
 intro s i
 have a := sPrim_l0 l h c s l.length 0 0 (by omega) (by omega) (by omega)
 have b := iPrim_l0 l h c i l.length 0 0 (by omega) (by omega) (by omega)
 rw [List.drop_zero, Nat.zero_add] at a b
 unfold spec_PrimitiveBelow.f impl_PrimitiveBelow.f
 exact ⟨below c l, below_le c l, Ev.bind ((sIsSG l (by omega)).yes h) (Ev.pos rfl a), Ev.bind ((iIsSG l (by omega)).yes h) (Ev.pos rfl b)⟩
theorem primNo (l : List Int) (hl : l.length ≤ 1048576) (h : ¬ IsSG l) : Ev (fun k => spec_PrimitiveBelow.f k l) (-1) ∧ Ev (fun k => impl_PrimitiveBelow.f k l) (-1) := by
 unfold spec_PrimitiveBelow.f impl_PrimitiveBelow.f
 exact ⟨Ev.bind ((sIsSG l hl).no h) (Ev.neg (by simp) (Ev.now _)), Ev.bind ((iIsSG l hl).no h) (Ev.neg (by simp) (Ev.now _))⟩
end Go.Proofs.Ytbjbolblahlhcaa.FFnWilf
end
section
namespace Go.Proofs.Ytbjbolblahlhcaa.WM
open Go.Proofs.Ytbjbolblahlhcaa.M
def minb : Nat → List Nat → Bool
 | _, [] => true
 | m, g :: t => (!m.testBit g) && minb (add g m) t
def msk : Nat → List Nat → Nat
 | m, [] => m
 | m, g :: t => msk (add g m) t
theorem ints_cons (a : Nat) (t : List Nat) : ints (a :: t) = (a : Int) :: ints t := rfl
theorem ints_len (t : List Nat) : (ints t).length = t.length := by unfold ints; rw [List.length_map]
theorem ints_getD (t : List Nat) (i : Nat) : (ints t).getD i 0 = ((t.getD i 0 : Nat) : Int) := by
 unfold ints
 rw [List.getD_eq_getElem?_getD, List.getD_eq_getElem?_getD, List.getElem?_map]
 cases t[i]? <;> rfl
theorem ints_take (t : List Nat) (i : Nat) : (ints t).take i = ints (t.take i) := by unfold ints; rw [List.map_take]
theorem pos_snoc {l : List Int} {g : Nat} (hl : ∀ x ∈ l, 1 ≤ x) (hg : 1 ≤ g) : ∀ x ∈ l ++ [(g : Int)], 1 ≤ x := by
 intro x hx
 rcases List.mem_append.1 hx with hx | hx
 ·exact hl x hx
 ·have : x = g := by simpa using hx
  omega
theorem msk_sp : ∀ (t : List Nat) (m : Nat) (l : List Int), Sp m l → (∀ x ∈ l, 1 ≤ x) → (∀ x ∈ t, 1 ≤ x) → Sp (msk m t) (l ++ ints t) := by
 intro t
 induction t with
 | nil => intro m l h _ _; simpa [msk, ints] using h
 | cons g t ih =>
  intro m l h hl ht
  have hg := ht g (List.mem_cons_self ..)
  have := ih (add g m) (l ++ [(g : Int)]) (sp_add h hl hg) (pos_snoc hl hg) fun x hx => ht x (List.mem_cons_of_mem _ hx)
  rw [List.append_assoc, List.singleton_append] at this
  exact this
theorem msk_sp1 (t : List Nat) (ht : ∀ x ∈ t, 1 ≤ x) : Sp (msk 1 t) (ints t) := by
 have := msk_sp t 1 [] sp_one (by simp) ht
 simpa using this
theorem minb_mn : ∀ (t : List Nat) (m : Nat) (l : List Int), Sp m l → (∀ x ∈ l, 1 ≤ x) → (∀ x ∈ t, 1 ≤ x ∧ x < 256) → minb m t = true → Mn l t := by
 intro t
 induction t with
 | nil => intro _ _ _ _ _ _; trivial
 | cons g t ih =>
  intro m l h hl ht hb
  have hg := ht g (List.mem_cons_self ..)
  unfold minb at hb
  rw [Bool.and_eq_true] at hb
  refine ⟨fun hs => ?_, ih (add g m) _ (sp_add h hl hg.1) (pos_snoc hl hg.1) (fun x hx => ht x (List.mem_cons_of_mem _ hx)) hb.2⟩
  have := (h.2 g hg.2).2 hs
  rw [this] at hb
  exact absurd hb.1 (by decide)
theorem mn_get : ∀ (t : List Nat) (l : List Int), Mn l t → ∀ i : Nat, i < t.length → ¬ Sums (l ++ ints (t.take i)) (t.getD i 0 : Nat) := by
 intro t
 induction t with
 | nil => intro l _ i hi; simp at hi
 | cons g t ih =>
  intro l h i hi
  cases i with
  | zero => simpa [ints] using h.1
  | succ i =>
   have := ih _ h.2 i (by simpa using hi)
   rw [List.append_assoc, List.singleton_append] at this
   simpa [ints] using this
theorem mn_of : ∀ (t : List Nat) (l : List Int), (∀ i : Nat, i < t.length → ¬ Sums (l ++ ints (t.take i)) (t.getD i 0 : Nat)) → Mn l t := by
 intro t
 induction t with
 | nil => intro _ _; trivial
 | cons g t ih =>
  intro l h
  refine ⟨by have := h 0 (by simp); simpa [ints] using this, ih _ fun i hi => ?_⟩
  have := h (i + 1) (by simpa using hi)
  rw [List.append_assoc, List.singleton_append]
  simpa [ints] using this
theorem isSG_of (a : Nat) (t : List Nat) (h1 : 1 ≤ a) (h2 : a ≤ 56) (hlen : t.length ≤ 11) (hr : ∀ x ∈ a :: t, 1 ≤ x ∧ x ≤ 60) (hp : (a :: t).Pairwise (· < ·)) (hg : gcdL (ints (a :: t)) = 1) (hm : minb (add a 1) t = true)
 (he : ((List.range a).all fun i => (msk 1 (a :: t)).testBit (200 + i)) = true) : IsSG (ints (a :: t)) := by
 have hsp := msk_sp1 (a :: t) fun x hx => (hr x hx).1
 have hmn : Mn [(a : Int)] t := minb_mn t (add a 1) [(a : Int)] (by have := sp_add sp_one (g := a) (by simp) h1; simpa using this) (by simp; omega) (fun x hx => by have := hr x (List.mem_cons_of_mem _ hx); omega) hm
 refine ⟨by rw [ints_len]; simp, by rw [ints_len]; simp; omega, ?_, ?_, hg, ?_, ?_⟩
 ·intro x hx
  unfold ints at hx
  obtain ⟨y, hy, rfl⟩ := List.mem_map.1 hx
  have := hr y hy
  omega
 ·unfold ints
  rw [List.pairwise_map]
  exact hp.imp fun h => by omega
 ·intro i hi1 hi2
  obtain ⟨j, rfl⟩ : ∃ j, i = j + 1 := ⟨i - 1, by omega⟩
  rw [ints_len] at hi2
  have := mn_get t _ hmn j (by simpa using hi2)
  rw [ints_cons, List.take_succ_cons, List.getD_cons_succ, ints_getD, ints_take]
  exact this
 ·refine ends_of (a := (a : Int)) (by omega) (by simp [ints]) fun n hn1 hn2 => ?_
  obtain ⟨x, rfl⟩ : ∃ x : Nat, n = (x : Int) := ⟨n.toNat, by omega⟩
  refine (hsp.2 x (by omega)).1 ?_
  have := List.all_eq_true.1 he (x - 200) (List.mem_range.2 (by omega))
  rwa [show 200 + (x - 200) = x by omega] at this
theorem of_pre {l : List Int} (h0 : 1 ≤ l.length) (hr : ∀ x ∈ l, 1 ≤ x) (hp : l.Pairwise (· < ·)) (hm : ∀ i : Nat, 1 ≤ i → i < l.length → ¬ Sums (l.take i) (l.getD i 0)) :
 ∃ (a : Nat) (t : List Nat), l = ints (a :: t) ∧ 1 ≤ a ∧ (a :: t).Pairwise (· < ·) ∧ Mn [(a : Int)] t := by
 obtain ⟨u, rfl⟩ : ∃ u : List Nat, l = ints u := by
  refine ⟨l.map Int.toNat, ?_⟩
  unfold ints
  rw [List.map_map]
  conv => lhs; rw [← List.map_id l]
  refine List.map_congr_left fun x hx => ?_
  have := hr x hx
  simp only [id_eq, Function.comp_apply]
  omega
 cases u with
 | nil => simp [ints] at h0
 | cons a t =>
  refine ⟨a, t, rfl, ?_, ?_, ?_⟩
  ·have := hr (a : Int) (by simp [ints]); omega
  ·unfold ints at hp
   rw [List.pairwise_map] at hp
   exact hp.imp fun h => by omega
  ·refine mn_of t _ fun i hi => ?_
   have := hm (i + 1) (by omega) (by rw [ints_len]; simpa using hi)
   rw [ints_cons, List.take_succ_cons, List.getD_cons_succ, ints_getD, ints_take] at this
   exact this
theorem wilfW {l : List Int} (h : IsSG l) (hlen : l.length ≤ 6) (hw : ∀ x ∈ l, ∀ y ∈ l, x ≤ y + 12 ∧ x ≤ 21) : Wil l l.length := by
 obtain ⟨a, t, rfl, h1, hp, hm⟩ := of_pre h.pos (fun x hx => (h.rng x hx).1) h.asc h.minl
 have ha : (a : Int) ∈ ints (a :: t) := by simp [ints]
 rw [ints_len] at hlen ⊢
 rw [List.length_cons] at hlen ⊢
 rw [Nat.add_comm]
 refine wilf_top a t h1 (by have := (hw _ ha _ ha).2; omega) hp (fun x hx => ?_) (by omega) hm (fun x hx _ => h.ends x (by omega))
 have := hw (x : Int) (by unfold ints; exact List.mem_map.2 ⟨x, List.mem_cons_of_mem _ hx, rfl⟩) _ ha
 omega
theorem wilfW60 {l : List Int} (h : IsSG (l ++ [60])) (h0 : 1 ≤ l.length) (hlen : l.length ≤ 6) (hw : ∀ x ∈ l, ∀ y ∈ l, x ≤ y + 12 ∧ x ≤ 21) : Wil (l ++ [60]) (l ++ [60]).length := by
 have hl : (l ++ [60]).length = l.length + 1 := by simp
 have hm60 := h.minl l.length h0 (by omega)
 have e60 : (l ++ [(60 : Int)]).getD l.length 0 = 60 := by
  rw [List.getD_eq_getElem?_getD, List.getElem?_append_right (Nat.le_refl _), Nat.sub_self]; rfl
 rw [e60, List.take_left] at hm60
 have hml : ∀ i : Nat, 1 ≤ i → i < l.length → ¬ Sums (l.take i) (l.getD i 0) := by
  intro i h1 h2
  have := h.minl i h1 (by omega)
  rw [List.take_append_of_le_length (by omega), List.getD_eq_getElem?_getD, List.getElem?_append_left h2, ← List.getD_eq_getElem?_getD] at this
  exact this
 obtain ⟨a, t, rfl, h1, hp, hm⟩ := of_pre h0 (fun x hx => (h.rng x (List.mem_append_left _ hx)).1) (List.pairwise_append.1 h.asc).1 hml
 have ha : (a : Int) ∈ ints (a :: t) := by simp [ints]
 rw [hl]
 rw [ints_len] at hlen ⊢
 rw [List.length_cons] at hlen ⊢
 rw [show t.length + 1 + 1 = 2 + t.length by omega]
 refine wilf_top60 a t h1 (by have := (hw _ ha _ ha).2; omega) hp (fun x hx => ?_) (by omega) hm hm60 (fun x hx _ => h.ends x (by omega))
 have := hw (x : Int) (by unfold ints; exact List.mem_map.2 ⟨x, List.mem_cons_of_mem _ hx, rfl⟩) _ ha
 omega
def Exam (l : List Int) : Prop := l = [1] ∨ l = [3, 5] ∨ l = [4, 6, 9] ∨ l = [3, 4, 5] ∨ l = [6, 9, 20] ∨ l = [5, 7, 9, 11] ∨ l = [2, 3] ∨ l = [4, 5, 11]
theorem Exam.sg {l : List Int} (h : Exam l) : IsSG l := by
 rcases h with rfl | rfl | rfl | rfl | rfl | rfl | rfl | rfl
 ·exact isSG_of 1 [] (by decide) (by decide) (by decide) (by decide) (by decide) (by decide) (by decide +kernel) (by decide +kernel)
 ·exact isSG_of 3 [5] (by decide) (by decide) (by decide) (by decide) (by decide) (by decide) (by decide +kernel) (by decide +kernel)
 ·exact isSG_of 4 [6, 9] (by decide) (by decide) (by decide) (by decide) (by decide) (by decide) (by decide +kernel) (by decide +kernel)
 ·exact isSG_of 3 [4, 5] (by decide) (by decide) (by decide) (by decide) (by decide) (by decide) (by decide +kernel) (by decide +kernel)
 ·exact isSG_of 6 [9, 20] (by decide) (by decide) (by decide) (by decide) (by decide) (by decide) (by decide +kernel) (by decide +kernel)
 ·exact isSG_of 5 [7, 9, 11] (by decide) (by decide) (by decide) (by decide) (by decide) (by decide) (by decide +kernel) (by decide +kernel)
 ·exact isSG_of 2 [3] (by decide) (by decide) (by decide) (by decide) (by decide) (by decide) (by decide +kernel) (by decide +kernel)
 ·exact isSG_of 4 [5, 11] (by decide) (by decide) (by decide) (by decide) (by decide) (by decide) (by decide +kernel) (by decide +kernel)
theorem Exam.win {l : List Int} (h : Exam l) : (l.length ≤ 5 ∧ ∀ x ∈ l, ∀ y ∈ l, x ≤ y + 12 ∧ x ≤ 21) ∨ l = [6, 9, 20] := by
 rcases h with rfl | rfl | rfl | rfl | rfl | rfl | rfl | rfl
 ·exact .inl ⟨by decide, by decide⟩
 ·exact .inl ⟨by decide, by decide⟩
 ·exact .inl ⟨by decide, by decide⟩
 ·exact .inl ⟨by decide, by decide⟩
 ·exact .inr rfl
 ·exact .inl ⟨by decide, by decide⟩
 ·exact .inl ⟨by decide, by decide⟩
 ·exact .inl ⟨by decide, by decide⟩
theorem wil_6_9_20 : Wil [6, 9, 20] 3 := by
 refine chk_sound (m := msk 1 [6, 9, 20]) (msk_sp1 [6, 9, 20] (by decide)) (by decide +kernel) fun x hx _ => ?_
 exact (Exam.sg (.inr (.inr (.inr (.inr (.inl rfl)))))).ends x (by omega)
def Dr (g : List Int) : Prop := IsSG g ∧ ((g.length ≤ 5 ∧ ∀ x ∈ g, ∀ y ∈ g, x ≤ y + 12 ∧ x ≤ 21) ∨ g = [6, 9, 20])
def Bt (r : List Int) : Prop := r.length ≤ 13 ∧ (IsSG r → Wil r r.length)
theorem Dr.bt {g : List Int} (h : Dr g) : Bt g := by
 refine ⟨by have := h.1.le; omega, fun _ => ?_⟩
 rcases h.2 with ⟨h1, h2⟩ | rfl
 ·exact wilfW h.1 (by omega) h2
 ·exact wil_6_9_20
theorem Dr.tail {g : List Int} (h : Dr g) : Bt (g.drop 1) := by
 have hle := h.1.le
 refine ⟨by rw [List.length_drop]; omega, fun hs => wilfW hs ?_ ?_⟩
 ·rw [List.length_drop]
  rcases h.2 with ⟨h1, _⟩ | rfl
  ·omega
  ·decide
 ·rcases h.2 with ⟨_, h2⟩ | rfl
  ·exact fun x hx y hy => h2 x (List.mem_of_mem_drop hx) y (List.mem_of_mem_drop hy)
  ·decide
theorem Dr.snoc {g : List Int} (h : Dr g) (z : Int) (hz : z ∈ [0, 61, 12, -3, (60 : Int)]) : Bt (g ++ [z]) := by
 have hle := h.1.le
 refine ⟨by simp; omega, fun hs => ?_⟩
 have hzr := hs.rng z (by simp)
 have hasc := hs.asc
 rw [List.pairwise_append] at hasc
 simp only [List.mem_cons, List.not_mem_nil, or_false] at hz
 have h5 : g.length ≤ 5 := by
  rcases h.2 with ⟨h1, _⟩ | rfl
  ·exact h1
  ·decide
 rcases hz with rfl | rfl | rfl | rfl | rfl
 ·omega
 ·omega
 ·refine wilfW hs (by simp; omega) fun x hx y hy => ?_
  have hy1 := hs.rng y hy
  have hx1 : x ≤ 12 := by
   rcases List.mem_append.1 hx with hx | hx
   ·have := hasc.2.2 x hx 12 (by simp); omega
   ·have : x = 12 := by simpa using hx
    omega
  omega
 ·omega
 ·rcases h.2 with ⟨h1, h2⟩ | rfl
  ·exact wilfW60 hs h.1.pos (by omega) h2
  ·exfalso
   refine hs.minl 3 (by decide) (by decide) ?_
   have := (Sums.one (g := [6, 9, 20]) (x := 6) (by decide)).mul 10
   exact this
theorem bt_pair (z : Int) (hz : z ∈ [0, 59, (4 : Int)]) : Bt [z, 60] := by
 refine ⟨by simp, fun hs => ?_⟩
 simp only [List.mem_cons, List.not_mem_nil, or_false] at hz
 rcases hz with rfl | rfl | rfl
 ·have := hs.rng 0 (by simp); omega
 ·exfalso
  have h1 := hs.ends 200 (by omega)
  have h2 := ((msk_sp1 [59, 60] (by decide)).2 200 (by decide)).2 h1
  exact absurd h2 (by decide +kernel)
 ·exfalso
  have := hs.gcd
  exact absurd this (by decide)
end Go.Proofs.Ytbjbolblahlhcaa.WM
end
