/- What the printed tables answer: the table of sums, and the least sum of each remainder (a loop until nothing changes). Conditions: numbers from 1 to 60 (the table: to 1000000). -/
import Derived.Test.YtbjbolblahlhcaaF1FnExactGlueFrobeniusZ
namespace Go.Proofs.Ytbjbolblahlhcaa.FFnExactGlueFrobenius
open Go Go.RowKit Go.Proofs.YtbjbolblahlhcaaW.PrintWords Go.Proofs.Ytbjbolblahlhcaa.M Go.Proofs.Ytbjbolblahlhcaa.PFnExactGlueFrobenius
theorem getD_set {α : Type} (t : List α) (i m : Nat) (v d : α) (hi : i < t.length) : (t.set i v).getD m d = if m = i then v else t.getD m d := by
 rw [List.getD_eq_getElem?_getD, List.getD_eq_getElem?_getD, List.getElem?_set]
 by_cases h : i = m
 ·subst h; simp [hi]
 ·rw [if_neg h, if_neg (fun e => h e.symm)]
theorem l3Table_l1 (g : List Int) (hl : g.length ≤ 4611686018427387904) (hg : InR 1 1000000 g) (N n : Nat) (hn1 : 1 ≤ n) (hn : n ≤ N) (hN : N ≤ 1000000) : ∀ (d j : Nat) (t : List Bool), g.length - j = d → j ≤ g.length → t.length = N + 1 →
 (∀ m : Nat, m ≤ N → m ≠ n → (t.getD m false = true ↔ m < n ∧ Sums g m)) → (t.getD n false = true ↔ ∃ x ∈ g.take j, x ≤ n ∧ Sums g (n - x)) →
 ∃ t' : List Bool, t'.length = N + 1 ∧ (∀ m : Nat, m ≤ N → (t'.getD m false = true ↔ m < n + 1 ∧ Sums g m)) ∧ ∀ r, Ev (fun k => spec_l3Table.l0 k g (N : Int) t' ((n + 1 : Nat) : Int)) r → Ev (fun k => spec_l3Table.l1 k g (N : Int) t (n : Int) (j : Int)) r := by
 intro d
 induction d with
 | zero =>
  intro j t hd hj ht hm hc
  have hj' : j = g.length := by omega
  subst hj'
  refine ⟨t, ht, fun m hmN => ?_, fun r hr => ?_⟩
  ·by_cases e : m = n
   ·subst e
    rw [hc, List.take_of_length_le (Nat.le_refl _)]
    have := Sums.step_le (g := g) (fun x hx => (hg x hx).1) (n := (m : Int))
    constructor
    ·intro h; exact ⟨by omega, this.2 (.inr h)⟩
    ·intro h; rcases this.1 h.2 with h0 | h0
     ·omega
     ·exact h0
   ·rw [hm m hmN e]
    constructor
    ·intro h; exact ⟨by omega, h.2⟩
    ·intro h; exact ⟨by omega, h.2⟩
  ·refine Ev.step (fun _ => spec_l3Table.l1.eq_2 ..) ?_
   refine Ev.neg (by omega) ?_
   rw [w64s (by omega)]
   exact hr
 | succ d ih =>
  intro j t hd hj ht hm hc
  have hlt : j < g.length := by omega
  have hx := hg _ (List.getElem_mem hlt)
  have htk : ∀ P : Int → Prop, (∃ x ∈ g.take (j + 1), P x) ↔ (∃ x ∈ g.take j, P x) ∨ P g[j] := by
   intro P
   rw [take_snoc' hlt]
   constructor
   ·rintro ⟨x, hx, h⟩
    rcases List.mem_append.1 hx with h1 | h1
    ·exact .inl ⟨x, h1, h⟩
    ·rw [List.mem_singleton] at h1; subst h1; exact .inr h
   ·rintro (⟨x, hx, h⟩ | h)
    ·exact ⟨x, List.mem_append_left _ hx, h⟩
    ·exact ⟨_, List.mem_append_right _ (List.mem_singleton.2 rfl), h⟩
  have go : ∀ t1 : List Bool, t1.length = N + 1 → (∀ m : Nat, m ≤ N → m ≠ n → (t1.getD m false = true ↔ m < n ∧ Sums g m)) → (t1.getD n false = true ↔ ∃ x ∈ g.take (j + 1), x ≤ n ∧ Sums g (n - x)) → (∀ r, Ev (fun k => spec_l3Table.l1 k g (N : Int) t1 (n : Int) ((j + 1 : Nat) : Int)) r → Ev (fun k => spec_l3Table.l1 k g (N : Int) t (n : Int) (j : Int)) r) →
   ∃ t' : List Bool, t'.length = N + 1 ∧ (∀ m : Nat, m ≤ N → (t'.getD m false = true ↔ m < n + 1 ∧ Sums g m)) ∧ ∀ r, Ev (fun k => spec_l3Table.l0 k g (N : Int) t' ((n + 1 : Nat) : Int)) r → Ev (fun k => spec_l3Table.l1 k g (N : Int) t (n : Int) (j : Int)) r := by
   intro t1 h1 h2 h3 h4
   have hd1 : g.length - (j + 1) = d := by clear h1 h2 h3 h4 ih hm hc htk hx; omega
   obtain ⟨t', a, b, c⟩ := ih (j + 1) t1 hd1 hlt h1 h2 h3
   exact ⟨t', a, b, fun r hr => h4 r (c r hr)⟩
  by_cases h : (n : Int) ≥ g[j]
  ·obtain ⟨q, hq⟩ : ∃ q : Nat, (n : Int) - g[j] = (q : Int) := ⟨((n : Int) - g[j]).toNat, by omega⟩
   have hqt := hm q (by omega) (by omega)
   by_cases hb : t.getD q false = true
   ·refine go (t.set n true) (by simpa using ht) (fun m hmN e => ?_) ?_ (fun r hr => ?_)
    ·rw [getD_set _ _ _ _ _ (by omega), if_neg e]; exact hm m hmN e
    ·rw [getD_set _ _ _ _ _ (by omega), if_pos rfl, htk]
     refine ⟨fun _ => .inr ⟨h, by rw [hq]; exact (hqt.1 hb).2⟩, fun _ => rfl⟩
    ·refine Ev.step (fun _ => spec_l3Table.l1.eq_2 ..) ?_
     refine Ev.pos (by omega) ?_
     refine Ev.pos (by omega) ?_
     rw [rd_get hlt]
     refine Ev.pos h ?_
     rw [hq, w64 (by omega) (by omega)]
     refine Ev.pos (by omega) ?_
     refine Ev.pos (by omega) ?_
     rw [rdOf_nat]
     refine Ev.pos hb ?_
     refine Ev.pos (by omega) ?_
     refine Ev.pos (by omega) ?_
     rw [w64s (by omega), Int.toNat_natCast]
     exact hr
   ·refine go t ht hm ?_ (fun r hr => ?_)
    ·rw [hc, htk]
     refine ⟨.inl, fun h' => h'.elim id fun h'' => ?_⟩
     exfalso
     rw [hq] at h''
     exact hb (hqt.2 ⟨by omega, h''.2⟩)
    ·refine Ev.step (fun _ => spec_l3Table.l1.eq_2 ..) ?_
     refine Ev.pos (by omega) ?_
     refine Ev.pos (by omega) ?_
     rw [rd_get hlt]
     refine Ev.pos h ?_
     rw [hq, w64 (by omega) (by omega)]
     refine Ev.pos (by omega) ?_
     refine Ev.pos (by omega) ?_
     rw [rdOf_nat]
     refine Ev.neg hb ?_
     rw [w64s (by omega)]
     exact hr
  ·refine go t ht hm ?_ (fun r hr => ?_)
   ·rw [hc, htk]
    exact ⟨.inl, fun h' => h'.elim id fun h'' => absurd h''.1 (by omega)⟩
   ·refine Ev.step (fun _ => spec_l3Table.l1.eq_2 ..) ?_
    refine Ev.pos (by omega) ?_
    refine Ev.pos (by omega) ?_
    rw [rd_get hlt]
    refine Ev.neg h ?_
    rw [w64s (by omega)]
    exact hr
theorem l3Table_l0 (g : List Int) (hl : g.length ≤ 4611686018427387904) (hg : InR 1 1000000 g) (N : Nat) (hN : N ≤ 1000000) : ∀ (d n : Nat) (t : List Bool), N + 1 - n = d → 1 ≤ n → n ≤ N + 1 → t.length = N + 1 →
 (∀ m : Nat, m ≤ N → (t.getD m false = true ↔ m < n ∧ Sums g m)) → ∃ t' : List Bool, Ev (fun k => spec_l3Table.l0 k g (N : Int) t (n : Int)) t' ∧ t'.length = N + 1 ∧ ∀ m : Nat, m ≤ N → (t'.getD m false = true ↔ Sums g m) := by
 intro d
 induction d with
 | zero =>
  intro n t hd h1 hn ht hm
  refine ⟨t, ?_, ht, fun m hmN => (hm m hmN).trans ⟨fun h => h.2, fun h => ⟨by omega, h⟩⟩⟩
  refine Ev.step (fun _ => spec_l3Table.l0.eq_2 ..) ?_
  exact Ev.neg (by omega) (Ev.now _)
 | succ d ih =>
  intro n t hd h1 hn ht hm
  obtain ⟨t1, a, b, c⟩ := l3Table_l1 g hl hg N n h1 (by omega) hN g.length 0 t (by omega) (by omega) ht (fun m hmN _ => hm m hmN) ⟨fun h => absurd ((hm n (by omega)).1 h).1 (by omega), fun h => by simp at h⟩
  obtain ⟨t', h2, h3⟩ := ih (n + 1) t1 (by omega) (by omega) (by omega) a b
  refine ⟨t', ?_, h3⟩
  refine Ev.step (fun _ => spec_l3Table.l0.eq_2 ..) ?_
  exact Ev.pos (by omega) (c _ h2)
theorem l3Table (g : List Int) (hl : g.length ≤ 4611686018427387904) (hg : InR 1 1000000 g) (N : Nat) (hN : N ≤ 1000000) : ∃ t : List Bool, Ev (fun k => spec_l3Table.f k g (N : Int)) t ∧ t.length = N + 1 ∧ ∀ m : Nat, m ≤ N → (t.getD m false = true ↔ Sums g m) := by
 obtain ⟨t, h1, h2⟩ := l3Table_l0 g hl hg N hN N 1 ((List.replicate (N + 1) false).set 0 true) (by omega) (by omega) (by omega) (by simp) (fun m hmN => by
  rw [getD_set _ _ _ _ _ (by simp)]
  by_cases e : m = 0
  ·subst e; simp; exact Sums.zero
  ·rw [if_neg e]
   constructor
   ·intro h; rw [List.getD_eq_getElem?_getD, List.getElem?_replicate] at h; split at h <;> simp at h
   ·intro h; omega)
 refine ⟨t, ?_, h2⟩
 show Ev (fun k => if 0 ≤ (wrap64 ((N : Int) + 1)) then (if (wrap64 ((N : Int) + 1) : Int).toNat ≤ 281474976710656 then ((some (List.replicate (wrap64 ((N : Int) + 1) : Int).toNat false : List Bool)).bind fun y => (if 0 < (y.length : Int) then (spec_l3Table.l0 k g N (y.set (0 : Int).toNat true) 1) else (none))) else (none)) else (none)) t
 rw [w64s (by omega), Int.toNat_natCast]
 refine Ev.pos (by omega) ?_
 refine Ev.pos (by omega) ?_
 refine Ev.call rfl ?_
 refine Ev.pos (by rw [List.length_replicate]; omega) ?_
 exact h1
def one_ (x : Int) : Nat := if 0 ≤ x then 1 else 0
def pot_ (x : Int) : Nat := if 0 ≤ x then x.toNat else 3661
def cnt (R : List Int) : Nat := (R.map one_).sum
def pot (R : List Int) : Nat := (R.map pot_).sum
theorem rd_set (R : List Int) {i m : Int} (v : Int) (h0 : 0 ≤ i) (h1 : i < R.length) (hm : 0 ≤ m) : rd (R.set i.toNat v) m = if m = i then v else rd R m := by
 unfold rd
 rw [getD_set _ _ _ _ _ (by omega)]
 by_cases e : m = i
 ·subst e; simp
 ·rw [if_neg (by omega), if_neg e]
structure LI (g : List Int) (a : Int) (R : List Int) : Prop where
 len : (R.length : Int) = a
 zero : rd R 0 = 0
 ok : ∀ r : Int, 0 ≤ r → r < a → rd R r = -1 ∨ (0 ≤ rd R r ∧ Sums g (rd R r) ∧ rd R r % a = r ∧ rd R r ≤ 60 * (cnt R : Int))
theorem cnt_le (R : List Int) : cnt R ≤ R.length := sum_le_len one_ (fun x => by unfold one_; split <;> omega) R
theorem LI.put {g : List Int} {a : Int} {R : List Int} (h : LI g a R) (ha : 1 ≤ a) (ha2 : a ≤ 60) {tq v : Int} (h0 : 0 ≤ tq) (h1 : tq < a) (hv : 1 ≤ v) (hs : Sums g v) (hr : v % a = tq) (hle : v ≤ 60 * (cnt R : Int) + 60) (hlow : rd R tq < 0 ∨ v < rd R tq) :
 LI g a (R.set tq.toNat v) ∧ pot (R.set tq.toNat v) < pot R ∧ cnt R ≤ cnt (R.set tq.toNat v) := by
 have hl := h.len
 have hti : tq.toNat < R.length := by omega
 have hget : R[tq.toNat] = rd R tq := by
  have := rd_get hti
  rw [Int.toNat_of_nonneg h0] at this
  exact this.symm
 have s1 := sum_set one_ R tq.toNat hti v
 have s2 := sum_set pot_ R tq.toNat hti v
 rw [hget] at s1 s2
 have o1 : one_ v = 1 := by unfold one_; rw [if_pos (by omega)]
 have p1 : pot_ v = v.toNat := by unfold pot_; rw [if_pos (by omega)]
 rw [o1] at s1
 rw [p1] at s2
 have hcl := cnt_le R
 have hcl' := cnt_le (R.set tq.toNat v)
 rw [List.length_set] at hcl'
 unfold cnt at hle hcl hcl'
 rcases h.ok tq h0 h1 with e | ⟨e1, e2, e3, e4⟩
 ·have o2 : one_ (rd R tq) = 0 := by unfold one_; rw [if_neg (by omega)]
  have p2 : pot_ (rd R tq) = 3661 := by unfold pot_; rw [if_neg (by omega)]
  rw [o2] at s1
  rw [p2] at s2
  refine ⟨⟨by simpa using hl, ?_, fun r hr0 hr1 => ?_⟩, ?_, ?_⟩
  ·have hne : (0 : Int) ≠ tq := by rintro rfl; have := h.zero; omega
   rw [rd_set R v h0 (by omega) (by omega), if_neg hne]; exact h.zero
  ·rw [rd_set R v h0 (by omega) hr0]
   by_cases er : r = tq
   ·subst er
    rw [if_pos rfl]
    exact .inr ⟨by omega, hs, hr, by unfold cnt; omega⟩
   ·rw [if_neg er]
    rcases h.ok r hr0 hr1 with k | ⟨k1, k2, k3, k4⟩
    ·exact .inl k
    ·exact .inr ⟨k1, k2, k3, by unfold cnt at k4 ⊢; omega⟩
  ·unfold pot; omega
  ·unfold cnt; omega
 ·have hlow' : v < rd R tq := by rcases hlow with k | k <;> omega
  have o2 : one_ (rd R tq) = 1 := by unfold one_; rw [if_pos e1]
  have p2 : pot_ (rd R tq) = (rd R tq).toNat := by unfold pot_; rw [if_pos e1]
  rw [o2] at s1
  rw [p2] at s2
  refine ⟨⟨by simpa using hl, ?_, fun r hr0 hr1 => ?_⟩, ?_, ?_⟩
  ·have hne : (0 : Int) ≠ tq := by rintro rfl; have := h.zero; omega
   rw [rd_set R v h0 (by omega) (by omega), if_neg hne]; exact h.zero
  ·rw [rd_set R v h0 (by omega) hr0]
   by_cases er : r = tq
   ·subst er
    rw [if_pos rfl]
    exact .inr ⟨by omega, hs, hr, by unfold cnt at e4 ⊢; omega⟩
   ·rw [if_neg er]
    rcases h.ok r hr0 hr1 with k | ⟨k1, k2, k3, k4⟩
    ·exact .inl k
    ·exact .inr ⟨k1, k2, k3, by unfold cnt at k4 ⊢; omega⟩
  ·unfold pot; omega
  ·unfold cnt; omega
def Rel (a : Int) (R : List Int) (r x : Int) : Prop := 0 ≤ rd R ((r + x) % a) ∧ rd R ((r + x) % a) ≤ rd R r + x
theorem leasts_l3 (g : List Int) (hl : g.length ≤ 1000000) (hg : InR 1 60 g) (a : Int) (ha : 1 ≤ a) (ha2 : a ≤ 60) (r n : Int) (hr0 : 0 ≤ r) (hr1 : r < a) (hn0 : 0 ≤ n) (hns : Sums g n) (hnr : n % a = r) :
 ∀ (d j : Nat) (R : List Int) (b : Bool), g.length - j = d → j ≤ g.length → LI g a R → n ≤ 60 * (cnt R : Int) → (rd R r ≤ n ∧ 0 ≤ rd R r) →
 ∃ (R' : List Int) (b' : Bool), LI g a R' ∧ ((b' = b ∧ R' = R ∧ (rd R r = n → ∀ i : Nat, j ≤ i → i < g.length → Rel a R r (g.getD i 0))) ∨ (b' = true ∧ pot R' < pot R)) ∧
  ∀ res, Ev (fun k => impl_leasts.l2 k g a R' b' a (r + 1)) res → Ev (fun k => impl_leasts.l3 k g a R b r n a r g (g.length : Int) (j : Int)) res := by
 intro d
 induction d with
 | zero =>
  intro j R b hd hj hR hnc hrr
  refine ⟨R, b, hR, .inl ⟨rfl, rfl, fun _ i h1 h2 => by omega⟩, fun res hres => ?_⟩
  refine Ev.step (fun _ => impl_leasts.l3.eq_2 ..) ?_
  refine Ev.neg (by omega) ?_
  rw [w64 (by omega) (by omega)]
  exact hres
 | succ d ih =>
  intro j R b hd hj hR hnc hrr
  have hlt : j < g.length := by omega
  have hx := hg _ (List.getElem_mem hlt)
  have hxs : g[j] ∈ g := List.getElem_mem hlt
  have hl' := hR.len
  have hcl := cnt_le R
  obtain ⟨tq, hto⟩ : ∃ tq, (r + g[j]) % a = tq := ⟨_, rfl⟩
  have ht0 : 0 ≤ tq := by rw [← hto]; exact Int.emod_nonneg _ (by omega)
  have ht1 : tq < a := by rw [← hto]; exact Int.emod_lt_of_pos _ (by omega)
  have hvr : (n + g[j]) % a = tq := by rw [← hto, ← hnr, Int.emod_add_emod]
  have hv1 : 1 ≤ n + g[j] := by omega
  have hv2 : n + g[j] ≤ 60 * (cnt R : Int) + 60 := by omega
  have changed : (rd R tq < 0 ∨ n + g[j] < rd R tq) → (∀ res, Ev (fun k => impl_leasts.l3 k g a (R.set tq.toNat (n + g[j])) true r n a r g (g.length : Int) ((j + 1 : Nat) : Int)) res → Ev (fun k => impl_leasts.l3 k g a R b r n a r g (g.length : Int) (j : Int)) res) →
   ∃ (R' : List Int) (b' : Bool), LI g a R' ∧ ((b' = b ∧ R' = R ∧ (rd R r = n → ∀ i : Nat, j ≤ i → i < g.length → Rel a R r (g.getD i 0))) ∨ (b' = true ∧ pot R' < pot R)) ∧
    ∀ res, Ev (fun k => impl_leasts.l2 k g a R' b' a (r + 1)) res → Ev (fun k => impl_leasts.l3 k g a R b r n a r g (g.length : Int) (j : Int)) res := by
   intro hlow hstep
   obtain ⟨h1, h2, h3⟩ := hR.put ha ha2 ht0 ht1 hv1 (Sums.add hxs hns) hvr hv2 hlow
   have hrr' : rd (R.set tq.toNat (n + g[j])) r ≤ n ∧ 0 ≤ rd (R.set tq.toNat (n + g[j])) r := by
    rw [rd_set R _ ht0 (by omega) hr0]
    by_cases e : r = tq
    ·exfalso
     subst e
     rcases hlow with k | k <;> omega
    ·rw [if_neg e]; exact hrr
   obtain ⟨R', b', k1, k2, k3⟩ := ih (j + 1) _ true (by omega) (by omega) h1 (by omega) hrr'
   refine ⟨R', b', k1, .inr ?_, fun res hres => hstep res (k3 res hres)⟩
   rcases k2 with ⟨rfl, rfl, _⟩ | ⟨rfl, k⟩
   ·exact ⟨rfl, h2⟩
   ·exact ⟨rfl, by omega⟩
  have hop : ∀ res, Ev (fun k => if rd R tq < 0 then (impl_leasts.l3 k g a (R.set tq.toNat (n + g[j])) true r n a r g (g.length : Int) ((j + 1 : Nat) : Int)) else (if n + g[j] < rd R tq then (impl_leasts.l3 k g a (R.set tq.toNat (n + g[j])) true r n a r g (g.length : Int) ((j + 1 : Nat) : Int)) else (impl_leasts.l3 k g a R b r n a r g (g.length : Int) ((j + 1 : Nat) : Int)))) res → Ev (fun k => impl_leasts.l3 k g a R b r n a r g (g.length : Int) (j : Int)) res := by
   intro res hres
   refine Ev.step (fun _ => impl_leasts.l3.eq_2 ..) ?_
   refine Ev.pos (by omega) ?_
   refine Ev.pos (by omega) ?_
   refine Ev.pos (by omega) ?_
   rw [rd_get hlt, w64 (x := r + g[j]) (by omega) (by omega), w64 (x := n + g[j]) (by omega) (by omega), w64s (by omega), tmod_pos (by omega), hto]
   refine Ev.neg (by omega) ?_
   refine Ev.pos (by omega) ?_
   refine Ev.pos (by omega) ?_
   exact hres
  by_cases c1 : rd R tq < 0
  ·exact changed (.inl c1) fun res hres => hop res (Ev.pos c1 hres)
  ·by_cases c2 : n + g[j] < rd R tq
   ·exact changed (.inr c2) fun res hres => hop res (Ev.neg c1 (Ev.pos c2 hres))
   ·obtain ⟨R', b', k1, k2, k3⟩ := ih (j + 1) R b (by omega) (by omega) hR hnc hrr
    refine ⟨R', b', k1, ?_, fun res hres => hop res (Ev.neg c1 (Ev.neg c2 (k3 res hres)))⟩
    rcases k2 with ⟨e1, e2, e3⟩ | k
    ·refine .inl ⟨e1, e2, fun hrn i h1 h2 => ?_⟩
     rcases Nat.lt_or_ge j i with h3 | h3
     ·exact e3 hrn i (by omega) h2
     ·have : i = j := by omega
      subst this
      unfold Rel
      rw [getD_get hlt, hto, hrn]
      omega
    ·exact .inr k
theorem leasts_l2 (g : List Int) (hl : g.length ≤ 1000000) (hg : InR 1 60 g) (a : Int) (ha : 1 ≤ a) (ha2 : a ≤ 60) :
 ∀ (d : Nat) (r : Int) (R : List Int) (b : Bool), (a - r).toNat = d → 0 ≤ r → r ≤ a → LI g a R →
 ∃ (R' : List Int) (b' : Bool), LI g a R' ∧ ((b' = b ∧ R' = R ∧ ∀ q : Int, r ≤ q → q < a → 0 ≤ rd R q → ∀ i : Nat, i < g.length → Rel a R q (g.getD i 0)) ∨ (b' = true ∧ pot R' < pot R)) ∧
  ∀ res, Ev (fun k => impl_leasts.l1 k g a R' b') res → Ev (fun k => impl_leasts.l2 k g a R b a r) res := by
 intro d
 induction d with
 | zero =>
  intro r R b hd h0 h1 hR
  refine ⟨R, b, hR, .inl ⟨rfl, rfl, fun q h2 h3 => by omega⟩, fun res hres => ?_⟩
  refine Ev.step (fun _ => impl_leasts.l2.eq_2 ..) ?_
  exact Ev.neg (by omega) hres
 | succ d ih =>
  intro r R b hd h0 h1 hR
  have hl' := hR.len
  by_cases c : rd R r < 0
  ·obtain ⟨R', b', k1, k2, k3⟩ := ih (r + 1) R b (by omega) (by omega) (by omega) hR
   refine ⟨R', b', k1, ?_, fun res hres => ?_⟩
   ·rcases k2 with ⟨e1, e2, e3⟩ | k
    ·refine .inl ⟨e1, e2, fun q h2 h3 h4 => ?_⟩
     by_cases e : q = r
     ·subst e; omega
     ·exact e3 q (by omega) h3 h4
    ·exact .inr k
   ·refine Ev.step (fun _ => impl_leasts.l2.eq_2 ..) ?_
    refine Ev.pos (by omega) ?_
    refine Ev.pos (by omega) ?_
    refine Ev.pos (by omega) ?_
    refine Ev.pos c ?_
    rw [w64 (by omega) (by omega)]
    exact k3 res hres
  ·rcases hR.ok r h0 (by omega) with e | ⟨e1, e2, e3, e4⟩
   ·omega
   ·obtain ⟨R1, b1, m1, m2, m3⟩ := leasts_l3 g hl hg a ha ha2 r (rd R r) h0 (by omega) e1 e2 e3 g.length 0 R b (by omega) (by omega) hR e4 ⟨Int.le_refl _, e1⟩
    obtain ⟨R', b', k1, k2, k3⟩ := ih (r + 1) R1 b1 (by omega) (by omega) (by omega) m1
    refine ⟨R', b', k1, ?_, fun res hres => ?_⟩
    ·rcases m2 with ⟨rfl, rfl, m⟩ | ⟨rfl, m⟩
     ·rcases k2 with ⟨f1, f2, f3⟩ | k
      ·refine .inl ⟨f1, f2, fun q h2 h3 h4 => ?_⟩
       by_cases e : q = r
       ·subst e; exact fun i hi => m rfl i (by omega) hi
       ·exact f3 q (by omega) h3 h4
      ·exact .inr k
     ·rcases k2 with ⟨rfl, rfl, _⟩ | ⟨rfl, k⟩
      ·exact .inr ⟨rfl, m⟩
      ·exact .inr ⟨rfl, by omega⟩
    ·refine Ev.step (fun _ => impl_leasts.l2.eq_2 ..) ?_
     refine Ev.pos (by omega) ?_
     refine Ev.pos (by omega) ?_
     refine Ev.pos (by omega) ?_
     refine Ev.neg c ?_
     exact m3 res (k3 res hres)
structure Least (g : List Int) (a : Int) (R : List Int) : Prop where
 len : (R.length : Int) = a
 bd : ∀ r : Int, 0 ≤ r → r < a → rd R r ≤ 3600
 cls : ∀ r : Int, 0 ≤ r → r < a → (rd R r = -1 ∧ ∀ n, Sums g n → n % a ≠ r) ∨ (0 ≤ rd R r ∧ Sums g (rd R r) ∧ rd R r % a = r ∧ ∀ n, Sums g n → n % a = r → rd R r ≤ n)
theorem least_of {g : List Int} {a : Int} {R : List Int} (ha : 1 ≤ a) (ha2 : a ≤ 60) (hR : LI g a R) (hf : ∀ q : Int, 0 ≤ q → q < a → 0 ≤ rd R q → ∀ i : Nat, i < g.length → Rel a R q (g.getD i 0)) : Least g a R := by
 have key : ∀ n, Sums g n → 0 ≤ rd R (n % a) ∧ rd R (n % a) ≤ n := by
  intro n hn
  induction hn with
  | zero => rw [Int.zero_emod, hR.zero]; omega
  | add hx hn ih =>
   rename_i n x
   obtain ⟨i, hi, rfl⟩ := List.getElem_of_mem hx
   have := hf (n % a) (Int.emod_nonneg _ (by omega)) (Int.emod_lt_of_pos _ (by omega)) ih.1 i hi
   unfold Rel at this
   rw [getD_get hi, Int.emod_add_emod] at this
   omega
 refine ⟨hR.len, fun r h0 h1 => ?_, fun r h0 h1 => ?_⟩
 ·have := cnt_le R
  have hl := hR.len
  rcases hR.ok r h0 h1 with e | ⟨_, _, _, e⟩ <;> omega
 rcases hR.ok r h0 h1 with e | ⟨e1, e2, e3, _⟩
 ·refine .inl ⟨e, fun n hn hr => ?_⟩
  have := key n hn
  rw [hr] at this
  omega
 ·refine .inr ⟨e1, e2, e3, fun n hn hr => ?_⟩
  have := key n hn
  rw [hr] at this
  exact this.2
theorem leasts_l1 (g : List Int) (hl : g.length ≤ 1000000) (hg : InR 1 60 g) (a : Int) (ha : 1 ≤ a) (ha2 : a ≤ 60) : ∀ (p : Nat) (R : List Int), pot R = p → LI g a R → ∃ R', Ev (fun k => impl_leasts.l1 k g a R true) R' ∧ Least g a R' := by
 intro p
 induction p using Nat.strongRecOn with
 | _ p ih =>
  intro R hp hR
  obtain ⟨R1, b1, k1, k2, k3⟩ := leasts_l2 g hl hg a ha ha2 a.toNat 0 R false (by omega) (by omega) (by omega) hR
  rcases k2 with ⟨rfl, rfl, f⟩ | ⟨rfl, k⟩
  ·refine ⟨R1, ?_, least_of ha ha2 hR fun q h1 h2 => f q h1 h2⟩
   refine Ev.step (fun _ => impl_leasts.l1.eq_2 ..) ?_
   refine Ev.pos rfl ?_
   rw [hR.len]
   refine k3 _ ?_
   refine Ev.step (fun _ => impl_leasts.l1.eq_2 ..) ?_
   exact Ev.neg (by simp) (Ev.now _)
  ·obtain ⟨R', h1, h2⟩ := ih (pot R1) (by omega) R1 rfl k1
   refine ⟨R', ?_, h2⟩
   refine Ev.step (fun _ => impl_leasts.l1.eq_2 ..) ?_
   refine Ev.pos rfl ?_
   rw [hR.len]
   exact k3 _ h1
theorem leasts_l0 (g : List Int) (A : Nat) (hA : 1 ≤ A) (hA2 : A ≤ 60) (res : List Int) (hres : Ev (fun k => impl_leasts.l1 k g (A : Int) ((List.replicate A (-1)).set 0 0) true) res) : ∀ (d j : Nat) (R : List Int), A - j = d → j ≤ A → R.length = A → R.take j = List.replicate j (-1) →
 Ev (fun k => impl_leasts.l0 k g (A : Int) R (A : Int) (j : Int)) res := by
 intro d
 induction d with
 | zero =>
  intro j R hd hj hR ht
  have : j = A := by omega
  subst this
  rw [List.take_of_length_le (by omega)] at ht
  subst ht
  refine Ev.step (fun _ => impl_leasts.l0.eq_2 ..) ?_
  refine Ev.neg (by omega) ?_
  refine Ev.pos (by simp <;> omega) ?_
  exact hres
 | succ d ih =>
  intro j R hd hj hR ht
  refine Ev.step (fun _ => impl_leasts.l0.eq_2 ..) ?_
  refine Ev.pos (by omega) ?_
  refine Ev.pos (by omega) ?_
  refine Ev.pos (by omega) ?_
  rw [w64s (by omega), Int.toNat_natCast]
  refine ih (j + 1) _ (by omega) (by omega) (by simpa using hR) ?_
  rw [take_snoc' (by simp <;> omega), List.take_set_of_le (Nat.le_refl _), ht, List.getElem_set_self, List.replicate_succ']
theorem leasts (g : List Int) (hl : g.length ≤ 1000000) (hg : InR 1 60 g) (a : Int) (ha : 1 ≤ a) (ha2 : a ≤ 60) : ∃ R, Ev (fun k => impl_leasts.f k g a) R ∧ Least g a R := by
 obtain ⟨A, rfl⟩ : ∃ A : Nat, a = (A : Int) := ⟨a.toNat, by omega⟩
 have hrd : ∀ r : Int, 0 ≤ r → r < (A : Int) → rd ((List.replicate A (-1)).set (0 : Int).toNat 0) r = if r = 0 then 0 else -1 := by
  intro r h0 h1
  rw [rd_set _ _ (by omega) (by simp <;> omega) h0]
  by_cases e : r = 0
  ·rw [if_pos e, if_pos e]
  ·rw [if_neg e, if_neg e]
   unfold rd
   rw [List.getD_eq_getElem?_getD, List.getElem?_replicate, if_pos (by omega)]
   rfl
 have hLI : LI g A ((List.replicate A (-1)).set (0 : Int).toNat 0) := by
  refine ⟨by simp, ?_, fun r h0 h1 => ?_⟩
  ·rw [hrd 0 (by omega) (by omega), if_pos rfl]
  ·rw [hrd r h0 h1]
   by_cases e : r = 0
   ·rw [if_pos e]; exact .inr ⟨by omega, .zero, by rw [Int.zero_emod]; exact e.symm, by omega⟩
   ·rw [if_neg e]; exact .inl rfl
 obtain ⟨R, h1, h2⟩ := leasts_l1 g hl hg A ha ha2 _ _ rfl hLI
 refine ⟨R, ?_, h2⟩
 show Ev (fun k => if 0 ≤ (A : Int) then (if (A : Int).toNat ≤ 35184372088832 then ((some (List.replicate (A : Int).toNat 0 : List Int)).bind fun y => (impl_leasts.l0 k g A y (y.length : Int) 0)) else (none)) else (none)) R
 refine Ev.pos (by omega) ?_
 refine Ev.pos (by omega) ?_
 refine Ev.call rfl ?_
 rw [Int.toNat_natCast, List.length_replicate]
 exact leasts_l0 g A (by omega) (by omega) R h1 A 0 (List.replicate A 0) (by omega) (by omega) (by simp) (by simp)
end Go.Proofs.Ytbjbolblahlhcaa.FFnExactGlueFrobenius
