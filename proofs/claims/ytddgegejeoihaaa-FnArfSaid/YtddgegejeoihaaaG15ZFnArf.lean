/- Part 15 of the claim for FnArf, of the chain from the printed contracts and the plain laws to the row. It has no condition of its own. -/
import Derived.Test.YtddgegejeoihaaaG13ZFnArf
import Derived.Test.YtddgegejeoihaaaG14ZFnArf
section
namespace Go.Proofs.Ytddgegejeoihaaa.WM
open Go.Proofs.Ytddgegejeoihaaa.M
def clo : Nat → Nat → Nat → Nat
 | 0, _, m => m
 | n + 1, g, m => clo n (2 * g) (m ||| (m <<< g))
theorem clo_bit : ∀ (n g m x : Nat), (clo n g m).testBit x = true ↔ ∃ j, j < 2 ^ n ∧ j * g ≤ x ∧ m.testBit (x - j * g) = true := by
 intro n
 induction n with
 | zero =>
  intro g m x
  constructor
  ·intro h; exact ⟨0, by simp, by simp, by simpa [clo] using h⟩
  ·rintro ⟨j, hj, _, h⟩
   have h0 : j = 0 := by simpa using hj
   subst h0
   simpa [clo] using h
 | succ n ih =>
  intro g m x
  unfold clo
  rw [ih]
  constructor
  ·rintro ⟨j, hj, hx, h⟩
   rw [Nat.testBit_or, Nat.testBit_shiftLeft, Bool.or_eq_true, Bool.and_eq_true, decide_eq_true_eq] at h
   have e2 : j * (2 * g) = (2 * j) * g := by rw [Nat.mul_comm 2 j, Nat.mul_assoc]
   rcases h with h | ⟨h1, h⟩
   ·exact ⟨2 * j, by rw [Nat.pow_succ]; omega, by omega, by rw [← e2]; exact h⟩
   ·have e3 : (2 * j + 1) * g = j * (2 * g) + g := by rw [Nat.add_mul, Nat.one_mul, e2]
    exact ⟨2 * j + 1, by rw [Nat.pow_succ]; omega, by omega, by rw [e3, Nat.sub_add_eq]; exact h⟩
  ·rintro ⟨j, hj, hx, h⟩
   have e2 : (j / 2) * (2 * g) = (2 * (j / 2)) * g := by rw [Nat.mul_comm 2 (j / 2), Nat.mul_assoc]
   refine ⟨j / 2, by rw [Nat.pow_succ] at hj; omega, ?_, ?_⟩
   ·rw [e2]; exact Nat.le_trans (Nat.mul_le_mul_right g (by omega)) hx
   ·rw [Nat.testBit_or, Nat.testBit_shiftLeft, Bool.or_eq_true, Bool.and_eq_true, decide_eq_true_eq, e2]
    by_cases hp : j % 2 = 0
    ·left
     have : 2 * (j / 2) = j := by omega
     rw [this]; exact h
    ·right
     have e4 : j = 2 * (j / 2) + 1 := by omega
     have e3 : j * g = (2 * (j / 2)) * g + g := by
      conv => lhs; rw [e4]
      rw [Nat.add_mul, Nat.one_mul]
     refine ⟨by omega, ?_⟩
     rw [← Nat.sub_add_eq, ← e3]; exact h
def add (g m : Nat) : Nat := (clo 8 g m) % 2 ^ 256
def Sp (m : Nat) (l : List Int) : Prop := m < 2 ^ 256 ∧ ∀ x : Nat, x < 256 → (m.testBit x = true ↔ Sums l x)
theorem sums_snoc {l : List Int} {g n : Int} : Sums (l ++ [g]) n ↔ ∃ j : Nat, Sums l (n - j * g) := by
 constructor
 ·intro h
  induction h with
  | zero => exact ⟨0, by simpa using Sums.zero⟩
  | @add n x hx _ ih =>
   obtain ⟨j, hj⟩ := ih
   rcases List.mem_append.1 hx with hx | hx
   ·refine ⟨j, ?_⟩
    have := Sums.add hx hj
    rwa [show n - j * g + x = n + x - j * g by omega] at this
   ·have hx : x = g := by simpa using hx
    subst hx
    refine ⟨j + 1, ?_⟩
    rw [Int.natCast_succ, Int.add_mul, Int.one_mul, show n + x - (j * x + x) = n - j * x by omega]
    exact hj
 ·rintro ⟨j, hj⟩
  have h1 : Sums (l ++ [g]) (n - j * g) := hj.mono fun x hx => List.mem_append_left _ hx
  have h2 : Sums (l ++ [g]) (j * g) := (Sums.one (by simp)).mul j
  have := h1.trans h2
  rwa [Int.sub_add_cancel] at this
theorem sp_one : Sp 1 [] := by
 refine ⟨by decide, fun x _ => ?_⟩
 cases x with
 | zero => exact ⟨fun _ => Sums.zero, fun _ => by decide⟩
 | succ x =>
  constructor
  ·intro h
   rw [Nat.testBit_succ] at h
   simp at h
  ·intro h
   have := h.nil
   omega
theorem sp_add {m : Nat} {l : List Int} {g : Nat} (h : Sp m l) (hl : ∀ x ∈ l, 1 ≤ x) (hg : 1 ≤ g) : Sp (add g m) (l ++ [(g : Int)]) := by
 refine ⟨Nat.mod_lt _ (Nat.pow_pos (by decide)), fun x hx => ?_⟩
 unfold add
 rw [Nat.testBit_mod_two_pow, decide_eq_true hx, Bool.true_and, clo_bit, sums_snoc]
 constructor
 ·rintro ⟨j, _, hjx, hb⟩
  refine ⟨j, ?_⟩
  have := (h.2 _ (by omega)).1 hb
  rwa [Int.ofNat_sub hjx, Int.natCast_mul] at this
 ·rintro ⟨j, hj⟩
  have h0 := hj.nonneg hl
  have hjx : j * g ≤ x := by
   have : ((j * g : Nat) : Int) ≤ x := by rw [Int.natCast_mul]; omega
   exact Int.ofNat_le.1 this
  have hjj : j ≤ j * g := Nat.le_mul_of_pos_right j hg
  refine ⟨j, by omega, hjx, (h.2 _ (by omega)).2 ?_⟩
  rw [Int.ofNat_sub hjx, Int.natCast_mul]
  exact hj
def cnt : Nat → Nat → Nat
 | 0, _ => 0
 | n + 1, G => cnt n G + (G.testBit n).toNat
def sizeOf (G : Nat) : Nat := if G = 0 then 0 else Nat.log2 G + 1
def wilf (c n e : Nat) : Bool := Nat.ble c (e * n) && (!(Nat.beq e 2) || Nat.beq (2 * n) c)
def chkG (G e : Nat) : Bool := Nat.ble (2 ^ 200) G || wilf (sizeOf G) (sizeOf G - cnt (sizeOf G) G) e
def chk (m e : Nat) : Bool := chkG (2 ^ 256 - (m + 1)) e
def fin (m e : Nat) : Bool := chk m e && (m.testBit 60 || chk (add 60 m) (e + 1))
def go : List Nat → Nat → Nat → Nat → Bool
 | [], _, m, e => fin m e
 | g :: rest, k, m, e => match k with
  | 0 => fin m e
  | k + 1 => go rest (k + 1) m e && (m.testBit g || go rest k (add g m) (e + 1))
def win (a : Nat) : List Nat := List.range' (a + 1) (min 12 (21 - a))
theorem all1 : ((List.range 6).all fun a => go (win (a + 1)) 5 (add (a + 1) 1) 1) = true := by decide +kernel
theorem all2 : ((List.range 3).all fun a => go (win (a + 7)) 5 (add (a + 7) 1) 1) = true := by decide +kernel
theorem all3 : ((List.range 12).all fun a => go (win (a + 10)) 5 (add (a + 10) 1) 1) = true := by decide +kernel
theorem all (a : Nat) (h1 : 1 ≤ a) (h2 : a ≤ 21) : go (win a) 5 (add a 1) 1 = true := by
 by_cases h6 : a ≤ 6
 ·have := List.all_eq_true.1 all1 (a - 1) (List.mem_range.2 (by omega))
  rwa [show a - 1 + 1 = a by omega] at this
 ·by_cases h9 : a ≤ 9
  ·have := List.all_eq_true.1 all2 (a - 7) (List.mem_range.2 (by omega))
   rwa [show a - 7 + 7 = a by omega] at this
  ·have := List.all_eq_true.1 all3 (a - 10) (List.mem_range.2 (by omega))
   rwa [show a - 10 + 10 = a by omega] at this
def Mn : List Int → List Nat → Prop
 | _, [] => True
 | l, x :: t => ¬ Sums l (x : Int) ∧ Mn (l ++ [(x : Int)]) t
def ints (t : List Nat) : List Int := t.map fun x : Nat => (x : Int)
theorem go_sound : ∀ (rest : List Nat) (k m e : Nat) (l : List Int), Sp m l → (∀ x ∈ l, 1 ≤ x) → (∀ x ∈ rest, 1 ≤ x ∧ x < 256) → go rest k m e = true →
 ∀ t : List Nat, t.Sublist rest → t.length ≤ k → Mn l t → ∃ m', Sp m' (l ++ ints t) ∧ fin m' (e + t.length) = true := by
 intro rest
 induction rest with
 | nil =>
  intro k m e l hs _ _ hg t ht _ _
  have : t = [] := List.sublist_nil.1 ht
  subst this
  exact ⟨m, by simpa [ints] using hs, by simpa [go] using hg⟩
 | cons g rest ih =>
  intro k m e l hs hl hr hg t ht hk hm
  cases k with
  | zero =>
   have : t = [] := List.eq_nil_of_length_eq_zero (by omega)
   subst this
   exact ⟨m, by simpa [ints] using hs, by simpa [go] using hg⟩
  | succ k =>
   unfold go at hg
   rw [Bool.and_eq_true, Bool.or_eq_true] at hg
   cases ht with
   | cons _ h => exact ih (k + 1) m e l hs hl (fun x hx => hr x (List.mem_cons_of_mem _ hx)) hg.1 t h hk hm
   | cons_cons _ h =>
    rename_i t
    have hg1 := hr g (List.mem_cons_self ..)
    rcases hg.2 with hb | hg2
    ·exact absurd ((hs.2 g hg1.2).1 hb) hm.1
    ·obtain ⟨m', h1, h2⟩ := ih k (add g m) (e + 1) (l ++ [(g : Int)]) (sp_add hs hl hg1.1) (by
      intro x hx; rcases List.mem_append.1 hx with hx | hx; exact hl x hx; have : x = g := by simpa using hx
      omega) (fun x hx => hr x (List.mem_cons_of_mem _ hx)) hg2 t h (by simpa using hk) hm.2
     refine ⟨m', ?_, ?_⟩
     ·simpa [ints, List.append_assoc] using h1
     ·rw [List.length_cons, show e + (t.length + 1) = e + 1 + t.length by omega]; exact h2
theorem asc_sublist : ∀ (n s : Nat) (t : List Nat), t.Pairwise (· < ·) → (∀ x ∈ t, s ≤ x ∧ x < s + n) → t.Sublist (List.range' s n) := by
 intro n
 induction n with
 | zero =>
  intro s t _ h
  cases t with
  | nil => exact List.nil_sublist _
  | cons x t => have := h x (List.mem_cons_self ..); omega
 | succ n ih =>
  intro s t hp h
  rw [List.range'_succ]
  cases t with
  | nil => exact List.nil_sublist _
  | cons x t =>
   have hx := h x (List.mem_cons_self ..)
   have hp' := List.pairwise_cons.1 hp
   by_cases hxs : x = s
   ·subst hxs
    refine (ih (x + 1) t hp'.2 fun y hy => ?_).cons_cons x
    have := hp'.1 y hy
    have := h y (List.mem_cons_of_mem _ hy)
    omega
   ·refine (ih (s + 1) (x :: t) hp fun y hy => ?_).cons s
    have h2 := h y hy
    rcases List.mem_cons.1 hy with rfl | hy
    ·omega
    ·have := hp'.1 y hy; omega
theorem top (a : Nat) (t : List Nat) (h1 : 1 ≤ a) (h2 : a ≤ 21) (hp : (a :: t).Pairwise (· < ·)) (hw : ∀ x ∈ t, x ≤ a + 12 ∧ x ≤ 21) (hk : t.length ≤ 5) (hm : Mn [(a : Int)] t) :
 ∃ m', Sp m' (ints (a :: t)) ∧ fin m' (1 + t.length) = true := by
 have hp' := List.pairwise_cons.1 hp
 have := go_sound (win a) 5 (add a 1) 1 [(a : Int)] (by have := sp_add sp_one (g := a) (by simp) h1; simpa using this) (by simp; omega) (by
  intro x hx; unfold win at hx; rw [List.mem_range'_1] at hx; omega) (all a h1 h2) t (by
  unfold win; refine asc_sublist _ _ t hp'.2 fun x hx => ?_
  have := hp'.1 x hx; have := hw x hx; omega) hk hm
 simpa [ints] using this
noncomputable def cntS (l : List Int) : Nat → Nat
 | 0 => 0
 | n + 1 => open Classical in cntS l n + (if Sums l n then 0 else 1)
theorem cnt_cntS {G : Nat} {l : List Int} (h : ∀ x : Nat, x < 256 → (G.testBit x = true ↔ ¬ Sums l x)) : ∀ n : Nat, n ≤ 256 → cnt n G = cntS l n := by
 intro n
 induction n with
 | zero => intro _; rfl
 | succ n ih =>
  intro hn
  unfold cnt cntS
  rw [ih (by omega)]
  by_cases hs : Sums l n
  ·rw [if_pos hs]
   have : G.testBit n = false := by
    cases hb : G.testBit n with
    | false => rfl
    | true => exact absurd hs ((h n (by omega)).1 hb)
   rw [this]; rfl
  ·rw [if_neg hs, (h n (by omega)).2 hs]; rfl
theorem top_bit {G : Nat} (h : G ≠ 0) : G.testBit (Nat.log2 G) = true := by
 have h1 : 2 ^ Nat.log2 G ≤ G := Nat.log2_self_le h
 have h2 : G < 2 ^ (Nat.log2 G + 1) := Nat.lt_log2_self
 rw [Nat.testBit_eq_decide_div_mod_eq, decide_eq_true_eq]
 have h3 : G / 2 ^ Nat.log2 G = 1 := by
  have hp : 0 < 2 ^ Nat.log2 G := Nat.pow_pos (by decide)
  have a1 : 1 ≤ G / 2 ^ Nat.log2 G := (Nat.le_div_iff_mul_le hp).2 (by omega)
  have a2 : G / 2 ^ Nat.log2 G < 2 := (Nat.div_lt_iff_lt_mul hp).2 (by rw [Nat.pow_succ] at h2; omega)
  omega
 rw [h3]
def Wil (l : List Int) (e : Nat) : Prop := ∃ c : Nat, c ≤ 200 ∧ (∀ x : Nat, c ≤ x → x < 256 → Sums l x) ∧ (c = 0 ∨ ¬ Sums l ((c - 1 : Nat) : Int)) ∧ c ≤ e * (c - cntS l c) ∧ (e = 2 → 2 * (c - cntS l c) = c)
theorem chk_sound {m e : Nat} {l : List Int} (h : Sp m l) (hc : chk m e = true) (hbig : ∀ x : Nat, 200 ≤ x → x < 256 → Sums l x) : Wil l e := by
 have hG : ∀ x : Nat, x < 256 → ((2 ^ 256 - (m + 1)).testBit x = true ↔ ¬ Sums l x) := by
  intro x hx
  rw [Nat.testBit_two_pow_sub_succ h.1, decide_eq_true hx, Bool.true_and, ← h.2 x hx]
  simp
 have hlt : 2 ^ 256 - (m + 1) < 2 ^ 256 := by have := h.1; omega
 unfold chk at hc
 revert hc hG hlt
 generalize 2 ^ 256 - (m + 1) = G
 intro hc hG hlt
 have hoff : ∀ i, 200 ≤ i → G.testBit i = false := by
  intro i hi
  by_cases h2 : i < 256
  ·cases hb : G.testBit i with
   | false => rfl
   | true => exact absurd (hbig i hi h2) ((hG i h2).1 hb)
  ·exact Nat.testBit_lt_two_pow (Nat.lt_of_lt_of_le hlt (Nat.pow_le_pow_right (by decide) (by omega)))
 have h200 : G < 2 ^ 200 := Nat.lt_pow_two_of_testBit G hoff
 unfold chkG at hc
 have hb : Nat.ble (2 ^ 200) G = false := by
  cases hh : Nat.ble (2 ^ 200) G with
  | false => rfl
  | true => exact absurd (Nat.le_of_ble_eq_true hh) (by omega)
 rw [hb, Bool.false_or] at hc
 unfold wilf at hc
 rw [Bool.and_eq_true, Bool.or_eq_true] at hc
 have hcs : sizeOf G ≤ 200 ∧ G < 2 ^ sizeOf G ∧ (sizeOf G = 0 ∨ G.testBit (sizeOf G - 1) = true) := by
  unfold sizeOf
  by_cases h0 : G = 0
  ·rw [if_pos h0]; exact ⟨by omega, by omega, .inl rfl⟩
  ·rw [if_neg h0]
   refine ⟨(Nat.log2_lt h0).2 h200, Nat.lt_log2_self, .inr ?_⟩
   rw [Nat.add_sub_cancel]; exact top_bit h0
 revert hc hcs
 generalize sizeOf G = c
 intro hc hcs
 have hcc := cnt_cntS hG c (by omega)
 rw [hcc] at hc
 refine ⟨c, hcs.1, ?_, ?_, Nat.le_of_ble_eq_true hc.1, ?_⟩
 ·intro x h1 h2
  refine Classical.byContradiction fun hn => ?_
  have := Nat.testBit_lt_two_pow (Nat.lt_of_lt_of_le hcs.2.1 (Nat.pow_le_pow_right (by decide) h1))
  rw [(hG x h2).2 hn] at this
  exact absurd this (by decide)
 ·rcases hcs.2.2 with h | h
  ·exact .inl h
  ·by_cases h0 : c = 0
   ·exact .inl h0
   ·exact .inr ((hG (c - 1) (by omega)).1 h)
 ·intro he
  rcases hc.2 with h | h
  ·subst he; exact absurd h (by decide)
  ·exact Nat.eq_of_beq_eq_true h
theorem wilf_top (a : Nat) (t : List Nat) (h1 : 1 ≤ a) (h2 : a ≤ 21) (hp : (a :: t).Pairwise (· < ·)) (hw : ∀ x ∈ t, x ≤ a + 12 ∧ x ≤ 21) (hk : t.length ≤ 5) (hm : Mn [(a : Int)] t) (hbig : ∀ x : Nat, 200 ≤ x → x < 256 → Sums (ints (a :: t)) x) :
 Wil (ints (a :: t)) (1 + t.length) := by
 obtain ⟨m, hs, hf⟩ := top a t h1 h2 hp hw hk hm
 unfold fin at hf
 rw [Bool.and_eq_true] at hf
 exact chk_sound hs hf.1 hbig
theorem wilf_top60 (a : Nat) (t : List Nat) (h1 : 1 ≤ a) (h2 : a ≤ 21) (hp : (a :: t).Pairwise (· < ·)) (hw : ∀ x ∈ t, x ≤ a + 12 ∧ x ≤ 21) (hk : t.length ≤ 5) (hm : Mn [(a : Int)] t)
 (h60 : ¬ Sums (ints (a :: t)) 60) (hbig : ∀ x : Nat, 200 ≤ x → x < 256 → Sums (ints (a :: t) ++ [60]) x) :
 Wil (ints (a :: t) ++ [60]) (2 + t.length) := by
 obtain ⟨m, hs, hf⟩ := top a t h1 h2 hp hw hk hm
 unfold fin at hf
 rw [Bool.and_eq_true, Bool.or_eq_true] at hf
 rcases hf.2 with h | h
 ·exact absurd ((hs.2 60 (by omega)).1 h) h60
 ·have hpos : ∀ x ∈ ints (a :: t), 1 ≤ x := by
   intro x hx
   unfold ints at hx
   obtain ⟨y, hy, rfl⟩ := List.mem_map.1 hx
   rcases List.mem_cons.1 hy with rfl | hy
   ·omega
   ·have := (List.pairwise_cons.1 hp).1 y hy; omega
  have h3 := sp_add hs hpos (g := 60) (by omega)
  have := chk_sound h3 h hbig
  rwa [show 1 + t.length + 1 = 2 + t.length by omega] at this
end Go.Proofs.Ytddgegejeoihaaa.WM
end
section
namespace Go.Proofs.Ytddgegejeoihaaa.FFnArf
open Go Go.RowKit Go.Proofs.YtddgegejeoihaaaW.PrintWords Go.Proofs.Ytddgegejeoihaaa.M Go.Proofs.Ytddgegejeoihaaa.PFnArf Go.Proofs.Ytddgegejeoihaaa.WM
noncomputable def con (l : List Int) : Nat := (lastOf (gaps l) + 1).toNat
theorem lastOf_mem {g : List Int} (h : g.length ≠ 0) : lastOf g ∈ g := by
 unfold lastOf
 rw [if_neg h, getD_get (by omega)]
 exact List.getElem_mem _
theorem last_bd (l : List Int) : -1 ≤ lastOf (gaps l) ∧ lastOf (gaps l) < 200 := by
 by_cases h : (gaps l).length = 0
 ·unfold lastOf; rw [if_pos h]; omega
 ·have := lastOf_mem h
  unfold gaps at this ⊢
  have := (gapsUp_mem l 200 _).1 this
  omega
theorem con_eq (l : List Int) : lastOf (gaps l) + 1 = (con l : Int) := by
 have := last_bd l
 unfold con; omega
theorem con_le (l : List Int) : con l ≤ 200 := by
 have := last_bd l
 unfold con; omega
theorem conBoth (l : List Int) (h : IsSG l) : Ev (fun k => spec_ConductorOf.f k l) (con l : Int) ∧ Ev (fun k => impl_ConductorOf.f k l) (con l : Int) := by
 have hle := h.le
 obtain ⟨g, h1, h2, h3⟩ := frobBoth l (by omega)
 have hg : g = gaps l := by
  rcases h1 with ⟨_, e⟩ | ⟨n, _⟩
  ·exact e
  ·exact absurd h n
 rw [hg] at h2 h3
 have hb := last_bd l
 have e := con_eq l
 revert h2 h3 hb e
 generalize lastOf (gaps l) = x
 generalize con l = c
 intro h2 h3 hb e
 unfold spec_ConductorOf.f impl_ConductorOf.f
 refine ⟨Ev.bind h2 ?_, Ev.bind h3 ?_⟩
 ·rw [w64 (by omega) (by omega), e]; exact Ev.now _
 ·rw [w64 (by omega) (by omega), e]; exact Ev.now _
noncomputable def smUp (l : List Int) : Nat → List Int
 | 0 => []
 | n + 1 => open Classical in smUp l n ++ (if Sums l n then [(n : Int)] else [])
theorem smUp_yes {l : List Int} {n : Nat} (h : Sums l n) : smUp l (n + 1) = smUp l n ++ [(n : Int)] := by
 show (smUp l n ++ _) = _
 rw [if_pos h]
theorem smUp_no {l : List Int} {n : Nat} (h : ¬ Sums l n) : smUp l (n + 1) = smUp l n := by
 show (smUp l n ++ _) = _
 rw [if_neg h, List.append_nil]
theorem smUp_len (l : List Int) (n : Nat) : (smUp l n).length + cntS l n = n := by
 induction n with
 | zero => rfl
 | succ n ih =>
  unfold smUp cntS
  rw [List.length_append]
  by_cases h : Sums l n
  ·rw [if_pos h, if_pos h]; simp only [List.length_cons, List.length_nil]; omega
  ·rw [if_neg h, if_neg h]; simp only [List.length_nil]; omega
theorem sSmall_l0 (l : List Int) (c : Nat) (hc : c ≤ 200) (t : List Bool) (ht : t.length = c + 1) (htab : ∀ m : Nat, m ≤ c → (t.getD m false = true ↔ Sums l m)) : ∀ (d j : Nat), c - j = d → j ≤ c → Ev (fun k => spec_l4Small.l0 k (c : Int) (smUp l j) t (j : Int)) (smUp l c) := by
 intro d
 induction d with
 | zero =>
  intro j hd hj
  have : j = c := by omega
  subst this
  refine Ev.step (fun _ => spec_l4Small.l0.eq_2 ..) ?_
  exact Ev.neg (by omega) (Ev.now _)
 | succ d ih =>
  intro j hd hj
  have := ih (j + 1) (by omega) (by omega)
  have hg := smUp_len l j
  refine Ev.step (fun _ => spec_l4Small.l0.eq_2 ..) ?_
  refine Ev.pos (by omega) ?_
  refine Ev.pos (by omega) ?_
  refine Ev.pos (by omega) ?_
  rw [rdOf_nat, w64s (by omega)]
  by_cases c : Sums l j
  ·rw [smUp_yes c] at this
   exact Ev.pos ((htab j (by omega)).2 c) (Ev.pos (by omega) this)
  ·rw [smUp_no c] at this
   exact Ev.neg (fun k => c ((htab j (by omega)).1 k)) this
theorem iSmall_l0 (l : List Int) (c : Nat) (hc : c ≤ 200) (t : List Bool) (ht : t.length = 201) (htab : ∀ m : Nat, m ≤ 200 → (t.getD m false = true ↔ Sums l m)) : ∀ (d j : Nat), c - j = d → j ≤ c → Ev (fun k => impl_SmallElements.l0 k (smUp l j) t (c : Int) (j : Int)) (smUp l c) := by
 intro d
 induction d with
 | zero =>
  intro j hd hj
  have : j = c := by omega
  subst this
  refine Ev.step (fun _ => impl_SmallElements.l0.eq_2 ..) ?_
  exact Ev.neg (by omega) (Ev.now _)
 | succ d ih =>
  intro j hd hj
  have := ih (j + 1) (by omega) (by omega)
  have hg := smUp_len l j
  refine Ev.step (fun _ => impl_SmallElements.l0.eq_2 ..) ?_
  refine Ev.pos (by omega) ?_
  refine Ev.pos (by omega) ?_
  refine Ev.pos (by omega) ?_
  rw [rdOf_nat, w64s (by omega)]
  by_cases c : Sums l j
  ·rw [smUp_yes c] at this
   exact Ev.pos ((htab j (by omega)).2 c) (Ev.pos (by omega) this)
  ·rw [smUp_no c] at this
   exact Ev.neg (fun k => c ((htab j (by omega)).1 k)) this
theorem sSmall (l : List Int) (h : IsSG l) : Ev (fun k => spec_SmallElements.f k l) (smUp l (con l)) := by
 have hle := h.le
 have hc := con_le l
 unfold spec_SmallElements.f
 refine Ev.bind ((sIsSG l (by omega)).yes h) (Ev.pos rfl ?_)
 refine Ev.bind (conBoth l h).1 ?_
 refine Ev.bind (a := smUp l (con l)) ?_ (Ev.now _)
 unfold spec_l4Small.f
 refine Ev.call rfl ?_
 by_cases h0 : con l = 0
 ·rw [h0]; exact Ev.pos (by omega) (Ev.now _)
 ·refine Ev.neg (by omega) ?_
  obtain ⟨t, h1, h2, h3⟩ := l3Table l (by omega) (h.rng.mono (Int.le_refl _) (by omega)) (con l) (by omega)
  refine Ev.bind h1 ?_
  exact sSmall_l0 l (con l) hc t (by omega) h3 (con l) 0 (by omega) (by omega)
theorem iSmall (l : List Int) (h : IsSG l) : Ev (fun k => impl_SmallElements.f k l) (smUp l (con l)) := by
 have hle := h.le
 have hc := con_le l
 unfold impl_SmallElements.f
 refine Ev.bind ((iIsSG l (by omega)).yes h) (Ev.pos rfl ?_)
 obtain ⟨t, h1, h2, h3⟩ := iTable l h 200 (by omega)
 refine Ev.bind h1 ?_
 refine Ev.bind (conBoth l h).2 ?_
 exact iSmall_l0 l (con l) hc t (by omega) h3 (con l) 0 (by omega) (by omega)
theorem con_gap (l : List Int) : ∀ n : Nat, con l ≤ n → n < 200 → Sums l n := by
 intro n h1 h2
 refine Classical.byContradiction fun hn => ?_
 have hm : (n : Int) ∈ gaps l := (gapsUp_mem l 200 _).2 ⟨by omega, by omega, hn⟩
 have hasc := gapsUp_asc l 200
 have e := con_eq l
 unfold gaps at hm e
 revert hm hasc e
 generalize gapsUp l 200 = g
 intro hm hasc e
 obtain ⟨i, hi, hx⟩ := List.mem_iff_getElem.1 hm
 have hlast : (n : Int) ≤ lastOf g := by
  unfold lastOf
  rw [if_neg (by omega), getD_get (by omega), ← hx]
  by_cases hl : i = g.length - 1
  ·subst hl; omega
  ·exact Int.le_of_lt (List.pairwise_iff_getElem.1 hasc i (g.length - 1) hi (by omega) (by omega))
 omega
theorem cntS_from (l : List Int) (c : Nat) : ∀ n : Nat, c ≤ n → (∀ x : Nat, c ≤ x → x < n → Sums l x) → cntS l n = cntS l c := by
 intro n
 induction n with
 | zero =>
  intro h _
  have : c = 0 := by omega
  subst this
  rfl
 | succ n ih =>
  intro h hs
  by_cases hc : c = n + 1
  ·subst hc; rfl
  ·have := ih (by omega) fun x h1 h2 => hs x h1 (by omega)
   show cntS l n + _ = _
   rw [if_pos (hs n (by omega) (by omega)), this]; rfl
def below (c : Int) (l : List Int) : Nat := (l.filter fun g => decide (g < c)).length
end Go.Proofs.Ytddgegejeoihaaa.FFnArf
end
section
namespace Go.Proofs.Ytddgegejeoihaaa.FFnArf
open Go Go.RowKit Go.Proofs.YtddgegejeoihaaaW.PrintWords Go.Proofs.Ytddgegejeoihaaa.M Go.Proofs.Ytddgegejeoihaaa.PFnArf Go.Proofs.Ytddgegejeoihaaa.WM
attribute [local irreducible] con
theorem sSmallNo (l : List Int) (hl : l.length ≤ 1048576) (h : ¬ IsSG l) : Ev (fun k => spec_SmallElements.f k l) [] := by
 unfold spec_SmallElements.f
 exact Ev.bind ((sIsSG l hl).no h) (Ev.neg (by simp) (Ev.now _))
theorem iSmallNo (l : List Int) (hl : l.length ≤ 1048576) (h : ¬ IsSG l) : Ev (fun k => impl_SmallElements.f k l) [] := by
 unfold impl_SmallElements.f
 exact Ev.bind ((iIsSG l hl).no h) (Ev.neg (by simp) (Ev.now _))
noncomputable def small (l : List Int) : List Int := smUp l (con l)
theorem smUp_mem (l : List Int) (n : Nat) (x : Int) : x ∈ smUp l n ↔ 0 ≤ x ∧ x < n ∧ Sums l x := by
 induction n with
 | zero =>
  simp [smUp]
  intro h1 h2; omega
 | succ n ih =>
  unfold smUp
  rw [List.mem_append, ih]
  by_cases c : Sums l n
  ·rw [if_pos c, List.mem_singleton]
   constructor
   ·rintro (h | rfl)
    ·exact ⟨h.1, by omega, h.2.2⟩
    ·exact ⟨by omega, by omega, c⟩
   ·rintro ⟨h1, h2, h3⟩
    rcases Int.lt_or_le x n with k | k
    ·exact .inl ⟨h1, k, h3⟩
    ·exact .inr (by omega)
  ·rw [if_neg c]
   constructor
   ·rintro (h | h)
    ·exact ⟨h.1, by omega, h.2.2⟩
    ·simp at h
   ·rintro ⟨h1, h2, h3⟩
    refine .inl ⟨h1, ?_, h3⟩
    rcases Int.lt_or_le x n with k | k
    ·exact k
    ·exact absurd ((show x = (n : Int) by omega) ▸ h3) c
theorem small_len (l : List Int) : (small l).length ≤ 200 := by
 have := smUp_len l (con l)
 have := con_le l
 unfold small; omega
theorem small_mem {l : List Int} {x : Int} : x ∈ small l ↔ 0 ≤ x ∧ x < con l ∧ Sums l x := smUp_mem l (con l) x
theorem small_asc (l : List Int) (n : Nat) : (smUp l n).Pairwise (· < ·) := by
 induction n with
 | zero => simp [smUp]
 | succ n ih =>
  unfold smUp
  rw [List.pairwise_append]
  refine ⟨ih, ?_, fun a ha b hb => ?_⟩
  ·split <;> simp
  ·have := ((smUp_mem l n a).1 ha).2.1
   split at hb
   ·rw [List.mem_singleton] at hb; omega
   ·simp at hb
theorem small_le {l : List Int} {i j : Nat} (hij : i ≤ j) (hj : j < (small l).length) : (small l)[i] ≤ (small l)[j] := by
 rcases Nat.lt_or_ge i j with c | c
 ·exact Int.le_of_lt (List.pairwise_iff_getElem.1 (small_asc l (con l)) i j (Nat.lt_of_le_of_lt hij hj) hj c)
 ·have : i = j := by omega
  subst this; exact Int.le_refl _
theorem has_s (l : List Int) (h : IsSG l) (n : Int) (h0 : 0 ≤ n) : EvB (fun k => spec_l15Has.f k l n) (Sums l n) := by
 unfold spec_l15Has.f
 by_cases c : n = 0
 ·exact EvB.pos c (EvB.of_true (Ev.now _) (by rw [c]; exact .zero))
 ·obtain ⟨b, h1, h2⟩ := sHas l h n
  exact EvB.neg c (EvB.bind h1 ⟨b, Ev.now _, h2.trans ⟨fun k => k.2, fun k => ⟨h0, k⟩⟩⟩)
theorem has_i (l : List Int) (h : IsSG l) (t : List Bool) (ht : t.length = 201) (htab : ∀ m : Nat, m ≤ 200 → (t.getD m false = true ↔ Sums l m)) (n : Int) (h0 : 0 ≤ n) : ∃ b, impl_reach_in.f t n = some b ∧ (b = true ↔ Sums l n) := by
 refine ⟨inB t n, rfl, ?_⟩
 unfold inB
 rw [if_neg (by omega)]
 by_cases c : 200 ≤ n
 ·rw [if_pos c]; exact ⟨fun _ => h.ends n c, fun _ => rfl⟩
 ·rw [if_neg c, if_pos h0]
  obtain ⟨q, rfl⟩ := Int.eq_ofNat_of_zero_le h0
  rw [rdOf_nat]
  exact htab q (by omega)
def AQ (l : List Int) (r : Int × Int × Int × Bool) : Prop := (r.2.2.2 = true ∧ ∃ x y z, r = (x, y, z, true) ∧ x ∈ small l ∧ y ∈ small l ∧ z ∈ small l ∧ z ≤ y ∧ y ≤ x ∧ ¬ Sums l (x + y - z)) ∨
 (r = (0, 0, 0, false) ∧ ∀ x ∈ small l, ∀ y ∈ small l, ∀ z ∈ small l, z ≤ y → y ≤ x → Sums l (x + y - z))
def Ok (l : List Int) (i j k : Nat) : Prop := Sums l ((small l).getD i 0 + (small l).getD j 0 - (small l).getD k 0)
section
variable (l : List Int) (h : IsSG l) (t : List Bool) (ht : t.length = 201) (htab : ∀ m : Nat, m ≤ 200 → (t.getD m false = true ↔ Sums l m))
include h ht htab
theorem fail_l2 (i j : Nat) (hi : i < (small l).length) (hj : j ≤ i)
 (next : (∀ k, k ≤ j → Ok l i j k) → ∃ r, Ev (fun k => spec_ArfFailure.l1 k (small l) (i : Int) ((j + 1 : Nat) : Int) l) r ∧ Ev (fun k => impl_ArfFailure.l1 k (small l) t (rd (small l) i) ((small l).length : Int) (i : Int) ((small l).take (i + 1)) (((small l).take (i + 1)).length : Int) ((j + 1 : Nat) : Int)) r ∧ AQ l r) :
 ∀ (d m : Nat), j + 1 - m = d → m ≤ j + 1 → (∀ k, k < m → Ok l i j k) → ∃ r, Ev (fun k => spec_ArfFailure.l2 k (small l) (i : Int) (j : Int) (m : Int) l) r ∧
  Ev (fun k => impl_ArfFailure.l2 k (small l) t (rd (small l) i) (rd ((small l).take (i + 1)) j) ((small l).length : Int) (i : Int) ((small l).take (i + 1)) (((small l).take (i + 1)).length : Int) (j : Int) ((small l).take (j + 1)) (((small l).take (j + 1)).length : Int) (m : Int)) r ∧ AQ l r := by
 have hlen := small_len l
 have l1 : ((small l).take (i + 1)).length = i + 1 := by rw [List.length_take]; omega
 have l2 : ((small l).take (j + 1)).length = j + 1 := by rw [List.length_take]; omega
 have hjl : j < (small l).length := by omega
 have ei : rd (small l) (i : Int) = (small l)[i] := rd_get hi
 have ej : rd (small l) (j : Int) = (small l)[j] := rd_get hjl
 have ej2 : rd ((small l).take (i + 1)) (j : Int) = (small l)[j] := by rw [rd_get (by omega), List.getElem_take]
 have mi := small_mem.1 (List.getElem_mem hi)
 have mj := small_mem.1 (List.getElem_mem hjl)
 have hc := con_le l
 intro d
 induction d with
 | zero =>
  intro m hd hm hok
  obtain ⟨r, a, b, c⟩ := next fun k hk => hok k (by omega)
  refine ⟨r, Ev.step (fun _ => spec_ArfFailure.l2.eq_2 ..) (Ev.neg (by omega) ?_), Ev.step (fun _ => impl_ArfFailure.l2.eq_2 ..) (Ev.neg (by omega) ?_), c⟩
  ·rw [w64s (by omega)]; exact a
  ·rw [w64s (by omega)]; exact b
 | succ d ih =>
  intro m hd hm hok
  have hmj : m ≤ j := by omega
  have hml : m < (small l).length := by omega
  have em : rd (small l) (m : Int) = (small l)[m] := rd_get hml
  have em2 : rd ((small l).take (j + 1)) (m : Int) = (small l)[m] := by rw [rd_get (by omega), List.getElem_take]
  have mm := small_mem.1 (List.getElem_mem hml)
  have le1 := small_le (l := l) hmj hjl
  have le2 := small_le (l := l) hj hi
  have e : wrap64 (wrap64 ((small l)[i] + (small l)[j]) - (small l)[m]) = (small l)[i] + (small l)[j] - (small l)[m] := by
   rw [w64 (x := (small l)[i] + (small l)[j]) (by omega) (by omega), w64 (by omega) (by omega)]
  obtain ⟨b, hb1, hb2⟩ := has_s l h ((small l)[i] + (small l)[j] - (small l)[m]) (by omega)
  obtain ⟨b', hb1', hb2'⟩ := has_i l h t ht htab ((small l)[i] + (small l)[j] - (small l)[m]) (by omega)
  have : b' = b := by rw [Bool.eq_iff_iff, hb2, hb2']
  subst this
  have ok_iff : Ok l i j m ↔ Sums l ((small l)[i] + (small l)[j] - (small l)[m]) := by unfold Ok; rw [getD_get hi, getD_get hjl, getD_get hml]
  by_cases c : Sums l ((small l)[i] + (small l)[j] - (small l)[m])
  ·obtain ⟨r, r1, r2, r3⟩ := ih (m + 1) (by omega) (by omega) fun k hk => by
    by_cases e : k = m
    ·subst e; exact ok_iff.2 c
    ·exact hok k (by omega)
   refine ⟨r, ?_, ?_, r3⟩
   ·refine Ev.step (fun _ => spec_ArfFailure.l2.eq_2 ..) (Ev.pos (by omega) (Ev.pos (by omega) (Ev.pos (by omega) (Ev.pos (by omega) (Ev.pos (by omega) (Ev.pos (by omega) (Ev.pos (by omega) ?_)))))))
    rw [ei, ej, em, e, w64s (by omega)]
    exact Ev.bind hb1 (Ev.pos (hb2'.2 c) r1)
   ·refine Ev.step (fun _ => impl_ArfFailure.l2.eq_2 ..) (Ev.pos (by omega) (Ev.pos (by omega) (Ev.pos (by omega) ?_)))
    rw [em2, w64s (by omega)]
    rw [ei, ej2] at r2 ⊢
    rw [e]
    exact Ev.call hb1' (Ev.pos (hb2'.2 c) r2)
  ·refine ⟨((small l)[i], (small l)[j], (small l)[m], true), ?_, ?_, .inl ⟨rfl, _, _, _, rfl, List.getElem_mem hi, List.getElem_mem hjl, List.getElem_mem hml, le1, le2, c⟩⟩
   ·refine Ev.step (fun _ => spec_ArfFailure.l2.eq_2 ..) (Ev.pos (by omega) (Ev.pos (by omega) (Ev.pos (by omega) (Ev.pos (by omega) (Ev.pos (by omega) (Ev.pos (by omega) (Ev.pos (by omega) ?_)))))))
    rw [ei, ej, em, e]
    exact Ev.bind hb1 (Ev.neg (fun k => c (hb2'.1 k)) (Ev.now _))
   ·refine Ev.step (fun _ => impl_ArfFailure.l2.eq_2 ..) (Ev.pos (by omega) (Ev.pos (by omega) (Ev.pos (by omega) ?_)))
    rw [em2, ei, ej2, e]
    exact Ev.call hb1' (Ev.neg (fun k => c (hb2'.1 k)) (Ev.now _))
theorem fail_l1 (i : Nat) (hi : i < (small l).length)
 (next : (∀ j k, j ≤ i → k ≤ j → Ok l i j k) → ∃ r, Ev (fun k => spec_ArfFailure.l0 k (small l) ((i + 1 : Nat) : Int) l) r ∧ Ev (fun k => impl_ArfFailure.l0 k (small l) t ((small l).length : Int) ((i + 1 : Nat) : Int)) r ∧ AQ l r) :
 ∀ (d m : Nat), i + 1 - m = d → m ≤ i + 1 → (∀ j k, j < m → k ≤ j → Ok l i j k) → ∃ r, Ev (fun k => spec_ArfFailure.l1 k (small l) (i : Int) (m : Int) l) r ∧
  Ev (fun k => impl_ArfFailure.l1 k (small l) t (rd (small l) i) ((small l).length : Int) (i : Int) ((small l).take (i + 1)) (((small l).take (i + 1)).length : Int) (m : Int)) r ∧ AQ l r := by
 have hlen := small_len l
 have l1 : ((small l).take (i + 1)).length = i + 1 := by rw [List.length_take]; omega
 intro d
 induction d with
 | zero =>
  intro m hd hm hok
  obtain ⟨r, a, b, c⟩ := next fun j k hj hk => hok j k (by omega) hk
  refine ⟨r, Ev.step (fun _ => spec_ArfFailure.l1.eq_2 ..) (Ev.neg (by omega) ?_), Ev.step (fun _ => impl_ArfFailure.l1.eq_2 ..) (Ev.neg (by omega) ?_), c⟩
  ·rw [w64s (by omega)]; exact a
  ·rw [w64s (by omega)]; exact b
 | succ d ih =>
  intro m hd hm hok
  obtain ⟨r, a, b, c⟩ := fail_l2 l h t ht htab i m hi (by omega) (fun hk => ih (m + 1) (by omega) (by omega) fun j k hj hkj => by
   by_cases e : j = m
   ·subst e; exact hk k hkj
   ·exact hok j k (by omega) hkj) (m + 1) 0 (by omega) (by omega) (fun k hk => by omega)
  refine ⟨r, Ev.step (fun _ => spec_ArfFailure.l1.eq_2 ..) (Ev.pos (by omega) a), Ev.step (fun _ => impl_ArfFailure.l1.eq_2 ..) (Ev.pos (by omega) (Ev.pos (by omega) (Ev.pos (by omega) ?_))), c⟩
  rw [w64s (by omega), Int.toNat_natCast]
  exact Ev.pos (by omega) (Ev.pos (by omega) (Ev.call rfl b))
theorem fail_l0 : ∀ (d m : Nat), (small l).length - m = d → m ≤ (small l).length → (∀ i j k, i < m → j ≤ i → k ≤ j → Ok l i j k) → ∃ r, Ev (fun k => spec_ArfFailure.l0 k (small l) (m : Int) l) r ∧
 Ev (fun k => impl_ArfFailure.l0 k (small l) t ((small l).length : Int) (m : Int)) r ∧ AQ l r := by
 have hlen := small_len l
 intro d
 induction d with
 | zero =>
  intro m hd hm hok
  refine ⟨(0, 0, 0, false), Ev.step (fun _ => spec_ArfFailure.l0.eq_2 ..) (Ev.neg (by omega) (Ev.now _)), Ev.step (fun _ => impl_ArfFailure.l0.eq_2 ..) (Ev.neg (by omega) (Ev.now _)), .inr ⟨rfl, fun x hx y hy z hz h1 h2 => ?_⟩⟩
  obtain ⟨i, hi, rfl⟩ := List.getElem_of_mem hx
  obtain ⟨j, hj, rfl⟩ := List.getElem_of_mem hy
  obtain ⟨k, hk, rfl⟩ := List.getElem_of_mem hz
  have idx : ∀ a b : Nat, (ha : a < (small l).length) → (hb : b < (small l).length) → (small l)[a] ≤ (small l)[b] → a ≤ b := by
   intro a b ha hb hle
   rcases Nat.lt_or_ge b a with c | c
   ·have := List.pairwise_iff_getElem.1 (small_asc l (con l)) b a hb ha c
    have : (small l)[b] < (small l)[a] := this
    omega
   ·exact c
  have := hok i j k (by omega) (idx j i hj hi h2) (idx k j hk hj h1)
  unfold Ok at this
  rwa [getD_get hi, getD_get hj, getD_get hk] at this
 | succ d ih =>
  intro m hd hm hok
  have hlt : m < (small l).length := by omega
  obtain ⟨r, a, b, c⟩ := fail_l1 l h t ht htab m hlt (fun hk => ih (m + 1) (by omega) (by omega) fun i j k hi hj hkj => by
   by_cases e : i = m
   ·subst e; exact hk j k hj hkj
   ·exact hok i j k (by omega) hj hkj) (m + 1) 0 (by omega) (by omega) (fun j k hj => by omega)
  refine ⟨r, Ev.step (fun _ => spec_ArfFailure.l0.eq_2 ..) (Ev.pos (by omega) a), Ev.step (fun _ => impl_ArfFailure.l0.eq_2 ..) (Ev.pos (by omega) (Ev.pos (by omega) (Ev.pos (by omega) ?_))), c⟩
  rw [w64s (by omega), Int.toNat_natCast]
  exact Ev.pos (by omega) (Ev.pos (by omega) (Ev.call rfl b))
end
theorem failNo (l : List Int) (hl : l.length ≤ 1048576) (h : ¬ IsSG l) : Ev (fun k => spec_ArfFailure.f k l) (0, 0, 0, false) ∧ Ev (fun k => impl_ArfFailure.f k l) (0, 0, 0, false) := by
 unfold spec_ArfFailure.f impl_ArfFailure.f impl_reach.f
 refine ⟨Ev.bind (sSmallNo l hl h) (Ev.step (fun _ => spec_ArfFailure.l0.eq_2 ..) (Ev.neg (by simp) (Ev.now _))), Ev.bind (iSmallNo l hl h) (Ev.bind (a := []) ?_ (Ev.step (fun _ => impl_ArfFailure.l0.eq_2 ..) (Ev.neg (by simp) (Ev.now _))))⟩
 exact Ev.bind ((iIsSG l hl).no h) (Ev.neg (by simp) (Ev.now _))
theorem failBoth (l : List Int) (h : IsSG l) : ∃ r, Ev (fun k => spec_ArfFailure.f k l) r ∧ Ev (fun k => impl_ArfFailure.f k l) r ∧ AQ l r := by
 have hle := h.le
 obtain ⟨t, t1, t2, t3⟩ := iTable l h 200 (by omega)
 obtain ⟨r, a, b, c⟩ := fail_l0 l h t (by omega) t3 (small l).length 0 (by omega) (by omega) (fun i j k hi => by omega)
 refine ⟨r, ?_, ?_, c⟩
 ·unfold spec_ArfFailure.f
  exact Ev.bind (sSmall l h) a
 ·unfold impl_ArfFailure.f impl_reach.f
  refine Ev.bind (iSmall l h) (Ev.bind (a := t) (Ev.bind ((iIsSG l (by omega)).yes h) (Ev.pos rfl (Ev.bind t1 (Ev.pos (by omega) (Ev.now _))))) b)
def ArfP (l : List Int) : Prop := ∀ x y z : Int, Sums l x → Sums l y → Sums l z → z ≤ y → y ≤ x → Sums l (x + y - z)
theorem sums_from {l : List Int} (h : IsSG l) {n : Int} (hn : (con l : Int) ≤ n) : Sums l n := by
 by_cases c : 200 ≤ n
 ·exact h.ends n c
 ·obtain ⟨q, rfl⟩ : ∃ q : Nat, n = (q : Int) := ⟨n.toNat, by omega⟩
  exact con_gap l q (by omega) (by omega)
theorem arf_iff {l : List Int} (h : IsSG l) : ArfP l ↔ ∀ x ∈ small l, ∀ y ∈ small l, ∀ z ∈ small l, z ≤ y → y ≤ x → Sums l (x + y - z) := by
 constructor
 ·intro k x hx y hy z hz h1 h2
  exact k x y z (small_mem.1 hx).2.2 (small_mem.1 hy).2.2 (small_mem.1 hz).2.2 h1 h2
 ·intro k x y z hx hy hz h1 h2
  have pos : ∀ x ∈ l, 1 ≤ x := fun x hx => (h.rng x hx).1
  have := hz.nonneg pos
  by_cases c : (con l : Int) ≤ x + y - z
  ·exact sums_from h c
  ·exact k x (small_mem.2 ⟨by omega, by omega, hx⟩) y (small_mem.2 ⟨by omega, by omega, hy⟩) z (small_mem.2 ⟨by omega, by omega, hz⟩) h1 h2
theorem AQ.flag {l : List Int} (h : IsSG l) {r : Int × Int × Int × Bool} (hr : AQ l r) : r.2.2.2 = false ↔ ArfP l := by
 rw [arf_iff h]
 rcases hr with ⟨e, x, y, z, _, hx, hy, hz, h1, h2, hn⟩ | ⟨e, k⟩
 ·rw [e]
  exact ⟨fun k => by simp at k, fun k => absurd (k x hx y hy z hz h1 h2) hn⟩
 ·rw [e]; exact ⟨fun _ => k, fun _ => rfl⟩
theorem arfBoth (l : List Int) (hl : l.length ≤ 1048576) : EvB (fun k => spec_IsArf.f k l) (IsSG l ∧ ArfP l) ∧ EvB (fun k => impl_IsArf.f k l) (IsSG l ∧ ArfP l) := by
 unfold spec_IsArf.f impl_IsArf.f
 by_cases h : IsSG l
 ·obtain ⟨⟨x, y, z, b⟩, s, i, q⟩ := failBoth l h
  have hf := q.flag h
  simp only at hf
  have e : (!b) = true ↔ IsSG l ∧ ArfP l := by
   rw [← hf]; cases b <;> simp [h]
  exact ⟨EvB.bind s (EvB.bind ((sIsSG l hl).yes h) (EvB.pos rfl ⟨!b, Ev.now _, e⟩)), EvB.bind i (EvB.bind ((iIsSG l hl).yes h) (EvB.pos rfl ⟨!b, Ev.now _, e⟩))⟩
 ·obtain ⟨s, i⟩ := failNo l hl h
  exact ⟨EvB.bind s (EvB.bind ((sIsSG l hl).no h) (EvB.neg (by simp) (EvB.of_false (Ev.now _) fun k => h k.1))), EvB.bind i (EvB.bind ((iIsSG l hl).no h) (EvB.neg (by simp) (EvB.of_false (Ev.now _) fun k => h k.1)))⟩
end Go.Proofs.Ytddgegejeoihaaa.FFnArf
end
section
namespace Go.Proofs.Ytddgegejeoihaaa.FFnArf
open Go Go.RowKit Go.Proofs.YtddgegejeoihaaaW.PrintWords Go.Proofs.Ytddgegejeoihaaa.M Go.Proofs.Ytddgegejeoihaaa.PFnArf
def GapL (l : List Int) : Prop := InR 1 199 l ∧ l.Pairwise (· < ·)
theorem asc_len {l : List Int} {lo hi : Int} (h : l.Pairwise (· < ·)) (hr : InR lo hi l) (hlh : lo ≤ hi + 1) : (l.length : Int) ≤ hi + 1 - lo := by
 induction l generalizing lo with
 | nil => simp; omega
 | cons x t ih =>
  obtain ⟨h1, h2⟩ := List.pairwise_cons.1 h
  have hx := hr x List.mem_cons_self
  have := ih (lo := x + 1) h2 (fun y hy => ⟨by have := h1 y hy; omega, (hr y (List.mem_cons_of_mem _ hy)).2⟩) (by omega)
  rw [List.length_cons]; omega
theorem GapL.len {l : List Int} (h : GapL l) : l.length ≤ 199 := by have := asc_len h.2 h.1 (by omega); omega
theorem sGapL_l0 (l : List Int) (hl : l.length ≤ 4611686018427387904) : ∀ (d j : Nat), l.length - j = d → j ≤ l.length → EvB (fun k => spec_l8Gaps.l0 k l (j : Int)) (InR 1 199 (l.drop j) ∧ l.Pairwise (· < ·)) := by
 intro d
 induction d with
 | zero =>
  intro j hd hj
  refine EvB.step (fun _ => spec_l8Gaps.l0.eq_2 ..) ?_
  refine EvB.neg (by omega) ?_
  obtain ⟨b, h1, h2⟩ := sAsc l hl
  refine EvB.bind h1 ⟨b, Ev.now _, h2.trans ?_⟩
  rw [List.drop_of_length_le (by omega)]
  exact ⟨fun h => ⟨InR_nil _ _, h⟩, fun h => h.2⟩
 | succ d ih =>
  intro j hd hj
  have hlt : j < l.length := by omega
  refine EvB.step (fun _ => spec_l8Gaps.l0.eq_2 ..) ?_
  refine EvB.pos (by omega) ?_
  refine EvB.pos (by omega) ?_
  refine EvB.call (l1In _ _ _) ?_
  rw [rd_get hlt, InR_drop hlt]
  by_cases h : 1 ≤ l[j] ∧ l[j] ≤ 199
  ·refine EvB.pos (by simpa using h) ?_
   rw [w64s (by omega)]
   exact (ih (j + 1) (by omega) (by omega)).iff ⟨fun k => ⟨⟨h, k.1⟩, k.2⟩, fun k => ⟨k.1.2, k.2⟩⟩
  ·refine EvB.neg (by simpa using h) ?_
   exact EvB.of_false (Ev.now _) fun k => h k.1.1
theorem sGapL (l : List Int) (hl : l.length ≤ 4611686018427387904) : EvB (fun k => spec_l8Gaps.f k l) (GapL l) := sGapL_l0 l hl l.length 0 (by omega) (by omega)
theorem iGapL (l : List Int) (hl : l.length ≤ 4611686018427387904) : EvB (fun k => impl_gapList.f k l) (GapL l) := by
 unfold impl_gapList.f
 by_cases h : l.Pairwise (· < ·)
 ·refine EvB.bind ((iAsc l hl).yes h) (EvB.pos rfl ?_)
  obtain ⟨b, h1, h2⟩ := allWithin 1 199 l hl
  exact EvB.bind h1 ⟨b, Ev.now _, h2.trans ⟨fun k => ⟨k, h⟩, fun k => k.1⟩⟩
 ·exact EvB.bind ((iAsc l hl).no h) (EvB.neg (by simp) (EvB.of_false (Ev.now _) fun k => h k.2))
def GapT (l : List Int) (t : List Bool) : Prop := ∀ m : Nat, m < t.length → (t.getD m false = true ↔ (m : Int) ∈ l)
def GapTo (l : List Int) (j : Nat) (t : List Bool) : Prop := ∀ m : Nat, m < t.length → (t.getD m false = true ↔ (m : Int) ∈ l.take j)
theorem GapTo.zero (l : List Int) (n : Nat) : GapTo l 0 (List.replicate n false) := by
 intro m hm
 rw [List.length_replicate] at hm
 rw [List.getD_eq_getElem?_getD, List.getElem?_replicate, if_pos hm]
 simp
theorem GapTo.set {l : List Int} {j : Nat} {t : List Bool} (h : GapTo l j t) (hj : j < l.length) {q : Nat} (hq : l[j] = (q : Int)) (hlt : q < t.length) : GapTo l (j + 1) (t.set q true) := by
 intro m hm
 rw [List.length_set] at hm
 rw [getD_set _ _ _ _ _ hlt, take_snoc' hj, List.mem_append, List.mem_singleton, hq]
 by_cases e : m = q
 ·subst e; simp
 ·rw [if_neg e, h m hm]
  constructor
  ·exact .inl
  ·rintro (k | k)
   ·exact k
   ·exact absurd (by omega) e
theorem GapTo.full {l : List Int} {t : List Bool} (h : GapTo l l.length t) : GapT l t := by
 intro m hm
 have := h m hm
 rwa [List.take_of_length_le (Nat.le_refl _)] at this
def Cl (l : List Int) (top a : Int) : Prop := ∃ x y : Int, a ≤ x ∧ x ≤ y ∧ x + y ≤ top ∧ x ∉ l ∧ y ∉ l ∧ x + y ∈ l
def Cl2 (l : List Int) (top a b : Int) : Prop := ∃ y : Int, b ≤ y ∧ a + y ≤ top ∧ a ∉ l ∧ y ∉ l ∧ a + y ∈ l
theorem Cl.split {l : List Int} {top a : Int} : Cl l top a ↔ Cl2 l top a a ∨ Cl l top (a + 1) := by
 constructor
 ·rintro ⟨x, y, h1, h2, h3, h4⟩
  by_cases e : x = a
  ·subst e; exact .inl ⟨y, h2, h3, h4⟩
  ·exact .inr ⟨x, y, by omega, h2, h3, h4⟩
 ·rintro (⟨y, h1, h2, h3⟩ | ⟨x, y, h1, h2, h3, h4⟩)
  ·exact ⟨a, y, by omega, h1, h2, h3⟩
  ·exact ⟨x, y, by omega, h2, h3, h4⟩
theorem Cl2.split {l : List Int} {top a b : Int} (hb : a + b ≤ top) : Cl2 l top a b ↔ (a ∉ l ∧ b ∉ l ∧ a + b ∈ l) ∨ Cl2 l top a (b + 1) := by
 constructor
 ·rintro ⟨y, h1, h2, h3⟩
  by_cases e : y = b
  ·subst e; exact .inl h3
  ·exact .inr ⟨y, by omega, h2, h3⟩
 ·rintro (h | ⟨y, h1, h2, h3⟩)
  ·exact ⟨b, by omega, hb, h⟩
  ·exact ⟨y, by omega, h2, h3⟩
theorem Cl2.none {l : List Int} {top a b : Int} (h : top < a + b) : ¬ Cl2 l top a b := by rintro ⟨y, h1, h2, _⟩; omega
theorem Cl2.gap {l : List Int} {top a b : Int} (h : a ∈ l) : ¬ Cl2 l top a b := by rintro ⟨y, _, _, h3, _⟩; exact h3 h
def EvC (g : Nat → Option (Int × Int × Bool)) (P : Prop) : Prop := ∃ r : Int × Int × Bool, Ev g r ∧ (r.2.2 = true ↔ P)
theorem EvC.iff {g : Nat → Option (Int × Int × Bool)} {P Q : Prop} (h : EvC g P) (k : P ↔ Q) : EvC g Q := by
 obtain ⟨r, h1, h2⟩ := h; exact ⟨r, h1, h2.trans k⟩
theorem EvC.step {g f : Nat → Option (Int × Int × Bool)} {P : Prop} (h : ∀ k, g (k + 1) = f k) (k : EvC f P) : EvC g P := by
 obtain ⟨r, h1, h2⟩ := k; exact ⟨r, Ev.step h h1, h2⟩
theorem EvC.pos {c : Prop} [Decidable c] {A B : Nat → Option (Int × Int × Bool)} {P : Prop} (h : c) (k : EvC A P) : EvC (fun n => if c then A n else B n) P := by
 obtain ⟨r, h1, h2⟩ := k; exact ⟨r, Ev.pos h h1, h2⟩
theorem EvC.neg {c : Prop} [Decidable c] {A B : Nat → Option (Int × Int × Bool)} {P : Prop} (h : ¬ c) (k : EvC B P) : EvC (fun n => if c then A n else B n) P := by
 obtain ⟨r, h1, h2⟩ := k; exact ⟨r, Ev.neg h h1, h2⟩
theorem EvC.bind {α : Type} {g : Nat → Option α} {f : Nat → α → Option (Int × Int × Bool)} {a : α} {P : Prop} (h : Ev g a) (k : EvC (fun n => f n a) P) : EvC (fun n => (g n).bind (f n)) P := by
 obtain ⟨r, h1, h2⟩ := k; exact ⟨r, Ev.bind h h1, h2⟩
theorem iClash_l2 (l : List Int) (t : List Bool) (ht : t.length = 201) (hT : GapT l t) (top a : Nat) (htop : top ≤ 199) (ha : 1 ≤ a) (hat : a ≤ top) (hnext : EvC (fun k => impl_GapClash.l1 k t (top : Int) ((a + 1 : Nat) : Int)) (Cl l top ((a + 1 : Nat) : Int))) : ∀ (d b : Nat), top + 1 - b = d → a ≤ b → b ≤ top + 1 → EvC (fun k => impl_GapClash.l2 k t (top : Int) (a : Int) (b : Int)) (Cl2 l top a b ∨ Cl l top ((a : Int) + 1)) := by
 have hn2 : Cl l top ((a + 1 : Nat) : Int) ↔ Cl l top ((a : Int) + 1) := by rw [show ((a + 1 : Nat) : Int) = (a : Int) + 1 by omega]
 intro d
 induction d with
 | zero =>
  intro b hd hb hb2
  refine EvC.step (fun _ => impl_GapClash.l2.eq_2 ..) ?_
  rw [w64 (x := (a : Int) + b) (by omega) (by omega), w64s (j := a) (by omega)]
  refine EvC.neg (by omega) (hnext.iff ?_)
  rw [hn2]
  exact ⟨.inr, fun h => h.elim (fun k => absurd k (Cl2.none (by omega))) id⟩
 | succ d ih =>
  intro b hd hb hb2
  refine EvC.step (fun _ => impl_GapClash.l2.eq_2 ..) ?_
  rw [w64 (x := (a : Int) + b) (by omega) (by omega), w64s (j := a) (by omega), w64s (j := b) (by omega)]
  by_cases c : (a : Int) + b ≤ top
  ·refine EvC.pos c ?_
   refine EvC.pos (by omega) ?_
   refine EvC.pos (by omega) ?_
   have ihb := ih (b + 1) (by omega) (by omega) (by omega)
   have e1 : ((b + 1 : Nat) : Int) = (b : Int) + 1 := by omega
   have hTa := hT a (by omega)
   have hTb := hT b (by omega)
   obtain ⟨q, hq⟩ : ∃ q : Nat, (a : Int) + b = (q : Int) := ⟨a + b, by omega⟩
   have hTq := hT q (by omega)
   rw [rdOf_nat, rdOf_nat, hq, rdOf_nat]
   have sp := Cl2.split (l := l) c
   rw [hq] at sp
   by_cases ca : t.getD a false = true
   ·refine EvC.pos ca (ihb.iff ?_)
    rw [e1]
    constructor
    ·rintro (h | h)
     ·exact absurd h (Cl2.gap (hTa.1 ca))
     ·exact .inr h
    ·rintro (h | h)
     ·exact absurd h (Cl2.gap (hTa.1 ca))
     ·exact .inr h
   ·refine EvC.neg ca ?_
    refine EvC.pos (by omega) ?_
    refine EvC.pos (by omega) ?_
    by_cases cb : t.getD b false = true
    ·refine EvC.pos cb (ihb.iff ?_)
     rw [e1, sp]
     exact ⟨fun h => h.elim (fun k => .inl (.inr k)) .inr, fun h => h.elim (fun k => k.elim (fun k => absurd (hTb.1 cb) k.2.1) .inl) .inr⟩
    ·refine EvC.neg cb ?_
     refine EvC.pos (by omega) ?_
     refine EvC.pos (by omega) ?_
     by_cases cq : t.getD q false = true
     ·refine EvC.pos cq ⟨_, Ev.now _, ?_⟩
      rw [sp]
      exact ⟨fun _ => .inl (.inl ⟨fun k => ca (hTa.2 k), fun k => cb (hTb.2 k), hTq.1 cq⟩), fun _ => rfl⟩
     ·refine EvC.neg cq (ihb.iff ?_)
      rw [e1, sp]
      exact ⟨fun h => h.elim (fun k => .inl (.inr k)) .inr, fun h => h.elim (fun k => k.elim (fun k => absurd (hTq.2 k.2.2) cq) .inl) .inr⟩
  ·refine EvC.neg c (hnext.iff ?_)
   rw [hn2]
   exact ⟨.inr, fun h => h.elim (fun k => absurd k (Cl2.none (by omega))) id⟩
theorem iClash_l1 (l : List Int) (t : List Bool) (ht : t.length = 201) (hT : GapT l t) (top : Nat) (htop : top ≤ 199) : ∀ (d a : Nat), top + 1 - a = d → 1 ≤ a → a ≤ top + 1 → EvC (fun k => impl_GapClash.l1 k t (top : Int) (a : Int)) (Cl l top a) := by
 intro d
 induction d with
 | zero =>
  intro a hd ha ha2
  refine EvC.step (fun _ => impl_GapClash.l1.eq_2 ..) ?_
  refine EvC.neg (by omega) ⟨_, Ev.now _, ?_⟩
  exact ⟨fun h => by simp at h, fun ⟨x, y, h1, h2, h3, _⟩ => by omega⟩
 | succ d ih =>
  intro a hd ha ha2
  refine EvC.step (fun _ => impl_GapClash.l1.eq_2 ..) ?_
  refine EvC.pos (by omega) ?_
  exact (iClash_l2 l t ht hT top a htop ha (by omega) (ih (a + 1) (by omega) (by omega) (by omega)) (top + 1 - a) a rfl (by omega) (by omega)).iff Cl.split.symm
theorem iClash_l0 (l : List Int) (h : GapL l) (top : Nat) (htop : (top : Int) = rd l ((l.length : Int) - 1)) (hpos : 0 < l.length) (ht199 : top ≤ 199) : ∀ (d j : Nat) (t : List Bool), l.length - j = d → j ≤ l.length → t.length = 201 → GapTo l j t → EvC (fun k => impl_GapClash.l0 k l t l (l.length : Int) (j : Int)) (Cl l top 1) := by
 have hlen := h.len
 intro d
 induction d with
 | zero =>
  intro j t hd hj ht hT
  have : j = l.length := by omega
  subst this
  refine EvC.step (fun _ => impl_GapClash.l0.eq_2 ..) ?_
  refine EvC.neg (by omega) ?_
  rw [w64 (x := (l.length : Int) - 1) (by omega) (by omega), ← htop]
  refine EvC.pos (by omega) ?_
  refine EvC.pos (by omega) ?_
  exact iClash_l1 l t ht hT.full top ht199 top 1 (by omega) (by omega) (by omega)
 | succ d ih =>
  intro j t hd hj ht hT
  have hlt : j < l.length := by omega
  have hx := h.1 _ (List.getElem_mem hlt)
  obtain ⟨q, hq⟩ : ∃ q : Nat, l[j] = (q : Int) := ⟨l[j].toNat, by omega⟩
  refine EvC.step (fun _ => impl_GapClash.l0.eq_2 ..) ?_
  refine EvC.pos (by omega) ?_
  refine EvC.pos (by omega) ?_
  refine EvC.pos (by omega) ?_
  rw [rd_get hlt, hq, w64s (by omega), Int.toNat_natCast]
  refine EvC.pos (by omega) ?_
  refine EvC.pos (by omega) ?_
  exact ih (j + 1) _ (by omega) (by omega) (by simpa using ht) (hT.set hlt hq (by omega))
def Clash (l : List Int) : Prop := ∃ x y : Int, 1 ≤ x ∧ 1 ≤ y ∧ x ∉ l ∧ y ∉ l ∧ x + y ∈ l
theorem last_ge {l : List Int} (h : l.Pairwise (· < ·)) {x : Int} (hx : x ∈ l) : x ≤ rd l ((l.length : Int) - 1) := by
 obtain ⟨i, hi, rfl⟩ := List.getElem_of_mem hx
 rw [show (l.length : Int) - 1 = ((l.length - 1 : Nat) : Int) by omega, rd_get (by omega)]
 rcases Nat.lt_or_ge i (l.length - 1) with k | k
 ·exact Int.le_of_lt (List.pairwise_iff_getElem.1 h i (l.length - 1) hi (by omega) k)
 ·have : i = l.length - 1 := by omega
  subst this; exact Int.le_refl _
theorem Cl_iff {l : List Int} (h : GapL l) (top : Int) (ht : top = rd l ((l.length : Int) - 1)) : Cl l top 1 ↔ Clash l := by
 constructor
 ·rintro ⟨x, y, h1, h2, _, h3, h4, h5⟩
  exact ⟨x, y, h1, by omega, h3, h4, h5⟩
 ·rintro ⟨x, y, h1, h2, h3, h4, h5⟩
  have := last_ge h.2 h5
  rcases Int.le_total x y with k | k
  ·exact ⟨x, y, h1, k, by omega, h3, h4, h5⟩
  ·exact ⟨y, x, h2, k, by omega, h4, h3, by rwa [Int.add_comm] at h5⟩
theorem iClash (l : List Int) (hl : l.length ≤ 1048576) : EvC (fun k => impl_GapClash.f k l) (GapL l ∧ Clash l) := by
 have no : ∀ P : Prop, ¬ P → EvC (fun k => impl_GapClash.j0 k l true) P := fun P hP => EvC.step (fun _ => impl_GapClash.j0.eq_2 ..) (EvC.pos rfl ⟨_, Ev.now _, ⟨fun h => by simp at h, fun h => absurd h hP⟩⟩)
 unfold impl_GapClash.f
 by_cases h : GapL l
 ·refine EvC.bind ((iGapL l (by omega)).yes h) (EvC.pos rfl ?_)
  by_cases c : l.length = 0
  ·rw [show ((l.length : Int) == 0) = true by rw [c]; rfl]
   refine no _ fun k => ?_
   obtain ⟨_, x, y, _, _, _, _, hm⟩ := k
   rw [List.length_eq_zero_iff.1 c] at hm
   simp at hm
  ·rw [show ((l.length : Int) == 0) = false by rw [beq_eq_false_iff_ne]; omega]
   refine EvC.step (fun _ => impl_GapClash.j0.eq_2 ..) ?_
   refine EvC.neg (by simp) ?_
   refine EvC.pos (by omega) ?_
   have hlm : rd l ((l.length : Int) - 1) ∈ l := by
    rw [show (l.length : Int) - 1 = ((l.length - 1 : Nat) : Int) by omega]
    exact rd_mem (by omega)
   have hb := h.1 _ hlm
   obtain ⟨top, htop⟩ : ∃ top : Nat, (top : Int) = rd l ((l.length : Int) - 1) := ⟨(rd l ((l.length : Int) - 1)).toNat, by omega⟩
   refine (iClash_l0 l h top htop (by omega) (by omega) l.length 0 (List.replicate 201 false) (by omega) (by omega) List.length_replicate (GapTo.zero _ _)).iff ?_
   rw [Cl_iff h top htop]
   exact ⟨fun k => ⟨h, k⟩, fun k => k.2⟩
 ·exact EvC.bind ((iGapL l (by omega)).no h) (EvC.neg (by simp) (no _ fun k => h k.1))
end Go.Proofs.Ytddgegejeoihaaa.FFnArf
end
section
namespace Go.Proofs.Ytddgegejeoihaaa.FFnArf
open Go Go.RowKit Go.Proofs.YtddgegejeoihaaaW.PrintWords Go.Proofs.Ytddgegejeoihaaa.M Go.Proofs.Ytddgegejeoihaaa.PFnArf
theorem sClash_l2 (l : List Int) (t : List Bool) (hT : GapT l t) (top a : Nat) (ht : t.length = 2 * top + 1) (htop : top ≤ 199) (ha : 1 ≤ a) (hat : a ≤ top) (hnext : EvC (fun k => spec_GapClash.l1 k (top : Int) t ((a + 1 : Nat) : Int)) (Cl l top ((a + 1 : Nat) : Int))) : ∀ (d b : Nat), top + 1 - b = d → a ≤ b → b ≤ top + 1 → EvC (fun k => spec_GapClash.l2 k (top : Int) t (a : Int) (b : Int)) (Cl2 l top a b ∨ Cl l top ((a : Int) + 1)) := by
 have hn2 : Cl l top ((a + 1 : Nat) : Int) ↔ Cl l top ((a : Int) + 1) := by rw [show ((a + 1 : Nat) : Int) = (a : Int) + 1 by omega]
 have out : ∀ b : Nat, ¬ Cl2 l top a b → EvC (fun k => spec_GapClash.j4 k (top : Int) t (a : Int) (b : Int) false) (Cl2 l top a b ∨ Cl l top ((a : Int) + 1)) := by
  intro b hb
  refine EvC.step (fun _ => spec_GapClash.j4.eq_2 ..) ?_
  rw [w64s (j := a) (by omega)]
  refine EvC.neg (by simp) (hnext.iff ?_)
  rw [hn2]
  exact ⟨.inr, fun h => h.elim (fun k => absurd k hb) id⟩
 intro d
 induction d with
 | zero =>
  intro b hd hb hb2
  refine EvC.step (fun _ => spec_GapClash.l2.eq_2 ..) ?_
  rw [w64 (x := (a : Int) + b) (by omega) (by omega)]
  exact EvC.neg (by omega) (out b (Cl2.none (by omega)))
 | succ d ih =>
  intro b hd hb hb2
  refine EvC.step (fun _ => spec_GapClash.l2.eq_2 ..) ?_
  rw [w64 (x := (a : Int) + b) (by omega) (by omega)]
  by_cases c : (a : Int) + b ≤ top
  ·refine EvC.pos c ?_
   refine EvC.pos (by omega) ?_
   refine EvC.pos (by omega) ?_
   have ihb := ih (b + 1) (by omega) (by omega) (by omega)
   have e1 : ((b + 1 : Nat) : Int) = (b : Int) + 1 := by omega
   have hTa := hT a (by omega)
   have hTb := hT b (by omega)
   obtain ⟨q, hq⟩ : ∃ q : Nat, (a : Int) + b = (q : Int) := ⟨a + b, by omega⟩
   have hTq := hT q (by omega)
   rw [rdOf_nat]
   have sp := Cl2.split (l := l) c
   rw [hq] at sp
   by_cases ca : t.getD a false = true
   ·rw [ca]
    exact out b (Cl2.gap (hTa.1 ca))
   ·rw [show t.getD a false = false by simpa using ca]
    refine EvC.step (fun _ => spec_GapClash.j4.eq_2 ..) ?_
    refine EvC.pos rfl ?_
    refine EvC.pos (by omega) ?_
    refine EvC.pos (by omega) ?_
    rw [rdOf_nat, w64s (j := b) (by omega), w64 (x := (a : Int) + b) (by omega) (by omega), hq, rdOf_nat]
    by_cases cb : t.getD b false = true
    ·refine EvC.pos cb (ihb.iff ?_)
     rw [e1, sp]
     exact ⟨fun h => h.elim (fun k => .inl (.inr k)) .inr, fun h => h.elim (fun k => k.elim (fun k => absurd (hTb.1 cb) k.2.1) .inl) .inr⟩
    ·refine EvC.neg cb ?_
     refine EvC.pos (by omega) ?_
     refine EvC.pos (by omega) ?_
     by_cases cq : t.getD q false = true
     ·refine EvC.pos cq ⟨_, Ev.now _, ?_⟩
      rw [sp]
      exact ⟨fun _ => .inl (.inl ⟨fun k => ca (hTa.2 k), fun k => cb (hTb.2 k), hTq.1 cq⟩), fun _ => rfl⟩
     ·refine EvC.neg cq (ihb.iff ?_)
      rw [e1, sp]
      exact ⟨fun h => h.elim (fun k => .inl (.inr k)) .inr, fun h => h.elim (fun k => k.elim (fun k => absurd (hTq.2 k.2.2) cq) .inl) .inr⟩
  ·exact EvC.neg c (out b (Cl2.none (by omega)))
theorem sClash_l1 (l : List Int) (t : List Bool) (hT : GapT l t) (top : Nat) (ht : t.length = 2 * top + 1) (htop : top ≤ 199) : ∀ (d a : Nat), top + 1 - a = d → 1 ≤ a → a ≤ top + 1 → EvC (fun k => spec_GapClash.l1 k (top : Int) t (a : Int)) (Cl l top a) := by
 intro d
 induction d with
 | zero =>
  intro a hd ha ha2
  refine EvC.step (fun _ => spec_GapClash.l1.eq_2 ..) ?_
  refine EvC.neg (by omega) ⟨_, Ev.now _, ?_⟩
  exact ⟨fun h => by simp at h, fun ⟨x, y, h1, h2, h3, _⟩ => by omega⟩
 | succ d ih =>
  intro a hd ha ha2
  refine EvC.step (fun _ => spec_GapClash.l1.eq_2 ..) ?_
  refine EvC.pos (by omega) ?_
  exact (sClash_l2 l t hT top a ht htop ha (by omega) (ih (a + 1) (by omega) (by omega) (by omega)) (top + 1 - a) a rfl (by omega) (by omega)).iff Cl.split.symm
theorem sClash_l0 (l : List Int) (h : GapL l) (top : Nat) (ht199 : top ≤ 199) (hle : ∀ x ∈ l, x ≤ top) : ∀ (d j : Nat) (t : List Bool), l.length - j = d → j ≤ l.length → t.length = 2 * top + 1 → GapTo l j t → EvC (fun k => spec_GapClash.l0 k l (top : Int) t (j : Int)) (Cl l top 1) := by
 have hlen := h.len
 intro d
 induction d with
 | zero =>
  intro j t hd hj ht hT
  have : j = l.length := by omega
  subst this
  refine EvC.step (fun _ => spec_GapClash.l0.eq_2 ..) ?_
  refine EvC.neg (by omega) ?_
  exact sClash_l1 l t hT.full top ht ht199 top 1 (by omega) (by omega) (by omega)
 | succ d ih =>
  intro j t hd hj ht hT
  have hlt : j < l.length := by omega
  have hx := h.1 _ (List.getElem_mem hlt)
  have hx2 := hle _ (List.getElem_mem hlt)
  obtain ⟨q, hq⟩ : ∃ q : Nat, l[j] = (q : Int) := ⟨l[j].toNat, by omega⟩
  refine EvC.step (fun _ => spec_GapClash.l0.eq_2 ..) ?_
  refine EvC.pos (by omega) ?_
  refine EvC.pos (by omega) ?_
  rw [rd_get hlt, hq, w64s (by omega), Int.toNat_natCast]
  refine EvC.pos (by omega) ?_
  refine EvC.pos (by omega) ?_
  exact ih (j + 1) _ (by omega) (by omega) (by simpa using ht) (hT.set hlt hq (by omega))
theorem last_mem {l : List Int} (h : 0 < l.length) : rd l ((l.length : Int) - 1) ∈ l := by
 rw [show (l.length : Int) - 1 = ((l.length - 1 : Nat) : Int) by omega]
 exact rd_mem (by omega)
theorem sClash (l : List Int) (hl : l.length ≤ 1048576) : EvC (fun k => spec_GapClash.f k l) (GapL l ∧ Clash l) := by
 have no : ∀ P : Prop, ¬ P → EvC (fun k => spec_GapClash.j0 k l true) P := fun P hP => EvC.step (fun _ => spec_GapClash.j0.eq_2 ..) (EvC.pos rfl ⟨_, Ev.now _, ⟨fun h => by simp at h, fun h => absurd h hP⟩⟩)
 unfold spec_GapClash.f
 by_cases h : GapL l
 ·refine EvC.bind ((sGapL l (by omega)).yes h) (EvC.pos rfl ?_)
  by_cases c : l.length = 0
  ·rw [show ((l.length : Int) == 0) = true by rw [c]; rfl]
   refine no _ fun k => ?_
   obtain ⟨_, x, y, _, _, _, _, hm⟩ := k
   rw [List.length_eq_zero_iff.1 c] at hm
   simp at hm
  ·rw [show ((l.length : Int) == 0) = false by rw [beq_eq_false_iff_ne]; omega]
   refine EvC.step (fun _ => spec_GapClash.j0.eq_2 ..) ?_
   refine EvC.neg (by simp) ?_
   have hb := h.1 _ (last_mem (l := l) (by omega))
   obtain ⟨top, htop⟩ : ∃ top : Nat, (top : Int) = rd l ((l.length : Int) - 1) := ⟨(rd l ((l.length : Int) - 1)).toNat, by omega⟩
   rw [w64 (x := (l.length : Int) - 1) (by omega) (by omega), ← htop, w64 (x := 2 * (top : Int)) (by omega) (by omega), w64 (x := 2 * (top : Int) + 1) (by omega) (by omega)]
   refine EvC.pos (by omega) ?_
   refine EvC.pos (by omega) ?_
   refine EvC.pos (by omega) ?_
   refine EvC.pos (by omega) ?_
   refine (sClash_l0 l h top (by omega) (fun x hx => by rw [htop]; exact last_ge h.2 hx) l.length 0 (List.replicate (2 * (top : Int) + 1).toNat false) (by omega) (by omega) (by rw [List.length_replicate]; omega) (GapTo.zero _ _)).iff ?_
   rw [Cl_iff h top htop]
   exact ⟨fun k => ⟨h, k⟩, fun k => k.2⟩
 ·exact EvC.bind ((sGapL l (by omega)).no h) (EvC.neg (by simp) (no _ fun k => h k.1))
def Irr (l : List Int) (n : Int) : Prop := 1 ≤ n ∧ n ∉ l ∧ ∀ x y : Int, 1 ≤ x → 1 ≤ y → x + y = n → x ∈ l ∨ y ∈ l
noncomputable def irrUp (l : List Int) : Nat → List Int
 | 0 => []
 | n + 1 => open Classical in irrUp l n ++ (if Irr l n then [(n : Int)] else [])
theorem irrUp_len (l : List Int) (n : Nat) : (irrUp l n).length ≤ n := by
 induction n with
 | zero => simp [irrUp]
 | succ n ih => unfold irrUp; rw [List.length_append]; split <;> simp <;> omega
theorem irrUp_mem (l : List Int) (n : Nat) (x : Int) : x ∈ irrUp l n ↔ x < n ∧ Irr l x := by
 induction n with
 | zero => simp [irrUp]; intro h k; have := k.1; omega
 | succ n ih =>
  unfold irrUp
  rw [List.mem_append, ih]
  by_cases c : Irr l n
  ·rw [if_pos c, List.mem_singleton]
   constructor
   ·rintro (h | rfl)
    ·exact ⟨by omega, h.2⟩
    ·exact ⟨by omega, c⟩
   ·rintro ⟨h1, h2⟩
    rcases Int.lt_or_le x n with k | k
    ·exact .inl ⟨k, h2⟩
    ·exact .inr (by omega)
  ·rw [if_neg c]
   constructor
   ·rintro (h | h)
    ·exact ⟨by omega, h.2⟩
    ·simp at h
   ·rintro ⟨h1, h2⟩
    refine .inl ⟨?_, h2⟩
    rcases Int.lt_or_le x n with k | k
    ·exact k
    ·exact absurd ((show x = (n : Int) by omega) ▸ h2) c
theorem irrUp_pos (l : List Int) (n : Nat) : ∀ x ∈ irrUp l n, 1 ≤ x := fun x hx => ((irrUp_mem l n x).1 hx).2.1
theorem irr_closed {l : List Int} (hg : GapL l) (hc : ¬ Clash l) (N : Nat) {n : Int} (hn : Sums (irrUp l N) n) : n ∉ l := by
 induction hn with
 | zero => intro h; have := hg.1 0 h; omega
 | add hx hn ih =>
  rename_i n x
  intro hm
  have hxi := ((irrUp_mem l N x).1 hx).2
  have h0 := hn.nonneg (irrUp_pos l N)
  by_cases e : n = 0
  ·subst e
   rw [Int.zero_add] at hm
   exact hxi.2.1 hm
  ·exact hc ⟨n, x, by omega, hxi.1, ih, hxi.2.1, hm⟩
theorem irr_sums {l : List Int} (N : Nat) : ∀ n : Nat, n < N → (n : Int) ∉ l → Sums (irrUp l N) n := by
 intro n
 induction n using Nat.strongRecOn with
 | _ n ih =>
  intro hN hm
  by_cases h0 : n = 0
  ·subst h0; exact .zero
  by_cases hi : Irr l n
  ·exact .one ((irrUp_mem l N n).2 ⟨by omega, hi⟩)
  ·have : ∃ x y : Int, 1 ≤ x ∧ 1 ≤ y ∧ x + y = n ∧ x ∉ l ∧ y ∉ l := by
    refine Classical.byContradiction fun k => hi ⟨by omega, hm, fun x y h1 h2 h3 => ?_⟩
    refine Classical.byContradiction fun k2 => k ⟨x, y, h1, h2, h3, fun h => k2 (.inl h), fun h => k2 (.inr h)⟩
   obtain ⟨x, y, h1, h2, h3, h4, h5⟩ := this
   have a := ih x.toNat (by omega) (by omega) (by rwa [Int.toNat_of_nonneg (by omega)])
   have b := ih y.toNat (by omega) (by omega) (by rwa [Int.toNat_of_nonneg (by omega)])
   rw [Int.toNat_of_nonneg (by omega)] at a b
   rw [← h3]
   exact a.trans b
theorem irr_step {l : List Int} (hg : GapL l) (hc : ¬ Clash l) (n : Nat) (h1 : 1 ≤ n) (hm : (n : Int) ∉ l) : Sums (irrUp l n) n ↔ ¬ Irr l n := by
 constructor
 ·intro h hi
  obtain ⟨x, hx, hs⟩ := h.step (by omega)
  have hx' := (irrUp_mem l n x).1 hx
  have hy := irr_closed hg hc n hs
  rcases hi.2.2 x (n - x) hx'.2.1 (by omega) (by omega) with k | k
  ·exact hx'.2.2.1 k
  ·exact hy k
 ·intro hi
  have : ∃ x y : Int, 1 ≤ x ∧ 1 ≤ y ∧ x + y = n ∧ x ∉ l ∧ y ∉ l := by
   refine Classical.byContradiction fun k => hi ⟨by omega, hm, fun x y h1 h2 h3 => ?_⟩
   refine Classical.byContradiction fun k2 => k ⟨x, y, h1, h2, h3, fun h => k2 (.inl h), fun h => k2 (.inr h)⟩
  obtain ⟨x, y, h1, h2, h3, h4, h5⟩ := this
  have a := irr_sums (l := l) n x.toNat (by omega) (by rwa [Int.toNat_of_nonneg (by omega)])
  have b := irr_sums (l := l) n y.toNat (by omega) (by rwa [Int.toNat_of_nonneg (by omega)])
  rw [Int.toNat_of_nonneg (by omega)] at a b
  rw [← h3]
  exact a.trans b
theorem irr_none {l : List Int} (top : Nat) (hle : ∀ x ∈ l, x ≤ (top : Int)) (n : Nat) (hn : 2 * top + 2 ≤ n) : ¬ Irr l n := by
 intro h
 rcases h.2.2 (top + 1) (n - top - 1) (by omega) (by omega) (by omega) with k | k
 ·have := hle _ k; omega
 ·have := hle _ k; omega
theorem irrUp_stop {l : List Int} (top : Nat) (hle : ∀ x ∈ l, x ≤ (top : Int)) : ∀ d : Nat, irrUp l (2 * top + 2 + d) = irrUp l (2 * top + 2) := by
 intro d
 induction d with
 | zero => rfl
 | succ d ih =>
  rw [← Nat.add_assoc, irrUp, if_neg (irr_none top hle _ (by omega)), List.append_nil, ih]
noncomputable def irr (l : List Int) : List Int := irrUp l 401
theorem irr_len (l : List Int) : (irr l).length ≤ 401 := by unfold irr; exact irrUp_len l _
def FGap (l : List Int) (r : List Int × Bool) : Prop := ((GapL l ∧ ¬ Clash l ∧ IsSG (irr l)) ∧ r = (irr l, true)) ∨ (¬ (GapL l ∧ ¬ Clash l ∧ IsSG (irr l)) ∧ r = ([], false))
theorem FGap.uniq {l : List Int} {r r' : List Int × Bool} (h : FGap l r) (h' : FGap l r') : r = r' := by
 rcases h with ⟨a, e⟩ | ⟨a, e⟩ <;> rcases h' with ⟨a', e'⟩ | ⟨a', e'⟩
 ·rw [e, e']
 ·exact absurd a a'
 ·exact absurd a' a
 ·rw [e, e']
theorem FGap.cases {l : List Int} {r : List Int × Bool} (h : FGap l r) : (r.2 = true ∧ IsSG r.1) ∨ r = ([], false) := by
 rcases h with ⟨a, e⟩ | ⟨_, e⟩
 ·rw [e]; exact .inl ⟨rfl, a.2.2⟩
 ·exact .inr e
theorem irr_gaps {l : List Int} (hg : GapL l) (hc : ¬ Clash l) : gaps (irr l) = l := by
 refine asc_ext (gapsUp_asc _ _) hg.2 fun x => ?_
 unfold gaps
 rw [gapsUp_mem]
 constructor
 ·rintro ⟨h1, h2, h3⟩
  refine Classical.byContradiction fun k => h3 ?_
  have := irr_sums (l := l) 401 x.toNat (by omega) (by rwa [Int.toNat_of_nonneg h1])
  rwa [Int.toNat_of_nonneg h1] at this
 ·intro h
  have := hg.1 x h
  exact ⟨by omega, by omega, fun k => irr_closed hg hc 401 k h⟩
theorem iEq_l0 (a b : List Int) (hl : a.length ≤ 4611686018427387904) (hab : a.length = b.length) : ∀ (d j : Nat), a.length - j = d → j ≤ a.length → EvB (fun k => slices_Equal_int_int.l0 k a b (a.length : Int) (j : Int)) (a.drop j = b.drop j) := by
 intro d
 induction d with
 | zero =>
  intro j hd hj
  refine EvB.step (fun _ => slices_Equal_int_int.l0.eq_2 ..) (EvB.neg (by omega) (EvB.of_true (Ev.now _) ?_))
  rw [List.drop_of_length_le (by omega), List.drop_of_length_le (by omega)]
 | succ d ih =>
  intro j hd hj
  have hlt : j < a.length := by omega
  have hlt' : j < b.length := by omega
  refine EvB.step (fun _ => slices_Equal_int_int.l0.eq_2 ..) (EvB.pos (by omega) (EvB.pos (by omega) (EvB.pos (by omega) ?_)))
  rw [rd_get hlt, rd_get hlt', drop_cons hlt, drop_cons hlt']
  by_cases h : a[j] = b[j]
  ·refine EvB.pos (by omega) (EvB.pos h ?_)
   rw [w64s (by omega)]
   refine (ih (j + 1) (by omega) (by omega)).iff ?_
   rw [List.cons.injEq]
   exact ⟨fun k => ⟨h, k⟩, fun k => k.2⟩
  ·refine EvB.pos (by omega) (EvB.neg h (EvB.of_false (Ev.now _) ?_))
   rw [List.cons.injEq]
   exact fun k => h k.1
theorem iEq (a b : List Int) (hl : a.length ≤ 4611686018427387904) : EvB (fun k => slices_Equal_int_int.f k a b) (a = b) := by
 unfold slices_Equal_int_int.f
 by_cases h : (a.length : Int) = (b.length : Int)
 ·refine EvB.pos h ?_
  exact iEq_l0 a b hl (by omega) a.length 0 (by omega) (by omega)
 ·exact EvB.neg h (EvB.of_false (Ev.now _) (by rintro rfl; exact h rfl))
theorem iFGap_l2 (l : List Int) (t : List Bool) (hT : GapT l t) (ht : t.length = 401) (n : Nat) (h1 : 1 ≤ n) (h400 : n ≤ 400) (gens : List Int) (hgl : gens.length ≤ n) (r : List Int × Bool)
 (yes : Irr l n → Ev (fun k => impl_FromGaps.l1 k l t ((n + 1 : Nat) : Int) (gens ++ [(n : Int)])) r) (no : ¬ Irr l n → Ev (fun k => impl_FromGaps.l1 k l t ((n + 1 : Nat) : Int) gens) r) :
 ∀ (d a : Nat) (s : Bool), n + 1 - a = d → 1 ≤ a → a ≤ n + 1 → (s = true → ¬ Irr l n) → (s = false → (n : Int) ∉ l ∧ ∀ x y : Int, 1 ≤ x → x < a → 1 ≤ y → x + y = n → x ∈ l ∨ y ∈ l) → Ev (fun k => impl_FromGaps.l2 k l t (n : Int) s (a : Int) gens) r := by
 intro d
 induction d with
 | zero =>
  intro a s hd ha han hs1 hs2
  refine Ev.step (fun _ => impl_FromGaps.l2.eq_2 ..) ?_
  rw [w64 (x := 2 * (a : Int)) (by omega) (by omega), w64s (j := n) (by omega)]
  refine Ev.neg (by omega) ?_
  cases s with
  | true => exact Ev.pos rfl (no (hs1 rfl))
  | false =>
   refine Ev.neg (by simp) (Ev.pos (by omega) (yes ⟨by omega, (hs2 rfl).1, fun x y hx hy hxy => ?_⟩))
   exact (hs2 rfl).2 x y hx (by omega) hy hxy
 | succ d ih =>
  intro a s hd ha han hs1 hs2
  refine Ev.step (fun _ => impl_FromGaps.l2.eq_2 ..) ?_
  rw [w64 (x := 2 * (a : Int)) (by omega) (by omega), w64s (j := n) (by omega), w64s (j := a) (by omega), w64 (x := (n : Int) - a) (by omega) (by omega)]
  by_cases c : 2 * (a : Int) ≤ n
  ·refine Ev.pos c ?_
   cases s with
   | true => exact Ev.pos rfl (no (hs1 rfl))
   | false =>
    obtain ⟨hm, hx⟩ := hs2 rfl
    have hTa := hT a (by omega)
    obtain ⟨q, hq⟩ : ∃ q : Nat, (n : Int) - a = (q : Int) := ⟨n - a, by omega⟩
    have hTq := hT q (by omega)
    refine Ev.neg (by simp) (Ev.pos (by omega) (Ev.pos (by omega) ?_))
    rw [rdOf_nat, hq, rdOf_nat]
    have more : (((a : Int) ∈ l ∨ (q : Int) ∈ l)) → ∀ x y : Int, 1 ≤ x → x < ((a + 1 : Nat) : Int) → 1 ≤ y → x + y = n → x ∈ l ∨ y ∈ l := by
     intro hor x y h2 h3 h4 h5
     by_cases e : x = a
     ·subst e
      rw [show y = (q : Int) by omega]; exact hor
     ·exact hx x y h2 (by omega) h4 h5
    by_cases ca : t.getD a false = true
    ·exact Ev.pos ca (ih (a + 1) false (by omega) (by omega) (by omega) (fun h => by simp at h) fun _ => ⟨hm, more (.inl (hTa.1 ca))⟩)
    ·refine Ev.neg ca (Ev.pos (by omega) (Ev.pos (by omega) ?_))
     by_cases cq : t.getD q false = true
     ·rw [cq]
      exact ih (a + 1) false (by omega) (by omega) (by omega) (fun h => by simp at h) fun _ => ⟨hm, more (.inr (hTq.1 cq))⟩
     ·rw [show t.getD q false = false by simpa using cq]
      refine ih (a + 1) true (by omega) (by omega) (by omega) (fun _ hi => ?_) fun h => by simp at h
      rcases hi.2.2 a q (by omega) (by omega) (by omega) with k | k
      ·exact ca (hTa.2 k)
      ·exact cq (hTq.2 k)
  ·refine Ev.neg c ?_
   cases s with
   | true => exact Ev.pos rfl (no (hs1 rfl))
   | false =>
    obtain ⟨hm, hx⟩ := hs2 rfl
    refine Ev.neg (by simp) (Ev.pos (by omega) (yes ⟨by omega, hm, fun x y h2 h3 h4 => ?_⟩))
    by_cases e : x < a
    ·exact hx x y h2 e h3 h4
    ·exact (hx y x h3 (by omega) h2 (by omega)).symm
theorem irrUp_yes {l : List Int} {n : Nat} (h : Irr l n) : irrUp l (n + 1) = irrUp l n ++ [(n : Int)] := by
 conv => lhs; unfold irrUp
 rw [if_pos h]
theorem irrUp_no {l : List Int} {n : Nat} (h : ¬ Irr l n) : irrUp l (n + 1) = irrUp l n := by
 conv => lhs; unfold irrUp
 rw [if_neg h, List.append_nil]
theorem irrUp_1 (l : List Int) : irrUp l 1 = [] := irrUp_no (n := 0) fun h => by have := h.1; omega
theorem iFGap_l1 (l : List Int) (t : List Bool) (hT : GapT l t) (ht : t.length = 401) (r : List Int × Bool) (fin : Ev (fun k => (impl_IsSemigroup.f k (irrUp l 401)).bind fun t455 => (if t455 = true then ((impl_Gaps.f k (irrUp l 401)).bind fun t456 => ((slices_Equal_int_int.f k t456 l).bind fun t459 => (if t459 = true then (some (irrUp l 401, true)) else (some (([] : List Int), false))))) else (some (([] : List Int), false)))) r) :
 ∀ (d n : Nat), 401 - n = d → 1 ≤ n → n ≤ 401 → Ev (fun k => impl_FromGaps.l1 k l t (n : Int) (irrUp l n)) r := by
 intro d
 induction d with
 | zero =>
  intro n hd h1 h2
  have : n = 401 := by omega
  subst this
  exact Ev.step (fun _ => impl_FromGaps.l1.eq_2 ..) (Ev.neg (by omega) fin)
 | succ d ih =>
  intro n hd h1 h2
  have hlen := irrUp_len l n
  have nx := ih (n + 1) (by omega) (by omega) (by omega)
  refine Ev.step (fun _ => impl_FromGaps.l1.eq_2 ..) (Ev.pos (by omega) (Ev.pos (by omega) ?_))
  rw [rdOf_nat]
  have hTn := hT n (by omega)
  refine iFGap_l2 l t hT ht n h1 (by omega) (irrUp l n) hlen r (fun hi => ?_) (fun hi => ?_) n 1 (t.getD n false) (by omega) (by omega) (by omega) (fun h hi => hi.2.1 (hTn.1 h)) fun h => ⟨fun k => ?_, fun x y h3 h4 => by omega⟩
  ·rw [irrUp_yes hi] at nx; exact nx
  ·rw [irrUp_no hi] at nx; exact nx
  ·rw [hTn.2 k] at h; simp at h
theorem iFGap_l0 (l : List Int) (h : GapL l) (r : List Int × Bool) (next : ∀ t : List Bool, t.length = 401 → GapT l t → Ev (fun k => impl_FromGaps.l1 k l t 1 []) r) : ∀ (d j : Nat) (t : List Bool), l.length - j = d → j ≤ l.length → t.length = 401 → GapTo l j t → Ev (fun k => impl_FromGaps.l0 k l t l (l.length : Int) (j : Int)) r := by
 have hlen := h.len
 intro d
 induction d with
 | zero =>
  intro j t hd hj ht hT
  have : j = l.length := by omega
  subst this
  exact Ev.step (fun _ => impl_FromGaps.l0.eq_2 ..) (Ev.neg (by omega) (next t ht hT.full))
 | succ d ih =>
  intro j t hd hj ht hT
  have hlt : j < l.length := by omega
  have hx := h.1 _ (List.getElem_mem hlt)
  obtain ⟨q, hq⟩ : ∃ q : Nat, l[j] = (q : Int) := ⟨l[j].toNat, by omega⟩
  refine Ev.step (fun _ => impl_FromGaps.l0.eq_2 ..) (Ev.pos (by omega) (Ev.pos (by omega) (Ev.pos (by omega) ?_)))
  rw [rd_get hlt, hq, w64s (by omega), Int.toNat_natCast]
  exact Ev.pos (by omega) (Ev.pos (by omega) (ih (j + 1) _ (by omega) (by omega) (by simpa using ht) (hT.set hlt hq (by omega))))
theorem iFGap (l : List Int) (hl : l.length ≤ 1048576) : ∃ r, Ev (fun k => impl_FromGaps.f k l) r ∧ FGap l r := by
 obtain ⟨⟨x, y, b⟩, c1, c2⟩ := iClash l hl
 simp only at c2
 have stop : ¬ (GapL l ∧ ¬ Clash l) → FGap l ([], false) := fun h => .inr ⟨fun k => h ⟨k.1, k.2.1⟩, rfl⟩
 have j0 : Ev (fun k => impl_FromGaps.j0 k l true) ([], false) := Ev.step (fun _ => impl_FromGaps.j0.eq_2 ..) (Ev.pos rfl (Ev.now _))
 unfold impl_FromGaps.f
 cases b with
 | true => exact ⟨_, Ev.bind c1 (Ev.pos rfl j0), stop fun h => h.2 (c2.1 rfl).2⟩
 | false =>
  by_cases h : GapL l
  case neg => exact ⟨_, Ev.bind c1 (Ev.neg (by simp) (Ev.bind ((iGapL l (by omega)).no h) j0)), stop fun k => h k.1⟩
  have hc : ¬ Clash l := fun k => by have := c2.2 ⟨h, k⟩; simp at this
  have hil := irr_len l
  have go : ∀ r : List Int × Bool, Ev (fun k => (impl_IsSemigroup.f k (irrUp l 401)).bind fun t455 => (if t455 = true then ((impl_Gaps.f k (irrUp l 401)).bind fun t456 => ((slices_Equal_int_int.f k t456 l).bind fun t459 => (if t459 = true then (some (irrUp l 401, true)) else (some (([] : List Int), false))))) else (some (([] : List Int), false)))) r →
   Ev (fun k => (impl_GapClash.f k l).bind fun bt438 => (if bt438.2.2 = true then (impl_FromGaps.j0 k l true) else ((impl_gapList.f k l).bind fun t442 => (impl_FromGaps.j0 k l (!t442))))) r := by
   intro r hr
   refine Ev.bind c1 (Ev.neg (by simp) (Ev.bind ((iGapL l (by omega)).yes h) (Ev.step (fun _ => impl_FromGaps.j0.eq_2 ..) (Ev.neg (by simp) (Ev.pos (by omega) ?_)))))
   refine iFGap_l0 l h r (fun t ht hT => ?_) l.length 0 (List.replicate 401 false) (by omega) (by omega) List.length_replicate (GapTo.zero _ _)
   have := iFGap_l1 l t hT ht r hr 400 1 (by omega) (by omega) (by omega)
   rw [irrUp_1] at this
   exact this
  by_cases hs : IsSG (irr l)
  ·refine ⟨(irr l, true), go _ ?_, .inl ⟨⟨h, hc, hs⟩, rfl⟩⟩
   obtain ⟨g, g1, g2⟩ := iGaps (irr l) (by omega)
   have hg : g = l := by
    rcases g2 with ⟨_, e⟩ | ⟨n, _⟩
    ·rw [e]; exact irr_gaps h hc
    ·exact absurd hs n
   rw [hg] at g1
   exact Ev.bind ((iIsSG (irr l) (by omega)).yes hs) (Ev.pos rfl (Ev.bind g1 (Ev.bind ((iEq l l (by omega)).yes rfl) (Ev.pos rfl (Ev.now _)))))
  ·exact ⟨([], false), go _ (Ev.bind ((iIsSG (irr l) (by omega)).no hs) (Ev.neg (by simp) (Ev.now _))), .inr ⟨fun k => hs k.2.2, rfl⟩⟩
theorem sFGap_l0 (l : List Int) (h : GapL l) (hc : ¬ Clash l) (top : Nat) (htop : top ≤ 199) (hle : ∀ x ∈ l, x ≤ (top : Int)) (r : List Int × Bool) (fin : Ev (fun k => (spec_IsSemigroup.f k (irr l)).bind fun t549 => (if t549 = true then (some (irr l, true)) else (some (([] : List Int), false)))) r) :
 ∀ (d n : Nat), 2 * top + 3 - n = d → 1 ≤ n → n ≤ 2 * top + 3 → Ev (fun k => spec_FromGaps.l0 k l (irrUp l n) (top : Int) (n : Int)) r := by
 have hlen := h.len
 intro d
 induction d with
 | zero =>
  intro n hd h1 h2
  have e : irrUp l n = irr l := by
   unfold irr
   rw [show n = 2 * top + 2 + 1 by omega, show (401 : Nat) = 2 * top + 2 + (399 - 2 * top) by omega, irrUp_stop top hle, irrUp_stop top hle]
  rw [e]
  refine Ev.step (fun _ => spec_FromGaps.l0.eq_2 ..) ?_
  rw [w64 (x := 2 * (top : Int)) (by omega) (by omega), w64 (x := 2 * (top : Int) + 2) (by omega) (by omega)]
  exact Ev.neg (by omega) fin
 | succ d ih =>
  intro n hd h1 h2
  have hgl := irrUp_len l n
  have nx := ih (n + 1) (by omega) (by omega) (by omega)
  refine Ev.step (fun _ => spec_FromGaps.l0.eq_2 ..) ?_
  rw [w64 (x := 2 * (top : Int)) (by omega) (by omega), w64 (x := 2 * (top : Int) + 2) (by omega) (by omega), w64s (j := n) (by omega)]
  refine Ev.pos (by omega) ?_
  by_cases hm : (n : Int) ∈ l
  ·rw [irrUp_no fun k => k.2.1 hm] at nx
   exact Ev.bind ((sHasNum l n (by omega)).yes hm) (Ev.pos rfl nx)
  ·refine Ev.bind ((sHasNum l n (by omega)).no hm) (Ev.neg (by simp) ?_)
   have st := irr_step h hc n h1 hm
   by_cases h0 : (irrUp l n).length = 0
   ·refine Ev.neg (by omega) (Ev.pos (by omega) ?_)
    have hi : Irr l n := by
     refine Classical.byContradiction fun k => ?_
     have := st.2 k
     rw [List.length_eq_zero_iff.1 h0] at this
     have := this.nil
     omega
    rw [irrUp_yes hi] at nx; exact nx
   ·have hgr : InR 1 1000000 (irrUp l n) := fun x hx => by have := (irrUp_mem l n x).1 hx; have := this.2.1; omega
    obtain ⟨t, t1, t2, t3⟩ := l3Table (irrUp l n) (by omega) hgr n (by omega)
    have t4 := t3 n (Nat.le_refl _)
    refine Ev.pos (by omega) (Ev.bind t1 (Ev.pos (by omega) (Ev.pos (by omega) ?_)))
    rw [rdOf_nat]
    by_cases c : Sums (irrUp l n) n
    ·rw [irrUp_no (st.1 c)] at nx
     exact Ev.pos (t4.2 c) nx
    ·have hi : Irr l n := Classical.byContradiction fun k => c (st.2 k)
     rw [irrUp_yes hi] at nx
     exact Ev.neg (fun k => c (t4.1 k)) (Ev.pos (by omega) nx)
theorem sFGap (l : List Int) (hl : l.length ≤ 1048576) : ∃ r, Ev (fun k => spec_FromGaps.f k l) r ∧ FGap l r := by
 obtain ⟨⟨x, y, b⟩, c1, c2⟩ := sClash l hl
 simp only at c2
 have stop : ¬ (GapL l ∧ ¬ Clash l) → FGap l ([], false) := fun h => .inr ⟨fun k => h ⟨k.1, k.2.1⟩, rfl⟩
 have j0 : Ev (fun k => spec_FromGaps.j0 k l true) ([], false) := Ev.step (fun _ => spec_FromGaps.j0.eq_2 ..) (Ev.pos rfl (Ev.now _))
 unfold spec_FromGaps.f
 by_cases h : GapL l
 case neg => exact ⟨_, Ev.bind c1 (Ev.bind ((sGapL l (by omega)).no h) (Ev.neg (by simp) j0)), stop fun k => h k.1⟩
 cases b with
 | true => exact ⟨_, Ev.bind c1 (Ev.bind ((sGapL l (by omega)).yes h) (Ev.pos rfl j0)), stop fun k => k.2 (c2.1 rfl).2⟩
 | false =>
  have hc : ¬ Clash l := fun k => by have := c2.2 ⟨h, k⟩; simp at this
  have hil := irr_len l
  have hlen := h.len
  have go : ∀ r : List Int × Bool, Ev (fun k => (spec_IsSemigroup.f k (irr l)).bind fun t549 => (if t549 = true then (some (irr l, true)) else (some (([] : List Int), false)))) r → Ev (fun k => spec_FromGaps.j0 k l false) r := by
   intro r hr
   refine Ev.step (fun _ => spec_FromGaps.j0.eq_2 ..) (Ev.neg (by simp) (Ev.call rfl ?_))
   have fin : ∀ top : Nat, top ≤ 199 → (∀ x ∈ l, x ≤ (top : Int)) → Ev (fun k => spec_FromGaps.j1 k l [] (top : Int)) r := by
    intro top h1 h2
    refine Ev.step (fun _ => spec_FromGaps.j1.eq_2 ..) ?_
    have := sFGap_l0 l h hc top h1 h2 r hr (2 * top + 2) 1 (by omega) (by omega) (by omega)
    rw [irrUp_1] at this
    exact this
   by_cases c0 : (l.length : Int) > 0
   ·have hm := last_mem (l := l) (by omega)
    have hb := h.1 _ hm
    obtain ⟨top, htop⟩ : ∃ top : Nat, (top : Int) = rd l ((l.length : Int) - 1) := ⟨(rd l ((l.length : Int) - 1)).toNat, by omega⟩
    refine Ev.pos c0 ?_
    rw [w64 (x := (l.length : Int) - 1) (by omega) (by omega), ← htop]
    exact Ev.pos (by omega) (Ev.pos (by omega) (fin top (by omega) fun x hx => by rw [htop]; exact last_ge h.2 hx))
   ·refine Ev.neg c0 (fin 0 (by omega) fun x hx => ?_)
    rw [List.length_eq_zero_iff.1 (show l.length = 0 by omega)] at hx
    simp at hx
  by_cases hs : IsSG (irr l)
  ·exact ⟨(irr l, true), Ev.bind c1 (Ev.bind ((sGapL l (by omega)).yes h) (Ev.pos rfl (go _ (Ev.bind ((sIsSG (irr l) (by omega)).yes hs) (Ev.pos rfl (Ev.now _)))))), .inl ⟨⟨h, hc, hs⟩, rfl⟩⟩
  ·exact ⟨([], false), Ev.bind c1 (Ev.bind ((sGapL l (by omega)).yes h) (Ev.pos rfl (go _ (Ev.bind ((sIsSG (irr l) (by omega)).no hs) (Ev.neg (by simp) (Ev.now _)))))), .inr ⟨fun k => hs k.2.2, rfl⟩⟩
end Go.Proofs.Ytddgegejeoihaaa.FFnArf
end
section
namespace Go.Proofs.Ytddgegejeoihaaa.FFnArf
open Go Go.RowKit Go.Proofs.YtddgegejeoihaaaW.PrintWords Go.Proofs.Ytddgegejeoihaaa.M Go.Proofs.Ytddgegejeoihaaa.PFnArf Go.Proofs.Ytddgegejeoihaaa.WM
attribute [local irreducible] con
inductive AC (l : List Int) : Int → Prop
 | base {n : Int} : Sums l n → AC l n
 | step {x y z : Int} : AC l x → AC l y → AC l z → z ≤ y → y ≤ x → AC l (x + y - z)
theorem AC.nonneg {l : List Int} (hp : ∀ x ∈ l, 1 ≤ x) {n : Int} (h : AC l n) : 0 ≤ n := by
 induction h with
 | base h => exact h.nonneg hp
 | step _ _ _ h1 h2 a b c => omega
def fals (t : List Bool) : Nat := (t.filter fun b => !b).length
theorem fals_set : ∀ (t : List Bool) (i : Nat), i < t.length → t.getD i false = false → fals (t.set i true) + 1 = fals t := by
 intro t
 induction t with
 | nil => intro i h; simp at h
 | cons b t ih =>
  intro i h hb
  cases i with
  | zero =>
   have : b = false := by simpa using hb
   subst this
   simp [fals]
  | succ i =>
   have := ih i (by simpa using h) (by simpa using hb)
   unfold fals at this ⊢
   cases b
   ·simp only [List.set_cons_succ, List.filter_cons, Bool.not_false, if_true, List.length_cons]; omega
   ·simp only [List.set_cons_succ, List.filter_cons, Bool.not_true, if_neg (show ¬ (false = true) by simp)]; omega
structure Good (l : List Int) (N L : Nat) (t : List Bool) : Prop where
 len : t.length = L
 le : N ≤ L
 sum : ∀ m : Nat, m < N → Sums l m → t.getD m false = true
 ac : ∀ m : Nat, m < N → t.getD m false = true → AC l m
theorem Good.set {l : List Int} {N L : Nat} {t : List Bool} (h : Good l N L t) {q : Nat} (hq : q < N) (ha : AC l q) : Good l N L (t.set q true) := by
 have hlt : q < t.length := by have := h.len; have := h.le; omega
 refine ⟨by rw [List.length_set]; exact h.len, h.le, fun m hm hs => ?_, fun m hm hs => ?_⟩
 ·rw [getD_set _ _ _ _ _ hlt]
  by_cases e : m = q
  ·rw [if_pos e]
  ·rw [if_neg e]; exact h.sum m hm hs
 ·rw [getD_set _ _ _ _ _ hlt] at hs
  by_cases e : m = q
  ·subst e; exact ha
  ·rw [if_neg e] at hs; exact h.ac m hm hs
structure Pass (l : List Int) (N L : Nat) (t0 t : List Bool) (ch : Bool) : Prop where
 good : Good l N L t
 same : ch = false → t = t0
 less : ch = true → fals t < fals t0
theorem Pass.set {l : List Int} {N L : Nat} {t0 t : List Bool} {ch : Bool} (h : Pass l N L t0 t ch) {q : Nat} (hq : q < N) (ha : AC l q) (hf : ¬ t.getD q false = true) : Pass l N L t0 (t.set q true) true := by
 have hlt : q < t.length := by have := h.good.len; have := h.good.le; omega
 refine ⟨h.good.set hq ha, fun k => by simp at k, fun _ => ?_⟩
 have := fals_set t q hlt (by simpa using hf)
 cases ch with
 | true => have := h.less rfl; omega
 | false => have := h.same rfl; subst this; omega
theorem closed_ac {l : List Int} (hp : ∀ x ∈ l, 1 ≤ x) {N L : Nat} {t : List Bool} (h : Good l N L t) (hc : ∀ x y z : Nat, z ≤ y → y ≤ x → t.getD x false = true → t.getD y false = true → t.getD z false = true → x + y - z < N → t.getD (x + y - z) false = true) (m : Nat) (hm : m < N) : t.getD m false = true ↔ AC l m := by
 refine ⟨h.ac m hm, fun ha => ?_⟩
 have key : ∀ n : Int, AC l n → n < N → t.getD n.toNat false = true := by
  intro n hn
  induction hn with
  | @base n hs =>
   intro hlt
   have := hs.nonneg hp
   exact h.sum n.toNat (by omega) (by rwa [Int.toNat_of_nonneg this])
  | @step x y z hx hy hz h1 h2 a b c =>
   intro hlt
   have x0 := hx.nonneg hp
   have y0 := hy.nonneg hp
   have z0 := hz.nonneg hp
   have := hc x.toNat y.toNat z.toNat (by omega) (by omega) (a (by omega)) (b (by omega)) (c (by omega)) (by omega)
   rwa [show (x + y - z).toNat = x.toNat + y.toNat - z.toNat by omega]
 have := key m ha (by omega)
 rwa [Int.toNat_natCast] at this
noncomputable def acUp (l : List Int) : Nat → List Int
 | 0 => []
 | n + 1 => open Classical in acUp l n ++ (if AC l n then [] else [(n : Int)])
theorem acUp_yes {l : List Int} {n : Nat} (h : AC l n) : acUp l (n + 1) = acUp l n := by
 conv => lhs; unfold acUp
 rw [if_pos h, List.append_nil]
theorem acUp_no {l : List Int} {n : Nat} (h : ¬ AC l n) : acUp l (n + 1) = acUp l n ++ [(n : Int)] := by
 conv => lhs; unfold acUp
 rw [if_neg h]
theorem acUp_len (l : List Int) (n : Nat) : (acUp l n).length ≤ n := by
 induction n with
 | zero => simp [acUp]
 | succ n ih =>
  by_cases c : AC l n
  ·rw [acUp_yes c]; omega
  ·rw [acUp_no c, List.length_append]; simp; omega
theorem acUp_mem (l : List Int) (n : Nat) (x : Int) : x ∈ acUp l n ↔ 0 ≤ x ∧ x < n ∧ ¬ AC l x := by
 induction n with
 | zero =>
  simp [acUp]
  intro h1 h2; omega
 | succ n ih =>
  by_cases c : AC l n
  ·rw [acUp_yes c, ih]
   refine ⟨fun h => ⟨h.1, by omega, h.2.2⟩, fun h => ⟨h.1, ?_, h.2.2⟩⟩
   rcases Int.lt_or_le x n with k | k
   ·exact k
   ·exact absurd c ((show x = (n : Int) by omega) ▸ h.2.2)
  ·rw [acUp_no c, List.mem_append, ih, List.mem_singleton]
   constructor
   ·rintro (h | rfl)
    ·exact ⟨h.1, by omega, h.2.2⟩
    ·exact ⟨by omega, by omega, c⟩
   ·rintro ⟨h1, h2, h3⟩
    rcases Int.lt_or_le x n with k | k
    ·exact .inl ⟨h1, k, h3⟩
    ·exact .inr (by omega)
noncomputable def agaps (l : List Int) : List Int := acUp l 201
theorem acUp_from (l : List Int) (c : Nat) (h : ∀ n : Nat, c ≤ n → AC l n) : ∀ d : Nat, acUp l (c + d) = acUp l c := by
 intro d
 induction d with
 | zero => rfl
 | succ d ih => rw [← Nat.add_assoc, acUp_yes (h _ (by omega)), ih]
theorem agaps_con {l : List Int} (h : IsSG l) : acUp l (con l) = agaps l := by
 have hc := con_le l
 unfold agaps
 have := acUp_from l (con l) (fun n hn => .base (sums_from h (by omega))) (201 - con l)
 rw [show con l + (201 - con l) = 201 by omega] at this
 exact this.symm
def CL (l : List Int) (r : List Int × Bool) : Prop := (IsSG l ∧ FGap (agaps l) r) ∨ (¬ IsSG l ∧ r = ([], false))
section
variable (l : List Int) (h : IsSG l) (r : List Int × Bool) (hr : Ev (fun k => impl_FromGaps.f k (agaps l)) r)
include h hr
omit h in
theorem iAC_l5 (t : List Bool) (ht : t.length = 201) (hac : ∀ m : Nat, m < 201 → (t.getD m false = true ↔ AC l m)) : ∀ (d n : Nat), 201 - n = d → n ≤ 201 → Ev (fun k => impl_ArfClosure.l5 k t (acUp l n) (t.length : Int) (n : Int)) r := by
 intro d
 induction d with
 | zero =>
  intro n hd hn
  have : n = 201 := by omega
  subst this
  refine Ev.step (fun _ => impl_ArfClosure.l5.eq_2 ..) (Ev.neg (by omega) (Ev.bind hr ?_))
  exact Ev.now _
 | succ d ih =>
  intro n hd hn
  have nx := ih (n + 1) (by omega) (by omega)
  have hlen := acUp_len l n
  refine Ev.step (fun _ => impl_ArfClosure.l5.eq_2 ..) (Ev.pos (by omega) (Ev.pos (by omega) (Ev.pos (by omega) ?_)))
  rw [rdOf_nat, w64s (by omega)]
  by_cases c : AC l n
  ·rw [acUp_yes c] at nx
   exact Ev.pos ((hac n (by omega)).2 c) nx
  ·rw [acUp_no c] at nx
   exact Ev.neg (fun k => c ((hac n (by omega)).1 k)) (Ev.pos (by omega) nx)
def trU (t : List Bool) : Nat → List Int
 | 0 => []
 | n + 1 => if t.getD n false = true then trU t n ++ [(n : Int)] else trU t n
omit h hr in
theorem trU_len (t : List Bool) (n : Nat) : (trU t n).length ≤ n := by
 induction n with
 | zero => simp [trU]
 | succ n ih => unfold trU; split <;> first | (simp; omega) | omega
omit h hr in
theorem trU_mem (t : List Bool) (n : Nat) (x : Int) : x ∈ trU t n ↔ 0 ≤ x ∧ x < n ∧ t.getD x.toNat false = true := by
 induction n with
 | zero =>
  simp [trU]
  intro h1 h2; omega
 | succ n ih =>
  unfold trU
  by_cases c : t.getD n false = true
  ·rw [if_pos c, List.mem_append, ih, List.mem_singleton]
   constructor
   ·rintro (k | rfl)
    ·exact ⟨k.1, by omega, k.2.2⟩
    ·exact ⟨by omega, by omega, by rwa [Int.toNat_natCast]⟩
   ·rintro ⟨h1, h2, h3⟩
    rcases Int.lt_or_le x n with k | k
    ·exact .inl ⟨h1, k, h3⟩
    ·exact .inr (by omega)
  ·rw [if_neg c, ih]
   refine ⟨fun k => ⟨k.1, by omega, k.2.2⟩, fun k => ⟨k.1, ?_, k.2.2⟩⟩
   rcases Int.lt_or_le x n with k2 | k2
   ·exact k2
   ·have : x.toNat = n := by omega
    rw [this] at k; exact absurd k.2.2 c
omit h hr in
theorem trU_asc (t : List Bool) (n : Nat) : (trU t n).Pairwise (· < ·) := by
 induction n with
 | zero => simp [trU]
 | succ n ih =>
  unfold trU
  split
  ·rw [List.pairwise_append]
   refine ⟨ih, by simp, fun a ha b hb => ?_⟩
   have := ((trU_mem t n a).1 ha).2.1
   rw [List.mem_singleton] at hb; omega
  ·exact ih
omit h hr in
theorem asc_le {L : List Int} (hL : L.Pairwise (· < ·)) {i j : Nat} (hij : i ≤ j) (hj : j < L.length) : L[i] ≤ L[j] := by
 rcases Nat.lt_or_ge i j with c | c
 ·exact Int.le_of_lt (List.pairwise_iff_getElem.1 hL i j (by omega) hj c)
 ·have : i = j := by omega
  subst this; exact Int.le_refl _
def OkI (t0 : List Bool) (L : List Int) (i j k : Nat) : Prop := L.getD i 0 + L.getD j 0 - L.getD k 0 < 201 → t0.getD (L.getD i 0 + L.getD j 0 - L.getD k 0).toNat false = true
omit h hr in
theorem iAC_l4 (Pre : Prop) (t0 : List Bool) (L : List Int) (hLs : L.Pairwise (· < ·)) (hLm : ∀ x ∈ L, 0 ≤ x ∧ x < 201 ∧ AC l x) (hLl : L.length ≤ 201) (i j : Nat) (hi : i < L.length) (hj : j ≤ i)
 (next : ∀ t ch, Pass l 201 201 t0 t ch → (ch = false → Pre ∧ ∀ k, k ≤ j → OkI t0 L i j k) → Ev (fun k => impl_ArfClosure.l3 k t ch L (rd L i) (L.length : Int) (i : Int) (L.take (i + 1)) ((L.take (i + 1)).length : Int) ((j + 1 : Nat) : Int)) r) :
 ∀ (d m : Nat) (t : List Bool) (ch : Bool), j + 1 - m = d → m ≤ j + 1 → Pass l 201 201 t0 t ch → (ch = false → Pre ∧ ∀ k, k < m → OkI t0 L i j k) →
  Ev (fun k => impl_ArfClosure.l4 k t ch L (rd L i) (rd (L.take (i + 1)) j) (L.length : Int) (i : Int) (L.take (i + 1)) ((L.take (i + 1)).length : Int) (j : Int) (L.take (j + 1)) ((L.take (j + 1)).length : Int) (m : Int)) r := by
 have l1 : (L.take (i + 1)).length = i + 1 := by rw [List.length_take]; omega
 have l2 : (L.take (j + 1)).length = j + 1 := by rw [List.length_take]; omega
 have hjl : j < L.length := by omega
 have ei : rd L (i : Int) = L[i] := rd_get hi
 have ej2 : rd (L.take (i + 1)) (j : Int) = L[j] := by rw [rd_get (by omega), List.getElem_take]
 have mi := hLm _ (List.getElem_mem hi)
 have mj := hLm _ (List.getElem_mem hjl)
 intro d
 induction d with
 | zero =>
  intro m t ch hd hm hP hok
  refine Ev.step (fun _ => impl_ArfClosure.l4.eq_2 ..) (Ev.neg (by omega) ?_)
  rw [w64s (by omega)]
  exact next t ch hP fun hf => ⟨(hok hf).1, fun k hk => (hok hf).2 k (by omega)⟩
 | succ d ih =>
  intro m t ch hd hm hP hok
  have hml : m < L.length := by omega
  have em2 : rd (L.take (j + 1)) (m : Int) = L[m] := by rw [rd_get (by omega), List.getElem_take]
  have mm := hLm _ (List.getElem_mem hml)
  have le1 := asc_le hLs (show m ≤ j by omega) hjl
  have le2 := asc_le hLs hj hi
  have e : wrap64 (wrap64 (L[i] + L[j]) - L[m]) = L[i] + L[j] - L[m] := by
   rw [w64 (x := L[i] + L[j]) (by omega) (by omega), w64 (by omega) (by omega)]
  have hOk : OkI t0 L i j m ↔ (L[i] + L[j] - L[m] < 201 → t0.getD (L[i] + L[j] - L[m]).toNat false = true) := by unfold OkI; rw [getD_get hi, getD_get hjl, getD_get hml]
  have tl := hP.good.len
  have more : ∀ ch', (ch' = false → ch = false ∧ OkI t0 L i j m) → ch' = false → Pre ∧ ∀ k, k < m + 1 → OkI t0 L i j k := by
   intro ch' h1 h2
   refine ⟨(hok (h1 h2).1).1, fun k hk => ?_⟩
   by_cases e' : k = m
   ·subst e'; exact (h1 h2).2
   ·exact (hok (h1 h2).1).2 k (by omega)
  refine Ev.step (fun _ => impl_ArfClosure.l4.eq_2 ..) (Ev.pos (by omega) (Ev.pos (by omega) (Ev.pos (by omega) ?_)))
  have ih' := fun t ch => ih (m + 1) t ch (by omega) (by omega)
  rw [ei, ej2] at ih' ⊢
  rw [em2, e, w64s (by omega)]
  obtain ⟨q, hq⟩ : ∃ q : Nat, L[i] + L[j] - L[m] = (q : Int) := ⟨(L[i] + L[j] - L[m]).toNat, by omega⟩
  rw [hq] at hOk ⊢
  rw [Int.toNat_natCast] at hOk ⊢
  by_cases c : (q : Int) < (t.length : Int)
  ·refine Ev.pos c (Ev.pos (by omega) ?_)
   rw [rdOf_nat]
   by_cases ct : t.getD q false = true
   ·refine Ev.pos ct (ih' t ch hP (more ch fun hf => ⟨hf, hOk.2 fun _ => ?_⟩))
    have := hP.same hf
    subst this; exact ct
   ·refine Ev.neg ct (ih' _ true (hP.set (by omega) ?_ ct) (more true fun hf => by simp at hf))
    rw [← hq]
    exact .step mi.2.2 mj.2.2 mm.2.2 le1 le2
  ·exact Ev.neg c (ih' t ch hP (more ch fun hf => ⟨hf, hOk.2 fun k => by omega⟩))
omit h hr in
theorem iAC_l3 (Pre : Prop) (t0 : List Bool) (L : List Int) (hLs : L.Pairwise (· < ·)) (hLm : ∀ x ∈ L, 0 ≤ x ∧ x < 201 ∧ AC l x) (hLl : L.length ≤ 201) (i : Nat) (hi : i < L.length)
 (next : ∀ t ch, Pass l 201 201 t0 t ch → (ch = false → Pre ∧ ∀ j k, j ≤ i → k ≤ j → OkI t0 L i j k) → Ev (fun k => impl_ArfClosure.l2 k t ch L (L.length : Int) ((i + 1 : Nat) : Int)) r) :
 ∀ (d m : Nat) (t : List Bool) (ch : Bool), i + 1 - m = d → m ≤ i + 1 → Pass l 201 201 t0 t ch → (ch = false → Pre ∧ ∀ j k, j < m → k ≤ j → OkI t0 L i j k) →
  Ev (fun k => impl_ArfClosure.l3 k t ch L (rd L i) (L.length : Int) (i : Int) (L.take (i + 1)) ((L.take (i + 1)).length : Int) (m : Int)) r := by
 have l1 : (L.take (i + 1)).length = i + 1 := by rw [List.length_take]; omega
 intro d
 induction d with
 | zero =>
  intro m t ch hd hm hP hok
  refine Ev.step (fun _ => impl_ArfClosure.l3.eq_2 ..) (Ev.neg (by omega) ?_)
  rw [w64s (by omega)]
  exact next t ch hP fun hf => ⟨(hok hf).1, fun j k hj hk => (hok hf).2 j k (by omega) hk⟩
 | succ d ih =>
  intro m t ch hd hm hP hok
  refine Ev.step (fun _ => impl_ArfClosure.l3.eq_2 ..) (Ev.pos (by omega) (Ev.pos (by omega) (Ev.pos (by omega) ?_)))
  rw [w64s (by omega), Int.toNat_natCast]
  refine Ev.pos (by omega) (Ev.pos (by omega) (Ev.call rfl ?_))
  refine iAC_l4 l r (Pre ∧ ∀ j k, j < m → k ≤ j → OkI t0 L i j k) t0 L hLs hLm hLl i m hi (by omega) (fun t' ch' hP' hk => ih (m + 1) t' ch' (by omega) (by omega) hP' fun hf => ⟨(hk hf).1.1, fun j k hj hkj => ?_⟩) (m + 1) 0 t ch (by omega) (by omega) hP (fun hf => ⟨hok hf, fun k hk => by omega⟩)
  by_cases e : j = m
  ·subst e; exact (hk hf).2 k hkj
  ·exact (hk hf).1.2 j k (by omega) hkj
omit h hr in
theorem iAC_l2 (t0 : List Bool) (L : List Int) (hLs : L.Pairwise (· < ·)) (hLm : ∀ x ∈ L, 0 ≤ x ∧ x < 201 ∧ AC l x) (hLl : L.length ≤ 201)
 (next : ∀ t ch, Pass l 201 201 t0 t ch → (ch = false → ∀ i j k, i < L.length → j ≤ i → k ≤ j → OkI t0 L i j k) → Ev (fun k => impl_ArfClosure.l0 k t ch) r) :
 ∀ (d m : Nat) (t : List Bool) (ch : Bool), L.length - m = d → m ≤ L.length → Pass l 201 201 t0 t ch → (ch = false → ∀ i j k, i < m → j ≤ i → k ≤ j → OkI t0 L i j k) → Ev (fun k => impl_ArfClosure.l2 k t ch L (L.length : Int) (m : Int)) r := by
 intro d
 induction d with
 | zero =>
  intro m t ch hd hm hP hok
  refine Ev.step (fun _ => impl_ArfClosure.l2.eq_2 ..) (Ev.neg (by omega) ?_)
  exact next t ch hP fun hf i j k hi hj hk => hok hf i j k (by omega) hj hk
 | succ d ih =>
  intro m t ch hd hm hP hok
  refine Ev.step (fun _ => impl_ArfClosure.l2.eq_2 ..) (Ev.pos (by omega) (Ev.pos (by omega) (Ev.pos (by omega) ?_)))
  rw [w64s (by omega), Int.toNat_natCast]
  refine Ev.pos (by omega) (Ev.pos (by omega) (Ev.call rfl ?_))
  refine iAC_l3 l r (∀ i j k, i < m → j ≤ i → k ≤ j → OkI t0 L i j k) t0 L hLs hLm hLl m (by omega) (fun t' ch' hP' hk => ih (m + 1) t' ch' (by omega) (by omega) hP' fun hf i j k hi hj hkj => ?_) (m + 1) 0 t ch (by omega) (by omega) hP (fun hf => ⟨hok hf, fun j k hj => by omega⟩)
  by_cases e : i = m
  ·subst e; exact (hk hf).2 j k hj hkj
  ·exact (hk hf).1 i j k (by omega) hj hkj
omit h hr in
theorem iAC_l1 (t : List Bool) (ht : t.length = 201) (ch : Bool) (next : Ev (fun k => impl_ArfClosure.l2 k t ch (trU t 201) ((trU t 201).length : Int) 0) r) : ∀ (d n : Nat), 201 - n = d → n ≤ 201 → Ev (fun k => impl_ArfClosure.l1 k t ch (trU t n) (t.length : Int) (n : Int)) r := by
 intro d
 induction d with
 | zero =>
  intro n hd hn
  have : n = 201 := by omega
  subst this
  exact Ev.step (fun _ => impl_ArfClosure.l1.eq_2 ..) (Ev.neg (by omega) next)
 | succ d ih =>
  intro n hd hn
  have nx := ih (n + 1) (by omega) (by omega)
  have hlen := trU_len t n
  refine Ev.step (fun _ => impl_ArfClosure.l1.eq_2 ..) (Ev.pos (by omega) (Ev.pos (by omega) (Ev.pos (by omega) ?_)))
  rw [rdOf_nat, w64s (by omega)]
  unfold trU at nx
  by_cases c : t.getD n false = true
  ·rw [if_pos c] at nx
   exact Ev.pos c (Ev.pos (by omega) nx)
  ·rw [if_neg c] at nx
   exact Ev.neg c nx
theorem iAC_l0 : ∀ (p : Nat) (t : List Bool), fals t = p → Good l 201 201 t → Ev (fun k => impl_ArfClosure.l0 k t true) r := by
 intro p
 induction p using Nat.strongRecOn with
 | _ p ih =>
  intro t hp hG
  have pos : ∀ x ∈ l, 1 ≤ x := fun x hx => (h.rng x hx).1
  have tl := hG.len
  have e0 : ∀ k, impl_ArfClosure.l0 (k + 1) t true = impl_ArfClosure.l1 k t false [] (t.length : Int) 0 := fun k => by rw [impl_ArfClosure.l0.eq_2, if_pos rfl]
  refine Ev.step e0 ?_
  refine iAC_l1 r t (by omega) false ?_ 201 0 (by omega) (by omega)
  have hLl := trU_len t 201
  refine iAC_l2 l r t (trU t 201) (trU_asc t 201) (fun x hx => ?_) hLl (fun t' ch hP hok => ?_) (trU t 201).length 0 t false (by omega) (by omega) ⟨hG, fun _ => rfl, fun k => by simp at k⟩ (fun _ i j k hi => by omega)
  ·have := (trU_mem t 201 x).1 hx
   refine ⟨this.1, this.2.1, ?_⟩
   have := hG.ac x.toNat (by omega) this.2.2
   rwa [Int.toNat_of_nonneg (by omega)] at this
  ·cases ch with
   | true => exact ih (fals t') (by have := hP.less rfl; omega) t' rfl hP.good
   | false =>
    have := hP.same rfl
    subst this
    have hok := hok rfl
    have hac := closed_ac pos hG (fun x y z h1 h2 hx hy hz hlt => by
     have tm : ∀ x : Nat, t'.getD x false = true → (x : Int) ∈ trU t' 201 := by
      intro x hx
      refine (trU_mem t' 201 x).2 ⟨by omega, ?_, by rwa [Int.toNat_natCast]⟩
      rcases Nat.lt_or_ge x 201 with c | c
      ·omega
      ·rw [List.getD_eq_getElem?_getD, List.getElem?_eq_none (by omega)] at hx
       simp at hx
     obtain ⟨i, hi, ei⟩ := List.getElem_of_mem (tm x hx)
     obtain ⟨j, hj, ej⟩ := List.getElem_of_mem (tm y hy)
     obtain ⟨k, hk, ek⟩ := List.getElem_of_mem (tm z hz)
     have idx : ∀ a b : Nat, (ha : a < (trU t' 201).length) → (hb : b < (trU t' 201).length) → (trU t' 201)[a] ≤ (trU t' 201)[b] → a ≤ b := by
      intro a b ha hb hle
      rcases Nat.lt_or_ge b a with c | c
      ·have := List.pairwise_iff_getElem.1 (trU_asc t' 201) b a hb ha c
       omega
      ·exact c
     have := hok i j k hi (idx j i hj hi (by omega)) (idx k j hk hj (by omega))
     unfold OkI at this
     rw [getD_get hi, getD_get hj, getD_get hk, ei, ej, ek] at this
     have := this (by omega)
     rwa [show ((x : Int) + y - z).toNat = x + y - z by omega] at this)
    have e1 : ∀ k, impl_ArfClosure.l0 (k + 1) t' false = impl_ArfClosure.l5 k t' [] (t'.length : Int) 0 := fun k => by rw [impl_ArfClosure.l0.eq_2, if_neg (by simp)]
    exact Ev.step e1 (iAC_l5 l r hr t' (by omega) hac 201 0 (by omega) (by omega))
end
theorem iCL (l : List Int) (hl : l.length ≤ 1048576) : ∃ r, Ev (fun k => impl_ArfClosure.f k l) r ∧ CL l r := by
 unfold impl_ArfClosure.f
 by_cases h : IsSG l
 ·have hal := acUp_len l 201
  obtain ⟨r, hr, hF⟩ := iFGap (agaps l) (by unfold agaps; omega)
  obtain ⟨t, t1, t2, t3⟩ := iTable l h 200 (by omega)
  exact ⟨r, Ev.bind ((iIsSG l hl).yes h) (Ev.pos rfl (Ev.bind t1 (iAC_l0 l h r hr (fals t) t rfl ⟨by omega, by omega, fun m hm hs => (t3 m (by omega)).2 hs, fun m hm hs => .base ((t3 m (by omega)).1 hs)⟩))), .inl ⟨h, hF⟩⟩
 ·exact ⟨_, Ev.bind ((iIsSG l hl).no h) (Ev.neg (by simp) (Ev.now _)), .inr ⟨h, rfl⟩⟩
end Go.Proofs.Ytddgegejeoihaaa.FFnArf
end
