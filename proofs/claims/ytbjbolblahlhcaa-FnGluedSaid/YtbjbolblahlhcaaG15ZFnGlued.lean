/- Part 15 of the claim for FnGlued, of the chain from the printed contracts and the plain laws to the row. It has no condition of its own. -/
import Derived.Test.YtbjbolblahlhcaaG14ZFnGlued
import Derived.Test.YtbjbolblahlhcaaG13ZFnGlued
import Derived.SizedLaws
import Derived.ChangeSlices
section
namespace Go.Proofs.Ytbjbolblahlhcaa.FFnGlued
open Go Go.RowKit Go.Proofs.YtbjbolblahlhcaaW.PrintWords Go.Proofs.Ytbjbolblahlhcaa.M Go.Proofs.Ytbjbolblahlhcaa.PFnGlued
theorem minOf_sums : ∀ (t seen out : List Int), (∀ n, Sums out n ↔ Sums seen n) → ∀ n, Sums (out ++ minOf seen t) n ↔ Sums (seen ++ t) n := by
 intro t
 induction t with
 | nil => intro seen out h n; simpa [minOf] using h n
 | cons x t ih =>
  intro seen out h n
  unfold minOf
  have e : seen ++ x :: t = seen ++ [x] ++ t := by simp
  rw [e]
  by_cases c : Sums seen x
  ·rw [if_pos c]
   refine ih _ _ (fun m => (h m).trans ⟨Sums.mono fun y hy => List.mem_append_left _ hy, Sums.sub fun y hy => ?_⟩) n
   rcases List.mem_append.1 hy with k | k
   ·exact .one k
   ·rw [List.mem_singleton] at k; subst k; exact c
  ·rw [if_neg c]
   have e2 : out ++ x :: minOf (seen ++ [x]) t = out ++ [x] ++ minOf (seen ++ [x]) t := by simp
   rw [e2]
   exact ih _ _ (sums_append_congr h) n
theorem FG.sums {l g : List Int} (h : FG l (g, true)) (n : Int) : Sums g n ↔ Sums l n := by
 obtain ⟨s, hs, ⟨_, _, e⟩ | ⟨_, e⟩⟩ := h
 ·injection e with e _
  subst e
  have := minOf_sums s [] [] (fun _ => Iff.rfl) n
  rw [List.nil_append, List.nil_append] at this
  exact this.trans ⟨Sums.mono fun x hx => (hs.2.1 x).1 hx, Sums.mono fun x hx => (hs.2.1 x).2 hx⟩
 ·injection e with _ e; cases e
theorem _root_.Go.Proofs.Ytbjbolblahlhcaa.M.NS.uniq {A B : Int → Prop} {f g : Int} (h : NS A f) (k : NS B g) (e : ∀ n, A n ↔ B n) : f = g := by
 rcases Int.lt_trichotomy f g with c | c | c
 ·exact absurd ((e _).1 (h.all _ c)) k.not
 ·exact c
 ·exact absurd ((e _).2 (k.all _ c)) h.not
theorem sym_congr {A B : Int → Prop} {f : Int} (e : ∀ n, A n ↔ B n) : Sym A f ↔ Sym B f := by
 unfold Sym
 constructor <;> intro h u <;> have := h u <;> rw [e, e] at * <;> assumption
theorem nsSG {l : List Int} (h : IsSG l) : NS (Sums l) (lastOf (gaps l)) := by
 have hm : ∀ x : Int, x ∈ gaps l ↔ 0 ≤ x ∧ x < 200 ∧ ¬ Sums l x := fun x => gapsUp_mem l 200 x
 have ha : (gaps l).Pairwise (· < ·) := gapsUp_asc l 200
 have hpos : ∀ x ∈ l, 1 ≤ x := fun x hx => (h.rng x hx).1
 revert hm ha
 generalize gaps l = g
 intro hm ha
 refine ⟨.zero, fun _ _ => Sums.trans, fun a k => k.nonneg hpos, ?_, ?_⟩
 ·unfold lastOf
  by_cases c : g.length = 0
  ·rw [if_pos c]; intro k; have := k.nonneg hpos; omega
  ·rw [if_neg c, getD_get (by omega)]
   exact ((hm _).1 (List.getElem_mem _)).2.2
 ·intro n hn
  refine Classical.byContradiction fun k => ?_
  by_cases c : 200 ≤ n
  ·exact k (h.ends n c)
  ·unfold lastOf at hn
   by_cases c0 : g.length = 0
   ·rw [if_pos c0] at hn
    have : n ∈ g := (hm n).2 ⟨by omega, by omega, k⟩
    rw [List.length_eq_zero_iff.1 c0] at this
    simp at this
   ·rw [if_neg c0, getD_get (by omega)] at hn
    have h0 := ((hm _).1 (List.getElem_mem (l := g) (n := g.length - 1) (by omega))).1
    obtain ⟨i, hi, hx⟩ := List.mem_iff_getElem.1 ((hm n).2 ⟨by omega, by omega, k⟩)
    by_cases e : i = g.length - 1
    ·subst e; omega
    ·have := List.pairwise_iff_getElem.1 ha i (g.length - 1) hi (by omega) (by omega)
     omega
theorem last_bd' (l : List Int) : -1 ≤ lastOf (gaps l) ∧ lastOf (gaps l) < 200 := by
 have hm : ∀ x : Int, x ∈ gaps l → 0 ≤ x ∧ x < 200 ∧ ¬ Sums l x := fun x hx => (gapsUp_mem l 200 x).1 hx
 revert hm
 generalize gaps l = g
 intro hm
 unfold lastOf
 by_cases c : g.length = 0
 ·rw [if_pos c]; omega
 ·rw [if_neg c, getD_get (by omega)]
  have := hm _ (List.getElem_mem (l := g) (n := g.length - 1) (by omega))
  omega
theorem mirror_l0 (l : List Int) (h : IsSG l) (f : Int) (hf : -1 ≤ f ∧ f < 200) : ∀ (d j : Nat), (f + 1 - j).toNat = d → (j : Int) ≤ f + 1 → EvB (fun k => spec_l9Mirror.l0 k false f (j : Int) l) (∀ x : Int, (j : Int) ≤ x → x ≤ f → (Sums l x ↔ ¬ Sums l (f - x))) := by
 intro d
 induction d with
 | zero =>
  intro j hd hj
  refine EvB.step (fun _ => spec_l9Mirror.l0.eq_2 ..) (EvB.neg (by omega) (EvB.of_true (Ev.now _) fun x h1 h2 => by omega))
 | succ d ih =>
  intro j hd hj
  have hlt : (j : Int) ≤ f := by omega
  have nx := ih (j + 1) (by omega) (by omega)
  obtain ⟨p, p1, p2⟩ := sHas l h (j : Int)
  obtain ⟨q, q1, q2⟩ := sHas l h (f - j)
  have pj : p = true ↔ Sums l j := p2.trans ⟨fun k => k.2, fun k => ⟨by omega, k⟩⟩
  have qj : q = true ↔ Sums l (f - j) := q2.trans ⟨fun k => k.2, fun k => ⟨by omega, k⟩⟩
  refine EvB.step (fun _ => spec_l9Mirror.l0.eq_2 ..) (EvB.pos hlt (EvB.neg (by simp) ?_))
  refine EvB.step (fun _ => spec_l9Mirror.j1.eq_2 ..) (EvB.neg (by simp) ?_)
  rw [w64 (x := f - j) (by omega) (by omega), w64s (by omega)]
  refine EvB.bind p1 (EvB.bind q1 ?_)
  by_cases e : (p == q) = true
  ·refine EvB.pos e (EvB.of_false (Ev.now _) fun k => ?_)
   have := k j (Int.le_refl _) hlt
   rw [beq_iff_eq] at e
   rw [← pj, ← qj, e] at this
   exact (iff_not_self this)
  ·refine EvB.neg e (nx.iff ⟨fun k x h1 h2 => ?_, fun k x h1 h2 => k x (by omega) h2⟩)
   by_cases c : x = j
   ·subst c
    rw [← pj, ← qj]
    cases p <;> cases q <;> simp_all
   ·exact k x (by omega) h2
theorem sSymm (l : List Int) (hl : l.length ≤ 1048576) : EvB (fun k => spec_IsSymmetric.f k l) (IsSG l ∧ Sym (Sums l) (lastOf (gaps l))) := by
 unfold spec_IsSymmetric.f
 by_cases h : IsSG l
 case neg => exact EvB.bind ((sIsSG l hl).no h) (EvB.neg (by simp) (EvB.of_false (Ev.now _) fun k => h k.1))
 refine EvB.bind ((sIsSG l hl).yes h) (EvB.pos rfl ?_)
 obtain ⟨g, h1, h2, _⟩ := frobBoth l hl
 have hg : g = gaps l := by
  rcases h1 with ⟨_, e⟩ | ⟨n, _⟩
  ·exact e
  ·exact absurd h n
 rw [hg] at h2
 have hns := nsSG h
 have hbd := last_bd' l
 revert h2 hns hbd
 generalize lastOf (gaps l) = f
 intro h2 hns hbd
 obtain ⟨b, m1, m2⟩ := mirror_l0 l h f hbd _ 0 rfl (by omega)
 refine EvB.bind (a := b) ?_ ⟨b, Ev.now _, m2.trans ⟨fun k => ⟨h, fun u => ?_⟩, fun k x _ _ => k.2 x⟩⟩
 ·unfold spec_l9Mirror.f
  exact Ev.bind h2 m1
 ·rcases Int.lt_or_le u 0 with c | c
  ·exact ⟨fun s => by have := hns.nonneg _ s; omega, fun s => absurd (hns.all (f - u) (by omega)) s⟩
  ·rcases Int.lt_or_le f u with c2 | c2
   ·exact ⟨fun _ s => by have := hns.nonneg _ s; omega, fun _ => hns.all u c2⟩
   ·exact k u (by omega) c2
theorem GL.gl {a b g : List Int} {x y : Int} (h : GL a b x y (g, true)) : IsSG a ∧ IsSG b ∧ IsSG g ∧ (1 ≤ x ∧ x ≤ 60) ∧ (1 ≤ y ∧ y ≤ 60) ∧ Gl (Sums a) (Sums b) (Sums g) (lastOf (gaps a)) (lastOf (gaps b)) x y := by
 rcases h with ⟨hc, hf⟩ | ⟨_, e⟩
 ·obtain ⟨⟨⟨hb, _, hbx⟩, ⟨ha, _, hay⟩⟩, _, ⟨hx, hy⟩, hg⟩ := hc
  refine ⟨ha, hb, hf.ok, hx, hy, nsSG ha, nsSG hb, hx.1, hy.1, hg, hbx, hay, fun n => ?_⟩
  rw [hf.sums n]
  exact sums_glue
 ·injection e with _ e; cases e
theorem glueFrob2 (a b : List Int) (x y : Int) (r : List Int × Bool) (ha : a.length ≤ 1048576) (hb : b.length ≤ 1048576) (hr : GL a b x y r) : ∃ n, Ev (fun k => spec_GlueFrobenius.f k a b x y) n ∧ Ev (fun k => impl_GlueFrobenius.f k a b x y) n ∧ (r.2 = true → n = lastOf (gaps r.1)) := by
 obtain ⟨r1, a1, a2⟩ := sGL a b x y ha hb
 obtain ⟨r2, b1, b2⟩ := iGL a b x y ha hb
 have := a2.uniq hr
 subst this
 have := b2.uniq hr
 subst this
 obtain ⟨g, b'⟩ := r2
 unfold spec_GlueFrobenius.f impl_GlueFrobenius.f
 cases b' with
 | true =>
  obtain ⟨sa, sb, sg, hx, hy, G⟩ := hr.gl
  obtain ⟨ga, ga1, c1, c2⟩ := frobBoth a ha
  obtain ⟨gb, gb1, d1, d2⟩ := frobBoth b hb
  have ea : ga = gaps a := by
   rcases ga1 with ⟨_, e⟩ | ⟨n, _⟩
   ·exact e
   ·exact absurd sa n
  have eb : gb = gaps b := by
   rcases gb1 with ⟨_, e⟩ | ⟨n, _⟩
   ·exact e
   ·exact absurd sb n
  rw [ea] at c1 c2
  rw [eb] at d1 d2
  have key := (nsSG sg).uniq G.frob fun _ => Iff.rfl
  have ba := last_bd' a
  have bb := last_bd' b
  have bg := last_bd' g
  revert c1 c2 d1 d2 key ba bb bg
  simp only
  generalize lastOf (gaps a) = fa
  generalize lastOf (gaps b) = fb
  generalize lastOf (gaps g) = fg
  intro c1 c2 d1 d2 key ba bb bg
  have m1 : -60 ≤ x * fa ∧ x * fa ≤ 12000 := by
   have h1 : x * (-1) ≤ x * fa := Int.mul_le_mul_of_nonneg_left (by omega) (by omega)
   have h2 : x * fa ≤ x * 200 := Int.mul_le_mul_of_nonneg_left (by omega) (by omega)
   omega
  have m2 : -60 ≤ y * fb ∧ y * fb ≤ 12000 := by
   have h1 : y * (-1) ≤ y * fb := Int.mul_le_mul_of_nonneg_left (by omega) (by omega)
   have h2 : y * fb ≤ y * 200 := Int.mul_le_mul_of_nonneg_left (by omega) (by omega)
   omega
  have m3 : 0 ≤ x * y ∧ x * y ≤ 3600 := mul_bd hx hy
  have e : wrap64 ((wrap64 ((wrap64 (x * fa)) + (wrap64 (y * fb)))) + (wrap64 (x * y))) = fg := by
   rw [w64 (x := x * fa) (by omega) (by omega), w64 (x := y * fb) (by omega) (by omega), w64 (x := x * y) (by omega) (by omega), w64 (x := x * fa + y * fb) (by omega) (by omega), w64 (by omega) (by omega)]
   omega
  refine ⟨fg, Ev.bind a1 (Ev.pos rfl (Ev.bind c1 (Ev.bind d1 ?_))), Ev.bind b1 (Ev.pos rfl (Ev.bind c2 (Ev.bind d2 ?_))), fun _ => rfl⟩
  ·rw [e]; exact Ev.now _
  ·rw [e]; exact Ev.now _
 | false => exact ⟨_, Ev.bind a1 (Ev.neg (by simp) (Ev.now _)), Ev.bind b1 (Ev.neg (by simp) (Ev.now _)), fun h => by simp at h⟩
end Go.Proofs.Ytbjbolblahlhcaa.FFnGlued
end
section
namespace Go.Proofs.Ytbjbolblahlhcaa.FFnGlued
open Go Go.RowKit Go.Proofs.YtbjbolblahlhcaaW.PrintWords Go.Proofs.Ytbjbolblahlhcaa.M Go.Proofs.Ytbjbolblahlhcaa.PFnGlued
theorem gcd_rng {l : List Int} (h0 : 1 ≤ l.length) (hr : InR 1 60 l) : 1 ≤ gcdL l ∧ gcdL l ≤ 60 := by
 have hx := hr _ (List.getElem_mem (l := l) (n := 0) (by omega))
 have hd := gcdL_dvd (List.getElem_mem (l := l) (n := 0) (by omega))
 have hle := Int.le_of_dvd (by omega) hd
 refine ⟨?_, by omega⟩
 rcases Nat.eq_zero_or_pos (gcdL l) with c | c
 ·rw [c] at hd
  have := Int.zero_dvd.1 (by simpa using hd)
  omega
 ·exact c
theorem sGenerates (l : List Int) (hl : l.length ≤ 1000000) (n : Int) (h0 : 0 ≤ n) (hn : n ≤ 3600) : EvB (fun k => spec_Generates.f k l n) (Use l ∧ Sums l n) := by
 unfold spec_Generates.f
 by_cases hu : Use l
 case neg => exact EvB.bind ((l3Gens l (by omega)).no hu) (EvB.neg (by simp) (EvB.step (fun _ => spec_Generates.j0.eq_2 ..) (EvB.pos rfl (EvB.of_false (Ev.now _) fun h => hu h.1))))
 have hg := gcd_rng hu.2.1 hu.1
 refine EvB.bind ((l3Gens l (by omega)).yes hu) (EvB.pos rfl (EvB.call (l1In _ _ _) ?_))
 rw [decide_eq_true (show 0 ≤ n ∧ n ≤ 1000000 by omega)]
 refine EvB.step (fun _ => spec_Generates.j0.eq_2 ..) (EvB.neg (by simp) ?_)
 refine EvB.bind (sGcdList l (by omega) (hu.1.mono (Int.le_refl _) (by omega))) (EvB.neg (by omega) ?_)
 rw [tmod_pos h0]
 by_cases c : n % (gcdL l : Int) = 0
 ·refine EvB.pos c ?_
  obtain ⟨q, rfl⟩ : ∃ q : Nat, n = (q : Int) := ⟨n.toNat, by omega⟩
  obtain ⟨t, h1, h2, h3⟩ := l3Table l (by omega) (hu.1.mono (Int.le_refl _) (by omega)) q (by omega)
  refine EvB.neg (by omega) (EvB.bind h1 (EvB.pos (by omega) (EvB.pos (by omega) ⟨t.getD q false, ?_, ?_⟩)))
  ·rw [rdOf_nat]; exact Ev.now _
  ·rw [h3 q (Nat.le_refl _)]; exact ⟨fun k => ⟨hu, k⟩, fun k => k.2⟩
 ·refine EvB.neg c (EvB.of_false (Ev.now _) fun h => c ?_)
  exact Int.emod_eq_zero_of_dvd (h.2.dvd fun x hx => gcdL_dvd hx)
def TC (l : List Int) : Prop := (Use l ∧ gcdL l = 1) ∧ ∀ (i : Nat) (h : i < l.length), 1 ≤ i → Sums (tel l i) (l[i] / dg l (i + 1))
theorem dg_rng {l : List Int} (h : InR 1 60 l) {i : Nat} (h1 : 1 ≤ i) (h2 : i ≤ l.length) : 1 ≤ dg l i ∧ dg l i ≤ 60 := by
 have := gcd_rng (l := l.take i) (by rw [List.length_take]; omega) (h.sub fun x hx => List.mem_of_mem_take hx)
 unfold dg; omega
theorem tel_use {l : List Int} (h : Use l) {i : Nat} (h1 : 1 ≤ i) (h2 : i ≤ l.length) : Use (tel l i) := by
 have hd := dg_rng h.1 h1 h2
 refine ⟨fun x hx => ?_, ?_, ?_⟩
 ·unfold tel at hx
  obtain ⟨g, hg, rfl⟩ := List.mem_map.1 hx
  have hgr := h.1 g (List.mem_of_mem_take hg)
  obtain ⟨q, hq⟩ := dg_dvd hg
  have e : g / dg l i = q := by rw [hq]; exact Int.mul_ediv_cancel_left _ (by omega)
  show 1 ≤ g / dg l i ∧ g / dg l i ≤ 60
  rw [e]
  have q1 : 1 ≤ q := by
   rcases Int.lt_or_le q 1 with c | c
   ·have : dg l i * q ≤ 0 := Int.mul_nonpos_of_nonneg_of_nonpos (by omega) (by omega)
    omega
   ·exact c
  have : 1 * q ≤ dg l i * q := Int.mul_le_mul_of_nonneg_right (by omega) (by omega)
  omega
 ·unfold tel; rw [List.length_map, List.length_take]; omega
 ·unfold tel; rw [List.length_map, List.length_take]; have := h.2.2; omega
theorem tdiv_pos {a b : Int} (h : 0 ≤ a) : Int.tdiv a b = a / b := Int.tdiv_eq_ediv_of_nonneg h
theorem quo_bd {l : List Int} (h : InR 1 60 l) {i : Nat} (hi : i < l.length) : 0 ≤ l[i] / dg l (i + 1) ∧ l[i] / dg l (i + 1) ≤ 60 := by
 have hx := h _ (List.getElem_mem hi)
 have hd := dg_rng h (i := i + 1) (by omega) hi
 exact ⟨Int.ediv_nonneg (by omega) (by omega), Int.le_trans (Int.ediv_le_self _ (by omega)) hx.2⟩
theorem over_l0 (l : List Int) (hl : l.length ≤ 1000000) (hr : InR 1 60 l) (d : Int) (hd : 1 ≤ d ∧ d ≤ 60) : ∀ (n j : Nat) (acc : List Int), l.length - j = n → j ≤ l.length → acc.length ≤ j → Ev (fun k => spec_l22Over.l0 k l d acc (j : Int)) (acc ++ (l.drop j).map (· / d)) := by
 intro n
 induction n with
 | zero =>
  intro j acc hn hj ha
  rw [List.drop_of_length_le (by omega), List.map_nil, List.append_nil]
  exact Ev.step (fun _ => spec_l22Over.l0.eq_2 ..) (Ev.neg (by omega) (Ev.now _))
 | succ n ih =>
  intro j acc hn hj ha
  have hlt : j < l.length := by omega
  have hx := hr _ (List.getElem_mem hlt)
  have h1 : 0 ≤ l[j] / d := Int.ediv_nonneg (by omega) (by omega)
  have h2 : l[j] / d ≤ l[j] := Int.ediv_le_self _ (by omega)
  refine Ev.step (fun _ => spec_l22Over.l0.eq_2 ..) (Ev.pos (by omega) (Ev.pos (by omega) (Ev.neg (by omega) (Ev.pos (by omega) ?_))))
  rw [w64s (by omega), rd_get hlt, tdiv_pos (by omega), w64 (by omega) (by omega)]
  have := ih (j + 1) (acc ++ [l[j] / d]) (by omega) (by omega) (by simp <;> omega)
  rw [drop_cons hlt, List.map_cons]
  rwa [List.append_assoc, List.singleton_append] at this
theorem over (l : List Int) (hl : l.length ≤ 1000000) (hr : InR 1 60 l) (d : Int) (hd : 1 ≤ d ∧ d ≤ 60) : Ev (fun k => spec_l22Over.f k l d) (l.map (· / d)) := by
 have := over_l0 l hl hr d hd l.length 0 [] (by omega) (by omega) (by simp)
 rw [List.nil_append, List.drop_zero] at this
 exact this
theorem takeGcd (l : List Int) (h : Use l) {i : Nat} (h2 : i ≤ l.length) : Ev (fun k => spec_GcdOfList.f k (l.take i)) (dg l i) ∧ Ev (fun k => impl_GcdOfList.f k (l.take i)) (dg l i) := by
 have hr : InR 1 1000000 (l.take i) := (h.1.sub fun x hx => List.mem_of_mem_take hx).mono (Int.le_refl _) (by omega)
 have hle : (l.take i).length ≤ 4611686018427387904 := by rw [List.length_take]; have := h.2.2; omega
 exact ⟨sGcdList _ hle hr, iGcdList _ hle hr⟩
theorem sTel_l0 (l : List Int) (h : Use l) : ∀ (n j : Nat), l.length - j = n → 1 ≤ j → j ≤ l.length → EvB (fun k => spec_IsTelescopic.l0 k l (j : Int)) (∀ (i : Nat) (h : i < l.length), j ≤ i → Sums (tel l i) (l[i] / dg l (i + 1))) := by
 have hle := h.2.2
 intro n
 induction n with
 | zero =>
  intro j hn h1 h2
  exact EvB.step (fun _ => spec_IsTelescopic.l0.eq_2 ..) (EvB.neg (by omega) (EvB.of_true (Ev.now _) fun i h3 h4 => by omega))
 | succ n ih =>
  intro j hn h1 h2
  have hlt : j < l.length := by omega
  have hd := dg_rng h.1 h1 h2
  have hd1 := dg_rng h.1 (i := j + 1) (by omega) hlt
  have hq := quo_bd h.1 hlt
  have hx := h.1 _ (List.getElem_mem hlt)
  refine EvB.step (fun _ => spec_IsTelescopic.l0.eq_2 ..) (EvB.pos (by omega) (EvB.pos (by omega) (EvB.pos (by omega) ?_)))
  rw [w64s (by omega), Int.toNat_natCast, Int.toNat_natCast, rd_get hlt]
  refine EvB.bind (takeGcd l h h2).1 (EvB.pos (by omega) (EvB.pos (by omega) (EvB.bind (takeGcd l h (i := j + 1) hlt).1 ?_)))
  refine EvB.bind (over (l.take j) (by rw [List.length_take]; omega) (h.1.sub fun x hx => List.mem_of_mem_take hx) (dg l j) hd) (EvB.neg (by omega) ?_)
  rw [tdiv_pos (by omega), w64 (by omega) (by omega)]
  have hu := tel_use h h1 h2
  have hG := sGenerates (tel l j) (by have := hu.2.2; omega) (l[j] / dg l (j + 1)) hq.1 (by omega)
  by_cases c : Sums (tel l j) (l[j] / dg l (j + 1))
  ·refine EvB.bind (hG.yes ⟨hu, c⟩) (EvB.pos rfl ((ih (j + 1) (by omega) (by omega) hlt).iff ⟨fun k i h3 h4 => ?_, fun k i h3 h4 => k i h3 (by omega)⟩))
   by_cases e : i = j
   ·subst e; exact c
   ·exact k i h3 (by omega)
  ·exact EvB.bind (hG.no fun k => c k.2) (EvB.neg (by simp) (EvB.of_false (Ev.now _) fun k => c (k j hlt (Nat.le_refl _))))
theorem sTel (l : List Int) (hl : l.length ≤ 1048576) : EvB (fun k => spec_IsTelescopic.f k l) (TC l) := by
 unfold spec_IsTelescopic.f
 by_cases hu : Use l
 case neg => exact EvB.bind ((l3Gens l (by omega)).no hu) (EvB.neg (by simp) (EvB.step (fun _ => spec_IsTelescopic.j0.eq_2 ..) (EvB.pos rfl (EvB.of_false (Ev.now _) fun h => hu h.1.1))))
 refine EvB.bind ((l3Gens l (by omega)).yes hu) (EvB.pos rfl (EvB.bind (sGcdList l (by omega) (hu.1.mono (Int.le_refl _) (by omega))) (EvB.step (fun _ => spec_IsTelescopic.j0.eq_2 ..) ?_)))
 by_cases hg : gcdL l = 1
 case neg => exact EvB.pos (by rw [bne_iff_ne]; omega) (EvB.of_false (Ev.now _) fun h => hg h.1.2)
 refine EvB.neg (by rw [hg]; simp) ((sTel_l0 l hu (l.length - 1) 1 rfl (by omega) hu.2.1).iff ⟨fun k => ⟨⟨hu, hg⟩, fun i h1 h2 => k i h1 h2⟩, fun k i h1 h2 => k.2 i h1 h2⟩)
def shr (l : List Int) : List Int := (List.range l.length).map fun i => dg l (i + 1)
theorem shr_len (l : List Int) : (shr l).length = l.length := by unfold shr; rw [List.length_map, List.length_range]
theorem rd_shr {l : List Int} {i : Nat} (h : i < l.length) : rd (shr l) (i : Int) = dg l (i + 1) := by
 rw [rd_get (by rw [shr_len]; exact h)]
 unfold shr
 rw [List.getElem_map, List.getElem_range]
theorem shared_l0 (l : List Int) (h : Use l) : ∀ (n j : Nat), l.length - j = n → j ≤ l.length → Ev (fun k => impl_shared.l0 k l ((List.range j).map fun i => dg l (i + 1)) (l.length : Int) (j : Int)) (shr l) := by
 have hle := h.2.2
 intro n
 induction n with
 | zero =>
  intro j hn hj
  have : j = l.length := by omega
  subst this
  exact Ev.step (fun _ => impl_shared.l0.eq_2 ..) (Ev.neg (by omega) (Ev.now _))
 | succ n ih =>
  intro j hn hj
  have hlt : j < l.length := by omega
  refine Ev.step (fun _ => impl_shared.l0.eq_2 ..) (Ev.pos (by omega) ?_)
  rw [w64s (by omega), Int.toNat_natCast]
  refine Ev.pos (by omega) (Ev.pos (by omega) (Ev.bind (takeGcd l h (i := j + 1) hlt).2 (Ev.pos (by simp; omega) ?_)))
  have := ih (j + 1) (by omega) hlt
  rw [List.range_succ, List.map_append] at this
  exact this
theorem shared (l : List Int) (h : Use l) : Ev (fun k => impl_shared.f k l) (shr l) := shared_l0 l h l.length 0 (by omega) (by omega)
theorem iTel_l1 (l : List Int) (h : Use l) (i : Nat) (h1 : 1 ≤ i) (h2 : i < l.length) (P : Prop) (hnext : EvB (fun k => impl_IsTelescopic.l0 k l (shr l) ((i + 1 : Nat) : Int)) P) :
 ∀ (n j : Nat) (acc : List Int), i - j = n → j ≤ i → acc.length = j → acc ++ ((l.take i).drop j).map (· / dg l i) = tel l i → EvB (fun k => impl_IsTelescopic.l1 k l (shr l) (i : Int) acc (l.take i) ((l.take i).length : Int) (j : Int)) (Sums (tel l i) (l[i] / dg l (i + 1)) ∧ P) := by
 have hle := h.2.2
 have hlen : (l.take i).length = i := by rw [List.length_take]; omega
 have hsl := shr_len l
 have hd := dg_rng h.1 h1 (Nat.le_of_lt h2)
 have hd1 := dg_rng h.1 (i := i + 1) (by omega) h2
 have hq := quo_bd h.1 h2
 have hxi := h.1 _ (List.getElem_mem h2)
 have es : rd (shr l) ((i : Int) - 1) = dg l i := by
  have := rd_shr (l := l) (i := i - 1) (by omega)
  rw [show i - 1 + 1 = i by omega, show ((i - 1 : Nat) : Int) = (i : Int) - 1 by omega] at this
  exact this
 intro n
 induction n with
 | zero =>
  intro j acc hn hj ha he
  have : j = i := by omega
  subst this
  rw [List.drop_of_length_le (by omega), List.map_nil, List.append_nil] at he
  subst he
  have hu := tel_use h h1 (Nat.le_of_lt h2)
  refine EvB.step (fun _ => impl_IsTelescopic.l1.eq_2 ..) (EvB.neg (by omega) (EvB.pos (by omega) (EvB.pos (by omega) (EvB.pos (by omega) ?_))))
  rw [rd_shr h2, rd_get h2, tdiv_pos (by omega), w64 (by omega) (by omega), w64s (by omega)]
  refine EvB.neg (by omega) ?_
  have hG := iGenerates (tel l j) (by have := hu.2.2; omega) (l[j] / dg l (j + 1))
  by_cases c : Sums (tel l j) (l[j] / dg l (j + 1))
  ·exact EvB.bind (hG.yes ⟨hu, by omega, c⟩) (EvB.pos rfl (hnext.iff ⟨fun k => ⟨c, k⟩, fun k => k.2⟩))
  ·exact EvB.bind (hG.no fun k => c k.2.2) (EvB.neg (by simp) (EvB.of_false (Ev.now _) fun k => c k.1))
 | succ n ih =>
  intro j acc hn hj ha he
  have hlt : j < (l.take i).length := by omega
  have hx := h.1 _ (List.mem_of_mem_take (List.getElem_mem hlt))
  have b1 : 0 ≤ (l.take i)[j] / dg l i := Int.ediv_nonneg (by omega) (by omega)
  have b2 : (l.take i)[j] / dg l i ≤ (l.take i)[j] := Int.ediv_le_self _ (by omega)
  refine EvB.step (fun _ => impl_IsTelescopic.l1.eq_2 ..) (EvB.pos (by omega) (EvB.pos (by omega) (EvB.pos (by omega) ?_)))
  rw [w64 (x := (i : Int) - 1) (by omega) (by omega)]
  refine EvB.pos (by omega) (EvB.pos (by omega) ?_)
  rw [es]
  refine EvB.neg (by omega) (EvB.pos (by omega) ?_)
  rw [rd_get hlt, tdiv_pos (by omega), w64 (by omega) (by omega), w64s (by omega)]
  refine ih (j + 1) _ (by omega) (by omega) (by simp <;> omega) ?_
  rw [drop_cons hlt, List.map_cons] at he
  rw [List.append_assoc, List.singleton_append]
  exact he
theorem iTel_l0 (l : List Int) (h : Use l) : ∀ (n j : Nat), l.length - j = n → 1 ≤ j → j ≤ l.length → EvB (fun k => impl_IsTelescopic.l0 k l (shr l) (j : Int)) (∀ (i : Nat) (h : i < l.length), j ≤ i → Sums (tel l i) (l[i] / dg l (i + 1))) := by
 have hle := h.2.2
 intro n
 induction n with
 | zero =>
  intro j hn h1 h2
  exact EvB.step (fun _ => impl_IsTelescopic.l0.eq_2 ..) (EvB.neg (by omega) (EvB.of_true (Ev.now _) fun i h3 h4 => by omega))
 | succ n ih =>
  intro j hn h1 h2
  have hlt : j < l.length := by omega
  refine EvB.step (fun _ => impl_IsTelescopic.l0.eq_2 ..) (EvB.pos (by omega) (EvB.pos (by omega) (EvB.pos (by omega) ?_)))
  rw [Int.toNat_natCast]
  refine (iTel_l1 l h j h1 hlt _ (ih (j + 1) (by omega) (by omega) hlt) j 0 [] (by omega) (by omega) rfl (by rw [List.drop_zero]; rfl)).iff ⟨fun k i h3 h4 => ?_, fun k => ⟨k j hlt (Nat.le_refl _), fun i h3 h4 => k i h3 (by omega)⟩⟩
  by_cases e : i = j
  ·subst e; exact k.1
  ·exact k.2 i h3 (by omega)
theorem iTel (l : List Int) (hl : l.length ≤ 1048576) : EvB (fun k => impl_IsTelescopic.f k l) (TC l) := by
 unfold impl_IsTelescopic.f
 by_cases hu : Use l
 case neg => exact EvB.bind ((usable l (by omega)).no hu) (EvB.neg (by simp) (EvB.step (fun _ => impl_IsTelescopic.j0.eq_2 ..) (EvB.pos rfl (EvB.of_false (Ev.now _) fun h => hu h.1.1))))
 refine EvB.bind ((usable l (by omega)).yes hu) (EvB.pos rfl (EvB.bind (iGcdList l (by omega) (hu.1.mono (Int.le_refl _) (by omega))) (EvB.step (fun _ => impl_IsTelescopic.j0.eq_2 ..) ?_)))
 by_cases hg : gcdL l = 1
 case neg => exact EvB.pos (by rw [bne_iff_ne]; omega) (EvB.of_false (Ev.now _) fun h => hg h.1.2)
 refine EvB.neg (by rw [hg]; simp) (EvB.bind (shared l hu) ?_)
 exact (iTel_l0 l hu (l.length - 1) 1 rfl (by omega) hu.2.1).iff ⟨fun k => ⟨⟨hu, hg⟩, fun i h1 h2 => k i h1 h2⟩, fun k i h1 h2 => k.2 i h1 h2⟩
theorem step_bd {l : List Int} (h : InR 1 60 l) {i : Nat} (h1 : 1 ≤ i) (hi : i < l.length) : 0 ≤ l[i] * dg l i ∧ l[i] * dg l i ≤ 3600 ∧ 0 ≤ l[i] * dg l i / dg l (i + 1) ∧ l[i] * dg l i / dg l (i + 1) ≤ 3600 := by
 have hx := h _ (List.getElem_mem hi)
 have hd := dg_rng h h1 (Nat.le_of_lt hi)
 have hd1 := dg_rng h (i := i + 1) (by omega) hi
 have hm := mul_bd hx hd
 exact ⟨hm.1, hm.2, Int.ediv_nonneg hm.1 (by omega), Int.le_trans (Int.ediv_le_self _ hm.1) hm.2⟩
theorem tsum_bd {l : List Int} (h : InR 1 60 l) : ∀ i : Nat, 1 ≤ i → i ≤ l.length → -(60 * (i : Int)) ≤ tsum l i ∧ tsum l i ≤ 3600 * (i : Int) := by
 intro i
 induction i with
 | zero => omega
 | succ i ih =>
  intro _ hi
  have hlt : i < l.length := hi
  have hx := h _ (List.getElem_mem hlt)
  by_cases c : i = 0
  ·subst c
   rw [tsum_one, getD_get hlt]; omega
  ·have := ih (by omega) (by omega)
   have hb := step_bd h (by omega) hlt
   rw [tsum_succ _ _ (by omega), getD_get hlt]; omega
theorem sTF_l0 (l : List Int) (h : Use l) : ∀ (n j : Nat), l.length - j = n → 1 ≤ j → j ≤ l.length → Ev (fun k => spec_TelescopicFrobenius.l0 k l (tsum l j) (j : Int)) (tsum l l.length) := by
 have hle := h.2.2
 intro n
 induction n with
 | zero =>
  intro j hn h1 h2
  have : j = l.length := by omega
  subst this
  exact Ev.step (fun _ => spec_TelescopicFrobenius.l0.eq_2 ..) (Ev.neg (by omega) (Ev.now _))
 | succ n ih =>
  intro j hn h1 h2
  have hlt : j < l.length := by omega
  have hb := step_bd h.1 h1 hlt
  have ht := tsum_bd h.1 j h1 h2
  have hx := h.1 _ (List.getElem_mem hlt)
  have hd1 := dg_rng h.1 (i := j + 1) (by omega) hlt
  refine Ev.step (fun _ => spec_TelescopicFrobenius.l0.eq_2 ..) (Ev.pos (by omega) (Ev.pos (by omega) (Ev.pos (by omega) ?_)))
  rw [w64s (by omega), Int.toNat_natCast, Int.toNat_natCast, rd_get hlt]
  refine Ev.bind (takeGcd l h h2).1 (Ev.pos (by omega) (Ev.pos (by omega) (Ev.bind (takeGcd l h (i := j + 1) hlt).1 (Ev.neg (by omega) ?_))))
  rw [w64 (x := l[j] * dg l j) (by omega) (by omega), tdiv_pos hb.1, w64 (x := l[j] * dg l j / dg l (j + 1)) (by omega) (by omega), w64 (x := tsum l j + l[j] * dg l j / dg l (j + 1)) (by omega) (by omega), w64 (by omega) (by omega)]
  have := ih (j + 1) (by omega) (by omega) hlt
  rw [tsum_succ _ _ h1, getD_get hlt] at this
  rwa [show tsum l j + l[j] * dg l j / dg l (j + 1) - l[j] = tsum l j + (l[j] * dg l j / dg l (j + 1) - l[j]) by omega]
theorem sum_drop {l : List Int} {j : Nat} (h : j < l.length) : (l.drop j).sum = l[j] + (l.drop (j + 1)).sum := by rw [drop_cons h, List.sum_cons]
theorem sum_bd {l : List Int} (h : InR 1 60 l) : 0 ≤ l.sum ∧ l.sum ≤ 60 * (l.length : Int) := by
 induction l with
 | nil => simp
 | cons x t ih =>
  have hx := h x (List.mem_cons_self ..)
  have := ih fun y hy => h y (List.mem_cons_of_mem _ hy)
  rw [List.sum_cons, List.length_cons]; omega
theorem total_l0 (l : List Int) (h : Use l) : ∀ (n j : Nat), l.length - j = n → j ≤ l.length → ∀ acc : Int, acc + (l.drop j).sum = l.sum → 0 ≤ acc → Ev (fun k => impl_total.l0 k acc l (l.length : Int) (j : Int)) l.sum := by
 have hle := h.2.2
 have hs := sum_bd h.1
 intro n
 induction n with
 | zero =>
  intro j hn hj acc ha _
  rw [List.drop_of_length_le (by omega), List.sum_nil, Int.add_zero] at ha
  subst ha
  exact Ev.step (fun _ => impl_total.l0.eq_2 ..) (Ev.neg (by omega) (Ev.now _))
 | succ n ih =>
  intro j hn hj acc ha h0
  have hlt : j < l.length := by omega
  have hx := h.1 _ (List.getElem_mem hlt)
  have hd := (sum_bd (l := l.drop (j + 1)) (h.1.sub fun x hx => List.mem_of_mem_drop hx)).1
  rw [sum_drop hlt] at ha
  refine Ev.step (fun _ => impl_total.l0.eq_2 ..) (Ev.pos (by omega) (Ev.pos (by omega) (Ev.pos (by omega) ?_)))
  rw [rd_get hlt, w64s (by omega), w64 (x := acc + l[j]) (by omega) (by omega)]
  exact ih (j + 1) (by omega) (by omega) _ (by omega) (by omega)
theorem iTF_l0 (l : List Int) (h : Use l) : ∀ (n j : Nat), l.length - j = n → 1 ≤ j → j ≤ l.length → ∀ acc : Int, acc + (l.drop j).sum = tsum l j → Ev (fun k => impl_TelescopicFrobenius.l0 k l (shr l) acc (j : Int)) (tsum l l.length) := by
 have hle := h.2.2
 have hsl := shr_len l
 intro n
 induction n with
 | zero =>
  intro j hn h1 h2 acc ha
  have : j = l.length := by omega
  subst this
  rw [List.drop_of_length_le (by omega), List.sum_nil, Int.add_zero] at ha
  subst ha
  exact Ev.step (fun _ => impl_TelescopicFrobenius.l0.eq_2 ..) (Ev.neg (by omega) (Ev.now _))
 | succ n ih =>
  intro j hn h1 h2 acc ha
  have hlt : j < l.length := by omega
  have hb := step_bd h.1 h1 hlt
  have ht := tsum_bd h.1 j h1 h2
  have hx := h.1 _ (List.getElem_mem hlt)
  have hd1 := dg_rng h.1 (i := j + 1) (by omega) hlt
  have hs := sum_bd (l := l.drop j) (h.1.sub fun x hx => List.mem_of_mem_drop hx)
  rw [List.length_drop] at hs
  have es : rd (shr l) ((j : Int) - 1) = dg l j := by
   have := rd_shr (l := l) (i := j - 1) (by omega)
   rw [show j - 1 + 1 = j by omega, show ((j - 1 : Nat) : Int) = (j : Int) - 1 by omega] at this
   exact this
  refine Ev.step (fun _ => impl_TelescopicFrobenius.l0.eq_2 ..) (Ev.pos (by omega) (Ev.pos (by omega) ?_))
  rw [w64 (x := (j : Int) - 1) (by omega) (by omega)]
  refine Ev.pos (by omega) (Ev.pos (by omega) (Ev.pos (by omega) ?_))
  rw [rd_shr hlt, es, rd_get hlt]
  refine Ev.neg (by omega) ?_
  rw [w64 (x := l[j] * dg l j) (by omega) (by omega), tdiv_pos hb.1, w64 (x := l[j] * dg l j / dg l (j + 1)) (by omega) (by omega), w64 (x := acc + l[j] * dg l j / dg l (j + 1)) (by omega) (by omega), w64s (by omega)]
  refine ih (j + 1) (by omega) (by omega) hlt _ ?_
  rw [sum_drop hlt] at ha
  rw [tsum_succ _ _ h1, getD_get hlt]
  omega
theorem telFrob (l : List Int) (hl : l.length ≤ 1048576) : ∃ n, Ev (fun k => spec_TelescopicFrobenius.f k l) n ∧ Ev (fun k => impl_TelescopicFrobenius.f k l) n ∧ (TC l → n = tsum l l.length) := by
 unfold spec_TelescopicFrobenius.f impl_TelescopicFrobenius.f
 by_cases h : TC l
 case neg => exact ⟨-1, Ev.bind ((sTel l hl).no h) (Ev.neg (by simp) (Ev.now _)), Ev.bind ((iTel l hl).no h) (Ev.neg (by simp) (Ev.now _)), fun k => absurd k h⟩
 have hu := h.1.1
 have hpos := hu.2.1
 have hle := hu.2.2
 have hlt : 0 < l.length := by omega
 have hx := hu.1 _ (List.getElem_mem hlt)
 have hs := sum_bd hu.1
 have e0 : rd l 0 = l[0] := rd_get (i := 0) hlt
 have s1 := sTF_l0 l hu (l.length - 1) 1 rfl (by omega) hpos
 rw [tsum_one, getD_get hlt] at s1
 have i1 := iTF_l0 l hu (l.length - 1) 1 rfl (by omega) hpos (-l.sum) (by
  rw [tsum_one, getD_get hlt]
  have := sum_drop hlt
  rw [List.drop_zero, Nat.zero_add] at this
  rw [this]; omega)
 refine ⟨tsum l l.length, Ev.bind ((sTel l hl).yes h) (Ev.pos rfl (Ev.pos (by omega) ?_)), Ev.bind ((iTel l hl).yes h) (Ev.pos rfl (Ev.bind (shared l hu) (Ev.bind (a := l.sum) ?_ ?_))), fun _ => rfl⟩
 ·rw [e0, w64 (by omega) (by omega)]; exact s1
 ·unfold impl_total.f
  exact total_l0 l hu l.length 0 (by omega) (by omega) 0 (by rw [List.drop_zero]; omega) (by omega)
 ·rw [w64 (by omega) (by omega)]; exact i1
end Go.Proofs.Ytbjbolblahlhcaa.FFnGlued
end
section
namespace Go.Proofs.Ytbjbolblahlhcaa.WM
open Go.Proofs.Ytbjbolblahlhcaa.M
def clo : Nat → Nat → Nat → Nat
 | 0, _, m => m
 | n + 1, g, m => clo n (2 * g) (m ||| (m <<< g))
theorem clo_bit : ∀ (n g m x : Nat), (clo n g m).testBit x = true ↔ ∃ j, j < 2 ^ n ∧ j * g ≤ x ∧ m.testBit (x - j * g) = true := by
 intro n
 induction n with
 | zero =>
  intro g m x
  constructor
  ·intro h; exact ⟨0, by simp, by simp, by simpa [clo] using h⟩
  ·rintro ⟨j, hj, _, h⟩
   have h0 : j = 0 := by simpa using hj
   subst h0
   simpa [clo] using h
 | succ n ih =>
  intro g m x
  unfold clo
  rw [ih]
  constructor
  ·rintro ⟨j, hj, hx, h⟩
   rw [Nat.testBit_or, Nat.testBit_shiftLeft, Bool.or_eq_true, Bool.and_eq_true, decide_eq_true_eq] at h
   have e2 : j * (2 * g) = (2 * j) * g := by rw [Nat.mul_comm 2 j, Nat.mul_assoc]
   rcases h with h | ⟨h1, h⟩
   ·exact ⟨2 * j, by rw [Nat.pow_succ]; omega, by omega, by rw [← e2]; exact h⟩
   ·have e3 : (2 * j + 1) * g = j * (2 * g) + g := by rw [Nat.add_mul, Nat.one_mul, e2]
    exact ⟨2 * j + 1, by rw [Nat.pow_succ]; omega, by omega, by rw [e3, Nat.sub_add_eq]; exact h⟩
  ·rintro ⟨j, hj, hx, h⟩
   have e2 : (j / 2) * (2 * g) = (2 * (j / 2)) * g := by rw [Nat.mul_comm 2 (j / 2), Nat.mul_assoc]
   refine ⟨j / 2, by rw [Nat.pow_succ] at hj; omega, ?_, ?_⟩
   ·rw [e2]; exact Nat.le_trans (Nat.mul_le_mul_right g (by omega)) hx
   ·rw [Nat.testBit_or, Nat.testBit_shiftLeft, Bool.or_eq_true, Bool.and_eq_true, decide_eq_true_eq, e2]
    by_cases hp : j % 2 = 0
    ·left
     have : 2 * (j / 2) = j := by omega
     rw [this]; exact h
    ·right
     have e4 : j = 2 * (j / 2) + 1 := by omega
     have e3 : j * g = (2 * (j / 2)) * g + g := by
      conv => lhs; rw [e4]
      rw [Nat.add_mul, Nat.one_mul]
     refine ⟨by omega, ?_⟩
     rw [← Nat.sub_add_eq, ← e3]; exact h
def add (g m : Nat) : Nat := (clo 8 g m) % 2 ^ 256
def Sp (m : Nat) (l : List Int) : Prop := m < 2 ^ 256 ∧ ∀ x : Nat, x < 256 → (m.testBit x = true ↔ Sums l x)
theorem sums_snoc {l : List Int} {g n : Int} : Sums (l ++ [g]) n ↔ ∃ j : Nat, Sums l (n - j * g) := by
 constructor
 ·intro h
  induction h with
  | zero => exact ⟨0, by simpa using Sums.zero⟩
  | @add n x hx _ ih =>
   obtain ⟨j, hj⟩ := ih
   rcases List.mem_append.1 hx with hx | hx
   ·refine ⟨j, ?_⟩
    have := Sums.add hx hj
    rwa [show n - j * g + x = n + x - j * g by omega] at this
   ·have hx : x = g := by simpa using hx
    subst hx
    refine ⟨j + 1, ?_⟩
    rw [Int.natCast_succ, Int.add_mul, Int.one_mul, show n + x - (j * x + x) = n - j * x by omega]
    exact hj
 ·rintro ⟨j, hj⟩
  have h1 : Sums (l ++ [g]) (n - j * g) := hj.mono fun x hx => List.mem_append_left _ hx
  have h2 : Sums (l ++ [g]) (j * g) := (Sums.one (by simp)).mul j
  have := h1.trans h2
  rwa [Int.sub_add_cancel] at this
theorem sp_one : Sp 1 [] := by
 refine ⟨by decide, fun x _ => ?_⟩
 cases x with
 | zero => exact ⟨fun _ => Sums.zero, fun _ => by decide⟩
 | succ x =>
  constructor
  ·intro h
   rw [Nat.testBit_succ] at h
   simp at h
  ·intro h
   have := h.nil
   omega
theorem sp_add {m : Nat} {l : List Int} {g : Nat} (h : Sp m l) (hl : ∀ x ∈ l, 1 ≤ x) (hg : 1 ≤ g) : Sp (add g m) (l ++ [(g : Int)]) := by
 refine ⟨Nat.mod_lt _ (Nat.pow_pos (by decide)), fun x hx => ?_⟩
 unfold add
 rw [Nat.testBit_mod_two_pow, decide_eq_true hx, Bool.true_and, clo_bit, sums_snoc]
 constructor
 ·rintro ⟨j, _, hjx, hb⟩
  refine ⟨j, ?_⟩
  have := (h.2 _ (by omega)).1 hb
  rwa [Int.ofNat_sub hjx, Int.natCast_mul] at this
 ·rintro ⟨j, hj⟩
  have h0 := hj.nonneg hl
  have hjx : j * g ≤ x := by
   have : ((j * g : Nat) : Int) ≤ x := by rw [Int.natCast_mul]; omega
   exact Int.ofNat_le.1 this
  have hjj : j ≤ j * g := Nat.le_mul_of_pos_right j hg
  refine ⟨j, by omega, hjx, (h.2 _ (by omega)).2 ?_⟩
  rw [Int.ofNat_sub hjx, Int.natCast_mul]
  exact hj
def cnt : Nat → Nat → Nat
 | 0, _ => 0
 | n + 1, G => cnt n G + (G.testBit n).toNat
def sizeOf (G : Nat) : Nat := if G = 0 then 0 else Nat.log2 G + 1
def wilf (c n e : Nat) : Bool := Nat.ble c (e * n) && (!(Nat.beq e 2) || Nat.beq (2 * n) c)
def chkG (G e : Nat) : Bool := Nat.ble (2 ^ 200) G || wilf (sizeOf G) (sizeOf G - cnt (sizeOf G) G) e
def chk (m e : Nat) : Bool := chkG (2 ^ 256 - (m + 1)) e
def fin (m e : Nat) : Bool := chk m e && (m.testBit 60 || chk (add 60 m) (e + 1))
def go : List Nat → Nat → Nat → Nat → Bool
 | [], _, m, e => fin m e
 | g :: rest, k, m, e => match k with
  | 0 => fin m e
  | k + 1 => go rest (k + 1) m e && (m.testBit g || go rest k (add g m) (e + 1))
def win (a : Nat) : List Nat := List.range' (a + 1) (min 12 (21 - a))
theorem all1 : ((List.range 6).all fun a => go (win (a + 1)) 5 (add (a + 1) 1) 1) = true := by decide +kernel
theorem all2 : ((List.range 3).all fun a => go (win (a + 7)) 5 (add (a + 7) 1) 1) = true := by decide +kernel
theorem all3 : ((List.range 12).all fun a => go (win (a + 10)) 5 (add (a + 10) 1) 1) = true := by decide +kernel
theorem all (a : Nat) (h1 : 1 ≤ a) (h2 : a ≤ 21) : go (win a) 5 (add a 1) 1 = true := by
 by_cases h6 : a ≤ 6
 ·have := List.all_eq_true.1 all1 (a - 1) (List.mem_range.2 (by omega))
  rwa [show a - 1 + 1 = a by omega] at this
 ·by_cases h9 : a ≤ 9
  ·have := List.all_eq_true.1 all2 (a - 7) (List.mem_range.2 (by omega))
   rwa [show a - 7 + 7 = a by omega] at this
  ·have := List.all_eq_true.1 all3 (a - 10) (List.mem_range.2 (by omega))
   rwa [show a - 10 + 10 = a by omega] at this
def Mn : List Int → List Nat → Prop
 | _, [] => True
 | l, x :: t => ¬ Sums l (x : Int) ∧ Mn (l ++ [(x : Int)]) t
def ints (t : List Nat) : List Int := t.map fun x : Nat => (x : Int)
theorem go_sound : ∀ (rest : List Nat) (k m e : Nat) (l : List Int), Sp m l → (∀ x ∈ l, 1 ≤ x) → (∀ x ∈ rest, 1 ≤ x ∧ x < 256) → go rest k m e = true →
 ∀ t : List Nat, t.Sublist rest → t.length ≤ k → Mn l t → ∃ m', Sp m' (l ++ ints t) ∧ fin m' (e + t.length) = true := by
 intro rest
 induction rest with
 | nil =>
  intro k m e l hs _ _ hg t ht _ _
  have : t = [] := List.sublist_nil.1 ht
  subst this
  exact ⟨m, by simpa [ints] using hs, by simpa [go] using hg⟩
 | cons g rest ih =>
  intro k m e l hs hl hr hg t ht hk hm
  cases k with
  | zero =>
   have : t = [] := List.eq_nil_of_length_eq_zero (by omega)
   subst this
   exact ⟨m, by simpa [ints] using hs, by simpa [go] using hg⟩
  | succ k =>
   unfold go at hg
   rw [Bool.and_eq_true, Bool.or_eq_true] at hg
   cases ht with
   | cons _ h => exact ih (k + 1) m e l hs hl (fun x hx => hr x (List.mem_cons_of_mem _ hx)) hg.1 t h hk hm
   | cons_cons _ h =>
    rename_i t
    have hg1 := hr g (List.mem_cons_self ..)
    rcases hg.2 with hb | hg2
    ·exact absurd ((hs.2 g hg1.2).1 hb) hm.1
    ·obtain ⟨m', h1, h2⟩ := ih k (add g m) (e + 1) (l ++ [(g : Int)]) (sp_add hs hl hg1.1) (by
      intro x hx; rcases List.mem_append.1 hx with hx | hx; exact hl x hx; have : x = g := by simpa using hx
      omega) (fun x hx => hr x (List.mem_cons_of_mem _ hx)) hg2 t h (by simpa using hk) hm.2
     refine ⟨m', ?_, ?_⟩
     ·simpa [ints, List.append_assoc] using h1
     ·rw [List.length_cons, show e + (t.length + 1) = e + 1 + t.length by omega]; exact h2
theorem asc_sublist : ∀ (n s : Nat) (t : List Nat), t.Pairwise (· < ·) → (∀ x ∈ t, s ≤ x ∧ x < s + n) → t.Sublist (List.range' s n) := by
 intro n
 induction n with
 | zero =>
  intro s t _ h
  cases t with
  | nil => exact List.nil_sublist _
  | cons x t => have := h x (List.mem_cons_self ..); omega
 | succ n ih =>
  intro s t hp h
  rw [List.range'_succ]
  cases t with
  | nil => exact List.nil_sublist _
  | cons x t =>
   have hx := h x (List.mem_cons_self ..)
   have hp' := List.pairwise_cons.1 hp
   by_cases hxs : x = s
   ·subst hxs
    refine (ih (x + 1) t hp'.2 fun y hy => ?_).cons_cons x
    have := hp'.1 y hy
    have := h y (List.mem_cons_of_mem _ hy)
    omega
   ·refine (ih (s + 1) (x :: t) hp fun y hy => ?_).cons s
    have h2 := h y hy
    rcases List.mem_cons.1 hy with rfl | hy
    ·omega
    ·have := hp'.1 y hy; omega
theorem top (a : Nat) (t : List Nat) (h1 : 1 ≤ a) (h2 : a ≤ 21) (hp : (a :: t).Pairwise (· < ·)) (hw : ∀ x ∈ t, x ≤ a + 12 ∧ x ≤ 21) (hk : t.length ≤ 5) (hm : Mn [(a : Int)] t) :
 ∃ m', Sp m' (ints (a :: t)) ∧ fin m' (1 + t.length) = true := by
 have hp' := List.pairwise_cons.1 hp
 have := go_sound (win a) 5 (add a 1) 1 [(a : Int)] (by have := sp_add sp_one (g := a) (by simp) h1; simpa using this) (by simp; omega) (by
  intro x hx; unfold win at hx; rw [List.mem_range'_1] at hx; omega) (all a h1 h2) t (by
  unfold win; refine asc_sublist _ _ t hp'.2 fun x hx => ?_
  have := hp'.1 x hx; have := hw x hx; omega) hk hm
 simpa [ints] using this
noncomputable def cntS (l : List Int) : Nat → Nat
 | 0 => 0
 | n + 1 => open Classical in cntS l n + (if Sums l n then 0 else 1)
theorem cnt_cntS {G : Nat} {l : List Int} (h : ∀ x : Nat, x < 256 → (G.testBit x = true ↔ ¬ Sums l x)) : ∀ n : Nat, n ≤ 256 → cnt n G = cntS l n := by
 intro n
 induction n with
 | zero => intro _; rfl
 | succ n ih =>
  intro hn
  unfold cnt cntS
  rw [ih (by omega)]
  by_cases hs : Sums l n
  ·rw [if_pos hs]
   have : G.testBit n = false := by
    cases hb : G.testBit n with
    | false => rfl
    | true => exact absurd hs ((h n (by omega)).1 hb)
   rw [this]; rfl
  ·rw [if_neg hs, (h n (by omega)).2 hs]; rfl
theorem top_bit {G : Nat} (h : G ≠ 0) : G.testBit (Nat.log2 G) = true := by
 have h1 : 2 ^ Nat.log2 G ≤ G := Nat.log2_self_le h
 have h2 : G < 2 ^ (Nat.log2 G + 1) := Nat.lt_log2_self
 rw [Nat.testBit_eq_decide_div_mod_eq, decide_eq_true_eq]
 have h3 : G / 2 ^ Nat.log2 G = 1 := by
  have hp : 0 < 2 ^ Nat.log2 G := Nat.pow_pos (by decide)
  have a1 : 1 ≤ G / 2 ^ Nat.log2 G := (Nat.le_div_iff_mul_le hp).2 (by omega)
  have a2 : G / 2 ^ Nat.log2 G < 2 := (Nat.div_lt_iff_lt_mul hp).2 (by rw [Nat.pow_succ] at h2; omega)
  omega
 rw [h3]
def Wil (l : List Int) (e : Nat) : Prop := ∃ c : Nat, c ≤ 200 ∧ (∀ x : Nat, c ≤ x → x < 256 → Sums l x) ∧ (c = 0 ∨ ¬ Sums l ((c - 1 : Nat) : Int)) ∧ c ≤ e * (c - cntS l c) ∧ (e = 2 → 2 * (c - cntS l c) = c)
theorem chk_sound {m e : Nat} {l : List Int} (h : Sp m l) (hc : chk m e = true) (hbig : ∀ x : Nat, 200 ≤ x → x < 256 → Sums l x) : Wil l e := by
 have hG : ∀ x : Nat, x < 256 → ((2 ^ 256 - (m + 1)).testBit x = true ↔ ¬ Sums l x) := by
  intro x hx
  rw [Nat.testBit_two_pow_sub_succ h.1, decide_eq_true hx, Bool.true_and, ← h.2 x hx]
  simp
 have hlt : 2 ^ 256 - (m + 1) < 2 ^ 256 := by have := h.1; omega
 unfold chk at hc
 revert hc hG hlt
 generalize 2 ^ 256 - (m + 1) = G
 intro hc hG hlt
 have hoff : ∀ i, 200 ≤ i → G.testBit i = false := by
  intro i hi
  by_cases h2 : i < 256
  ·cases hb : G.testBit i with
   | false => rfl
   | true => exact absurd (hbig i hi h2) ((hG i h2).1 hb)
  ·exact Nat.testBit_lt_two_pow (Nat.lt_of_lt_of_le hlt (Nat.pow_le_pow_right (by decide) (by omega)))
 have h200 : G < 2 ^ 200 := Nat.lt_pow_two_of_testBit G hoff
 unfold chkG at hc
 have hb : Nat.ble (2 ^ 200) G = false := by
  cases hh : Nat.ble (2 ^ 200) G with
  | false => rfl
  | true => exact absurd (Nat.le_of_ble_eq_true hh) (by omega)
 rw [hb, Bool.false_or] at hc
 unfold wilf at hc
 rw [Bool.and_eq_true, Bool.or_eq_true] at hc
 have hcs : sizeOf G ≤ 200 ∧ G < 2 ^ sizeOf G ∧ (sizeOf G = 0 ∨ G.testBit (sizeOf G - 1) = true) := by
  unfold sizeOf
  by_cases h0 : G = 0
  ·rw [if_pos h0]; exact ⟨by omega, by omega, .inl rfl⟩
  ·rw [if_neg h0]
   refine ⟨(Nat.log2_lt h0).2 h200, Nat.lt_log2_self, .inr ?_⟩
   rw [Nat.add_sub_cancel]; exact top_bit h0
 revert hc hcs
 generalize sizeOf G = c
 intro hc hcs
 have hcc := cnt_cntS hG c (by omega)
 rw [hcc] at hc
 refine ⟨c, hcs.1, ?_, ?_, Nat.le_of_ble_eq_true hc.1, ?_⟩
 ·intro x h1 h2
  refine Classical.byContradiction fun hn => ?_
  have := Nat.testBit_lt_two_pow (Nat.lt_of_lt_of_le hcs.2.1 (Nat.pow_le_pow_right (by decide) h1))
  rw [(hG x h2).2 hn] at this
  exact absurd this (by decide)
 ·rcases hcs.2.2 with h | h
  ·exact .inl h
  ·by_cases h0 : c = 0
   ·exact .inl h0
   ·exact .inr ((hG (c - 1) (by omega)).1 h)
 ·intro he
  rcases hc.2 with h | h
  ·subst he; exact absurd h (by decide)
  ·exact Nat.eq_of_beq_eq_true h
theorem wilf_top (a : Nat) (t : List Nat) (h1 : 1 ≤ a) (h2 : a ≤ 21) (hp : (a :: t).Pairwise (· < ·)) (hw : ∀ x ∈ t, x ≤ a + 12 ∧ x ≤ 21) (hk : t.length ≤ 5) (hm : Mn [(a : Int)] t) (hbig : ∀ x : Nat, 200 ≤ x → x < 256 → Sums (ints (a :: t)) x) :
 Wil (ints (a :: t)) (1 + t.length) := by
 obtain ⟨m, hs, hf⟩ := top a t h1 h2 hp hw hk hm
 unfold fin at hf
 rw [Bool.and_eq_true] at hf
 exact chk_sound hs hf.1 hbig
theorem wilf_top60 (a : Nat) (t : List Nat) (h1 : 1 ≤ a) (h2 : a ≤ 21) (hp : (a :: t).Pairwise (· < ·)) (hw : ∀ x ∈ t, x ≤ a + 12 ∧ x ≤ 21) (hk : t.length ≤ 5) (hm : Mn [(a : Int)] t)
 (h60 : ¬ Sums (ints (a :: t)) 60) (hbig : ∀ x : Nat, 200 ≤ x → x < 256 → Sums (ints (a :: t) ++ [60]) x) :
 Wil (ints (a :: t) ++ [60]) (2 + t.length) := by
 obtain ⟨m, hs, hf⟩ := top a t h1 h2 hp hw hk hm
 unfold fin at hf
 rw [Bool.and_eq_true, Bool.or_eq_true] at hf
 rcases hf.2 with h | h
 ·exact absurd ((hs.2 60 (by omega)).1 h) h60
 ·have hpos : ∀ x ∈ ints (a :: t), 1 ≤ x := by
   intro x hx
   unfold ints at hx
   obtain ⟨y, hy, rfl⟩ := List.mem_map.1 hx
   rcases List.mem_cons.1 hy with rfl | hy
   ·omega
   ·have := (List.pairwise_cons.1 hp).1 y hy; omega
  have h3 := sp_add hs hpos (g := 60) (by omega)
  have := chk_sound h3 h hbig
  rwa [show 1 + t.length + 1 = 2 + t.length by omega] at this
end Go.Proofs.Ytbjbolblahlhcaa.WM
end
section
namespace Go.Proofs.Ytbjbolblahlhcaa.WM
open Go.Proofs.Ytbjbolblahlhcaa.M
def minb : Nat → List Nat → Bool
 | _, [] => true
 | m, g :: t => (!m.testBit g) && minb (add g m) t
def msk : Nat → List Nat → Nat
 | m, [] => m
 | m, g :: t => msk (add g m) t
theorem ints_cons (a : Nat) (t : List Nat) : ints (a :: t) = (a : Int) :: ints t := rfl
theorem ints_len (t : List Nat) : (ints t).length = t.length := by unfold ints; rw [List.length_map]
theorem ints_getD (t : List Nat) (i : Nat) : (ints t).getD i 0 = ((t.getD i 0 : Nat) : Int) := by
 unfold ints
 rw [List.getD_eq_getElem?_getD, List.getD_eq_getElem?_getD, List.getElem?_map]
 cases t[i]? <;> rfl
theorem ints_take (t : List Nat) (i : Nat) : (ints t).take i = ints (t.take i) := by unfold ints; rw [List.map_take]
theorem pos_snoc {l : List Int} {g : Nat} (hl : ∀ x ∈ l, 1 ≤ x) (hg : 1 ≤ g) : ∀ x ∈ l ++ [(g : Int)], 1 ≤ x := by
 intro x hx
 rcases List.mem_append.1 hx with hx | hx
 ·exact hl x hx
 ·have : x = g := by simpa using hx
  omega
theorem msk_sp : ∀ (t : List Nat) (m : Nat) (l : List Int), Sp m l → (∀ x ∈ l, 1 ≤ x) → (∀ x ∈ t, 1 ≤ x) → Sp (msk m t) (l ++ ints t) := by
 intro t
 induction t with
 | nil => intro m l h _ _; simpa [msk, ints] using h
 | cons g t ih =>
  intro m l h hl ht
  have hg := ht g (List.mem_cons_self ..)
  have := ih (add g m) (l ++ [(g : Int)]) (sp_add h hl hg) (pos_snoc hl hg) fun x hx => ht x (List.mem_cons_of_mem _ hx)
  rw [List.append_assoc, List.singleton_append] at this
  exact this
theorem msk_sp1 (t : List Nat) (ht : ∀ x ∈ t, 1 ≤ x) : Sp (msk 1 t) (ints t) := by
 have := msk_sp t 1 [] sp_one (by simp) ht
 simpa using this
theorem minb_mn : ∀ (t : List Nat) (m : Nat) (l : List Int), Sp m l → (∀ x ∈ l, 1 ≤ x) → (∀ x ∈ t, 1 ≤ x ∧ x < 256) → minb m t = true → Mn l t := by
 intro t
 induction t with
 | nil => intro _ _ _ _ _ _; trivial
 | cons g t ih =>
  intro m l h hl ht hb
  have hg := ht g (List.mem_cons_self ..)
  unfold minb at hb
  rw [Bool.and_eq_true] at hb
  refine ⟨fun hs => ?_, ih (add g m) _ (sp_add h hl hg.1) (pos_snoc hl hg.1) (fun x hx => ht x (List.mem_cons_of_mem _ hx)) hb.2⟩
  have := (h.2 g hg.2).2 hs
  rw [this] at hb
  exact absurd hb.1 (by decide)
theorem mn_get : ∀ (t : List Nat) (l : List Int), Mn l t → ∀ i : Nat, i < t.length → ¬ Sums (l ++ ints (t.take i)) (t.getD i 0 : Nat) := by
 intro t
 induction t with
 | nil => intro l _ i hi; simp at hi
 | cons g t ih =>
  intro l h i hi
  cases i with
  | zero => simpa [ints] using h.1
  | succ i =>
   have := ih _ h.2 i (by simpa using hi)
   rw [List.append_assoc, List.singleton_append] at this
   simpa [ints] using this
theorem mn_of : ∀ (t : List Nat) (l : List Int), (∀ i : Nat, i < t.length → ¬ Sums (l ++ ints (t.take i)) (t.getD i 0 : Nat)) → Mn l t := by
 intro t
 induction t with
 | nil => intro _ _; trivial
 | cons g t ih =>
  intro l h
  refine ⟨by have := h 0 (by simp); simpa [ints] using this, ih _ fun i hi => ?_⟩
  have := h (i + 1) (by simpa using hi)
  rw [List.append_assoc, List.singleton_append]
  simpa [ints] using this
theorem isSG_of (a : Nat) (t : List Nat) (h1 : 1 ≤ a) (h2 : a ≤ 56) (hlen : t.length ≤ 11) (hr : ∀ x ∈ a :: t, 1 ≤ x ∧ x ≤ 60) (hp : (a :: t).Pairwise (· < ·)) (hg : gcdL (ints (a :: t)) = 1) (hm : minb (add a 1) t = true)
 (he : ((List.range a).all fun i => (msk 1 (a :: t)).testBit (200 + i)) = true) : IsSG (ints (a :: t)) := by
 have hsp := msk_sp1 (a :: t) fun x hx => (hr x hx).1
 have hmn : Mn [(a : Int)] t := minb_mn t (add a 1) [(a : Int)] (by have := sp_add sp_one (g := a) (by simp) h1; simpa using this) (by simp; omega) (fun x hx => by have := hr x (List.mem_cons_of_mem _ hx); omega) hm
 refine ⟨by rw [ints_len]; simp, by rw [ints_len]; simp; omega, ?_, ?_, hg, ?_, ?_⟩
 ·intro x hx
  unfold ints at hx
  obtain ⟨y, hy, rfl⟩ := List.mem_map.1 hx
  have := hr y hy
  omega
 ·unfold ints
  rw [List.pairwise_map]
  exact hp.imp fun h => by omega
 ·intro i hi1 hi2
  obtain ⟨j, rfl⟩ : ∃ j, i = j + 1 := ⟨i - 1, by omega⟩
  rw [ints_len] at hi2
  have := mn_get t _ hmn j (by simpa using hi2)
  rw [ints_cons, List.take_succ_cons, List.getD_cons_succ, ints_getD, ints_take]
  exact this
 ·refine ends_of (a := (a : Int)) (by omega) (by simp [ints]) fun n hn1 hn2 => ?_
  obtain ⟨x, rfl⟩ : ∃ x : Nat, n = (x : Int) := ⟨n.toNat, by omega⟩
  refine (hsp.2 x (by omega)).1 ?_
  have := List.all_eq_true.1 he (x - 200) (List.mem_range.2 (by omega))
  rwa [show 200 + (x - 200) = x by omega] at this
theorem of_pre {l : List Int} (h0 : 1 ≤ l.length) (hr : ∀ x ∈ l, 1 ≤ x) (hp : l.Pairwise (· < ·)) (hm : ∀ i : Nat, 1 ≤ i → i < l.length → ¬ Sums (l.take i) (l.getD i 0)) :
 ∃ (a : Nat) (t : List Nat), l = ints (a :: t) ∧ 1 ≤ a ∧ (a :: t).Pairwise (· < ·) ∧ Mn [(a : Int)] t := by
 obtain ⟨u, rfl⟩ : ∃ u : List Nat, l = ints u := by
  refine ⟨l.map Int.toNat, ?_⟩
  unfold ints
  rw [List.map_map]
  conv => lhs; rw [← List.map_id l]
  refine List.map_congr_left fun x hx => ?_
  have := hr x hx
  simp only [id_eq, Function.comp_apply]
  omega
 cases u with
 | nil => simp [ints] at h0
 | cons a t =>
  refine ⟨a, t, rfl, ?_, ?_, ?_⟩
  ·have := hr (a : Int) (by simp [ints]); omega
  ·unfold ints at hp
   rw [List.pairwise_map] at hp
   exact hp.imp fun h => by omega
  ·refine mn_of t _ fun i hi => ?_
   have := hm (i + 1) (by omega) (by rw [ints_len]; simpa using hi)
   rw [ints_cons, List.take_succ_cons, List.getD_cons_succ, ints_getD, ints_take] at this
   exact this
theorem wilfW {l : List Int} (h : IsSG l) (hlen : l.length ≤ 6) (hw : ∀ x ∈ l, ∀ y ∈ l, x ≤ y + 12 ∧ x ≤ 21) : Wil l l.length := by
 obtain ⟨a, t, rfl, h1, hp, hm⟩ := of_pre h.pos (fun x hx => (h.rng x hx).1) h.asc h.minl
 have ha : (a : Int) ∈ ints (a :: t) := by simp [ints]
 rw [ints_len] at hlen ⊢
 rw [List.length_cons] at hlen ⊢
 rw [Nat.add_comm]
 refine wilf_top a t h1 (by have := (hw _ ha _ ha).2; omega) hp (fun x hx => ?_) (by omega) hm (fun x hx _ => h.ends x (by omega))
 have := hw (x : Int) (by unfold ints; exact List.mem_map.2 ⟨x, List.mem_cons_of_mem _ hx, rfl⟩) _ ha
 omega
theorem wilfW60 {l : List Int} (h : IsSG (l ++ [60])) (h0 : 1 ≤ l.length) (hlen : l.length ≤ 6) (hw : ∀ x ∈ l, ∀ y ∈ l, x ≤ y + 12 ∧ x ≤ 21) : Wil (l ++ [60]) (l ++ [60]).length := by
 have hl : (l ++ [60]).length = l.length + 1 := by simp
 have hm60 := h.minl l.length h0 (by omega)
 have e60 : (l ++ [(60 : Int)]).getD l.length 0 = 60 := by
  rw [List.getD_eq_getElem?_getD, List.getElem?_append_right (Nat.le_refl _), Nat.sub_self]; rfl
 rw [e60, List.take_left] at hm60
 have hml : ∀ i : Nat, 1 ≤ i → i < l.length → ¬ Sums (l.take i) (l.getD i 0) := by
  intro i h1 h2
  have := h.minl i h1 (by omega)
  rw [List.take_append_of_le_length (by omega), List.getD_eq_getElem?_getD, List.getElem?_append_left h2, ← List.getD_eq_getElem?_getD] at this
  exact this
 obtain ⟨a, t, rfl, h1, hp, hm⟩ := of_pre h0 (fun x hx => (h.rng x (List.mem_append_left _ hx)).1) (List.pairwise_append.1 h.asc).1 hml
 have ha : (a : Int) ∈ ints (a :: t) := by simp [ints]
 rw [hl]
 rw [ints_len] at hlen ⊢
 rw [List.length_cons] at hlen ⊢
 rw [show t.length + 1 + 1 = 2 + t.length by omega]
 refine wilf_top60 a t h1 (by have := (hw _ ha _ ha).2; omega) hp (fun x hx => ?_) (by omega) hm hm60 (fun x hx _ => h.ends x (by omega))
 have := hw (x : Int) (by unfold ints; exact List.mem_map.2 ⟨x, List.mem_cons_of_mem _ hx, rfl⟩) _ ha
 omega
def Exam (l : List Int) : Prop := l = [1] ∨ l = [3, 5] ∨ l = [4, 6, 9] ∨ l = [3, 4, 5] ∨ l = [6, 9, 20] ∨ l = [5, 7, 9, 11] ∨ l = [2, 3] ∨ l = [4, 5, 11]
theorem Exam.sg {l : List Int} (h : Exam l) : IsSG l := by
 rcases h with rfl | rfl | rfl | rfl | rfl | rfl | rfl | rfl
 ·exact isSG_of 1 [] (by decide) (by decide) (by decide) (by decide) (by decide) (by decide) (by decide +kernel) (by decide +kernel)
 ·exact isSG_of 3 [5] (by decide) (by decide) (by decide) (by decide) (by decide) (by decide) (by decide +kernel) (by decide +kernel)
 ·exact isSG_of 4 [6, 9] (by decide) (by decide) (by decide) (by decide) (by decide) (by decide) (by decide +kernel) (by decide +kernel)
 ·exact isSG_of 3 [4, 5] (by decide) (by decide) (by decide) (by decide) (by decide) (by decide) (by decide +kernel) (by decide +kernel)
 ·exact isSG_of 6 [9, 20] (by decide) (by decide) (by decide) (by decide) (by decide) (by decide) (by decide +kernel) (by decide +kernel)
 ·exact isSG_of 5 [7, 9, 11] (by decide) (by decide) (by decide) (by decide) (by decide) (by decide) (by decide +kernel) (by decide +kernel)
 ·exact isSG_of 2 [3] (by decide) (by decide) (by decide) (by decide) (by decide) (by decide) (by decide +kernel) (by decide +kernel)
 ·exact isSG_of 4 [5, 11] (by decide) (by decide) (by decide) (by decide) (by decide) (by decide) (by decide +kernel) (by decide +kernel)
theorem Exam.win {l : List Int} (h : Exam l) : (l.length ≤ 5 ∧ ∀ x ∈ l, ∀ y ∈ l, x ≤ y + 12 ∧ x ≤ 21) ∨ l = [6, 9, 20] := by
 rcases h with rfl | rfl | rfl | rfl | rfl | rfl | rfl | rfl
 ·exact .inl ⟨by decide, by decide⟩
 ·exact .inl ⟨by decide, by decide⟩
 ·exact .inl ⟨by decide, by decide⟩
 ·exact .inl ⟨by decide, by decide⟩
 ·exact .inr rfl
 ·exact .inl ⟨by decide, by decide⟩
 ·exact .inl ⟨by decide, by decide⟩
 ·exact .inl ⟨by decide, by decide⟩
theorem wil_6_9_20 : Wil [6, 9, 20] 3 := by
 refine chk_sound (m := msk 1 [6, 9, 20]) (msk_sp1 [6, 9, 20] (by decide)) (by decide +kernel) fun x hx _ => ?_
 exact (Exam.sg (.inr (.inr (.inr (.inr (.inl rfl)))))).ends x (by omega)
def Dr (g : List Int) : Prop := IsSG g ∧ ((g.length ≤ 5 ∧ ∀ x ∈ g, ∀ y ∈ g, x ≤ y + 12 ∧ x ≤ 21) ∨ g = [6, 9, 20])
def Bt (r : List Int) : Prop := r.length ≤ 13 ∧ (IsSG r → Wil r r.length)
theorem Dr.bt {g : List Int} (h : Dr g) : Bt g := by
 refine ⟨by have := h.1.le; omega, fun _ => ?_⟩
 rcases h.2 with ⟨h1, h2⟩ | rfl
 ·exact wilfW h.1 (by omega) h2
 ·exact wil_6_9_20
theorem Dr.tail {g : List Int} (h : Dr g) : Bt (g.drop 1) := by
 have hle := h.1.le
 refine ⟨by rw [List.length_drop]; omega, fun hs => wilfW hs ?_ ?_⟩
 ·rw [List.length_drop]
  rcases h.2 with ⟨h1, _⟩ | rfl
  ·omega
  ·decide
 ·rcases h.2 with ⟨_, h2⟩ | rfl
  ·exact fun x hx y hy => h2 x (List.mem_of_mem_drop hx) y (List.mem_of_mem_drop hy)
  ·decide
theorem Dr.snoc {g : List Int} (h : Dr g) (z : Int) (hz : z ∈ [0, 61, 12, -3, (60 : Int)]) : Bt (g ++ [z]) := by
 have hle := h.1.le
 refine ⟨by simp; omega, fun hs => ?_⟩
 have hzr := hs.rng z (by simp)
 have hasc := hs.asc
 rw [List.pairwise_append] at hasc
 simp only [List.mem_cons, List.not_mem_nil, or_false] at hz
 have h5 : g.length ≤ 5 := by
  rcases h.2 with ⟨h1, _⟩ | rfl
  ·exact h1
  ·decide
 rcases hz with rfl | rfl | rfl | rfl | rfl
 ·omega
 ·omega
 ·refine wilfW hs (by simp; omega) fun x hx y hy => ?_
  have hy1 := hs.rng y hy
  have hx1 : x ≤ 12 := by
   rcases List.mem_append.1 hx with hx | hx
   ·have := hasc.2.2 x hx 12 (by simp); omega
   ·have : x = 12 := by simpa using hx
    omega
  omega
 ·omega
 ·rcases h.2 with ⟨h1, h2⟩ | rfl
  ·exact wilfW60 hs h.1.pos (by omega) h2
  ·exfalso
   refine hs.minl 3 (by decide) (by decide) ?_
   have := (Sums.one (g := [6, 9, 20]) (x := 6) (by decide)).mul 10
   exact this
theorem bt_pair (z : Int) (hz : z ∈ [0, 59, (4 : Int)]) : Bt [z, 60] := by
 refine ⟨by simp, fun hs => ?_⟩
 simp only [List.mem_cons, List.not_mem_nil, or_false] at hz
 rcases hz with rfl | rfl | rfl
 ·have := hs.rng 0 (by simp); omega
 ·exfalso
  have h1 := hs.ends 200 (by omega)
  have h2 := ((msk_sp1 [59, 60] (by decide)).2 200 (by decide)).2 h1
  exact absurd h2 (by decide +kernel)
 ·exfalso
  have := hs.gcd
  exact absurd this (by decide)
end Go.Proofs.Ytbjbolblahlhcaa.WM
end
section
namespace Go.Proofs.Ytbjbolblahlhcaa.FFnGlued
open Go Go.RowKit Go.Proofs.YtbjbolblahlhcaaW.PrintWords Go.Proofs.Ytbjbolblahlhcaa.M Go.Proofs.Ytbjbolblahlhcaa.PFnGlued Go.Proofs.Ytbjbolblahlhcaa.WM
theorem and255 (x : Int) : 0 ≤ Go.bits .and .i64 x 255 ∧ Go.bits .and .i64 x 255 ≤ 255 := by
 have h : (BitVec.ofInt 64 x &&& BitVec.ofInt 64 255).toNat ≤ 255 := by
  rw [BitVec.toNat_and]; exact Nat.and_le_right
 have e : Go.bits .and .i64 x 255 = IntKind.wrap .i64 ((BitVec.ofInt 64 x &&& BitVec.ofInt 64 255).toNat : Int) := rfl
 rw [e]
 revert h
 generalize (BitVec.ofInt 64 x &&& BitVec.ofInt 64 255).toNat = n
 intro h
 have : IntKind.wrap .i64 (n : Int) = n := by
  rw [IntKind.wrap_i64 (n : Int)]; omega
 omega
theorem byteD (b : List Int) (i h : Int) (hb : b.length ≤ 4611686018427387904) (hi : 0 ≤ i ∧ i ≤ b.length) : ∃ x i' h', spec_l1Byte.f b i h = some (x, i', h') ∧ 0 ≤ x ∧ x ≤ 255 ∧ 0 ≤ i' ∧ i' ≤ b.length := by
 unfold spec_l1Byte.f
 by_cases c : i < (b.length : Int)
 ·rw [if_pos c, if_pos hi.1]
  have := and255 (wrap64 ((Go.bits .and .i64 (Go.bits .xor .i64 ((wrap64 ((wrap64 (h * 6364136223846793005)) + 1442695040888963407)) / 8589934592) ((wrap64 ((wrap64 (h * 6364136223846793005)) + 1442695040888963407)) / 35184372088832)) 255) + (wrap64 (rd b i))))
  refine ⟨_, _, _, rfl, this.1, this.2, ?_, ?_⟩
  ·rw [w64 (by omega) (by omega)]; omega
  ·rw [w64 (by omega) (by omega)]; omega
 ·rw [if_neg c]
  have := and255 (Go.bits .xor .i64 ((wrap64 ((wrap64 (h * 6364136223846793005)) + 1442695040888963407)) / 8589934592) ((wrap64 ((wrap64 (h * 6364136223846793005)) + 1442695040888963407)) / 35184372088832))
  exact ⟨_, _, _, rfl, this.1, this.2, hi⟩
theorem belowD (b : List Int) (i h n : Int) (hb : b.length ≤ 4611686018427387904) (hi : 0 ≤ i ∧ i ≤ b.length) (hn : 1 ≤ n ∧ n ≤ 256) : ∃ x i' h', spec_l1Below.f b i h n = some (x, i', h') ∧ 0 ≤ x ∧ x < n ∧ 0 ≤ i' ∧ i' ≤ b.length := by
 obtain ⟨x, i', h', e, h0, _, hi'⟩ := byteD b i h hb hi
 unfold spec_l1Below.f
 rw [if_neg (by omega), if_pos hn.2, e]
 refine ⟨Int.tmod x n, i', h', ?_, ?_, ?_, hi'⟩
 ·rw [Option.bind_some, if_neg (by omega)]
 ·rw [tmod_pos h0]; exact Int.emod_nonneg _ (by omega)
 ·rw [tmod_pos h0]; exact Int.emod_lt_of_pos _ (by omega)
theorem pickD (b : List Int) (i h : Int) (l : List Int) (hb : b.length ≤ 4611686018427387904) (hi : 0 ≤ i ∧ i ≤ b.length) (hn : 1 ≤ l.length ∧ l.length ≤ 256) : ∃ x i' h', spec_l1PickInt.f b i h l = some (x, i', h') ∧ x ∈ l ∧ 0 ≤ i' ∧ i' ≤ b.length := by
 obtain ⟨x, i', h', e, h0, h1, hi'⟩ := belowD b i h l.length hb hi (by omega)
 unfold spec_l1PickInt.f
 rw [e]
 refine ⟨rd l x, i', h', ?_, ?_, hi'⟩
 ·rw [Option.bind_some, if_pos h0, if_pos h1]
 ·obtain ⟨m, rfl⟩ := Int.eq_ofNat_of_zero_le h0
  exact rd_mem (by omega)
theorem listD (b : List Int) (i h : Int) (hb : b.length ≤ 4611686018427387904) (hi : 0 ≤ i ∧ i ≤ b.length) : ∃ l i' h', spec_l3List.f b i h = some (l, i', h') ∧ Exam l ∧ 0 ≤ i' ∧ i' ≤ b.length := by
 obtain ⟨x, i', h', e, h0, h1, hi'⟩ := belowD b i h 8 hb hi (by omega)
 unfold spec_l3List.f
 rw [e, Option.bind_some]
 dsimp only
 by_cases c0 : x = 0
 ·rw [if_pos c0]; exact ⟨_, _, _, rfl, .inl rfl, hi'⟩
 rw [if_neg c0]
 by_cases c1 : x = 1
 ·rw [if_pos c1]; exact ⟨_, _, _, rfl, .inr (.inl rfl), hi'⟩
 rw [if_neg c1]
 by_cases c2 : x = 2
 ·rw [if_pos c2]; exact ⟨_, _, _, rfl, .inr (.inr (.inl rfl)), hi'⟩
 rw [if_neg c2]
 by_cases c3 : x = 3
 ·rw [if_pos c3]; exact ⟨_, _, _, rfl, .inr (.inr (.inr (.inl rfl))), hi'⟩
 rw [if_neg c3]
 by_cases c4 : x = 4
 ·rw [if_pos c4]; exact ⟨_, _, _, rfl, .inr (.inr (.inr (.inr (.inl rfl)))), hi'⟩
 rw [if_neg c4]
 by_cases c5 : x = 5
 ·rw [if_pos c5]; exact ⟨_, _, _, rfl, .inr (.inr (.inr (.inr (.inr (.inl rfl))))), hi'⟩
 rw [if_neg c5]
 by_cases c6 : x = 6
 ·rw [if_pos c6]; exact ⟨_, _, _, rfl, .inr (.inr (.inr (.inr (.inr (.inr (.inl rfl)))))), hi'⟩
 rw [if_neg c6]
 exact ⟨_, _, _, rfl, .inr (.inr (.inr (.inr (.inr (.inr (.inr rfl)))))), hi'⟩
theorem newD_l0 (b : List Int) : ∀ (d j : Nat) (h : Int), 4000 - j = d → j ≤ 4000 → ∃ h', Ev (fun k => spec_l1New.l0 k b h (j : Int)) (b, 0, h') := by
 intro d
 induction d with
 | zero =>
  intro j h hd hj
  refine ⟨h, Ev.step (fun _ => spec_l1New.l0.eq_2 ..) ?_⟩
  by_cases c : (j : Int) < (b.length : Int)
  ·exact Ev.pos c (Ev.neg (by omega) (Ev.now _))
  ·exact Ev.neg c (Ev.now _)
 | succ d ih =>
  intro j h hd hj
  by_cases c : (j : Int) < (b.length : Int)
  ·obtain ⟨h', e⟩ := ih (j + 1) (Go.bits .and .i64 (wrap64 ((wrap64 ((wrap64 (h * 131)) + (wrap64 (rd b j)))) + 7)) 1073741823) (by omega) (by omega)
   refine ⟨h', Ev.step (fun _ => spec_l1New.l0.eq_2 ..) ?_⟩
   refine Ev.pos c (Ev.pos (by omega) (Ev.pos (by omega) ?_))
   rw [w64s (j := j) (by omega)]
   exact e
  ·exact ⟨h, Ev.step (fun _ => spec_l1New.l0.eq_2 ..) (Ev.neg c (Ev.now _))⟩
theorem newD (b : List Int) : ∃ h', Ev (fun k => spec_l1New.f k b) (b, 0, h') := by
 unfold spec_l1New.f
 exact newD_l0 b 4000 0 _ (by omega) (by omega)
theorem onceD (b : List Int) (i h n : Int) (hb : b.length ≤ 4611686018427387904) (hi : 0 ≤ i ∧ i ≤ b.length) (hn : 1 ≤ n ∧ n ≤ 256) : ∃ x i' h', spec_l1Once.f b i h n = some (x, i', h') ∧ 0 ≤ i' ∧ i' ≤ b.length := by
 obtain ⟨x, i', h', e, _, _, hi'⟩ := belowD b i h n hb hi hn
 unfold spec_l1Once.f
 rw [e, Option.bind_some]
 exact ⟨_, _, _, rfl, hi'⟩
theorem examFG {l : List Int} (h : Exam l) {r : List Int × Bool} (hr : FG l r) : r = (l, true) := by
 obtain ⟨s, hs, hr⟩ := hr
 have hg := h.sg
 have : s = l := hs.uniq ⟨hg.asc, fun _ => Iff.rfl, Nat.le_refl _⟩
 subst this
 have hm : minOf [] s = s := (minOf_self s []).2 fun i hi => by
  rw [List.nil_append]
  rcases Nat.eq_zero_or_pos i with h0 | h0
  ·subst h0
   intro k
   have := hg.rng _ (List.getElem_mem hi)
   have := Sums.nil (by simpa using k)
   omega
  ·have := hg.minl i h0 hi
   rwa [getD_get hi] at this
 rw [hm] at hr
 rcases hr with ⟨_, _, e⟩ | ⟨n, _⟩
 ·exact e
 ·refine absurd ⟨⟨hg.rng, hg.pos, ?_⟩, hg⟩ n
  have := hg.le; omega
theorem examD (l : List Int) (h : Exam l) : Ev (fun k => spec_FromGens.f k l) (l, true) := by
 have hg := h.sg
 obtain ⟨r, h1, h2⟩ := sFG l (by have := hg.le; omega)
 rw [examFG h h2] at h1
 exact h1
theorem examDr {l : List Int} (h : Exam l) : Dr l := ⟨h.sg, h.win⟩
def Wl (l : List Int) : Prop := 1 ≤ l.length ∧ l.length ≤ 5 ∧ ∃ a, rd l 0 = a ∧ 2 ≤ a ∧ a ≤ 9 ∧ ∀ x ∈ l, a ≤ x ∧ x ≤ a + 12
theorem Wl.dr {l g : List Int} (h : Wl l) (hg : FG l (g, true)) : Dr g := by
 obtain ⟨h1, h2, a, _, h3, h4, h5⟩ := h
 have hsg := hg.ok
 obtain ⟨s, hs, ⟨_, _, e⟩ | ⟨_, e⟩⟩ := hg
 ·injection e with e _
  have hsub := minOf_sublist s []
  rw [← e] at hsub
  have hm : ∀ x ∈ g, a ≤ x ∧ x ≤ a + 12 := fun x hx => h5 x ((hs.2.1 x).1 (hsub.subset hx))
  refine ⟨hsg, .inl ⟨?_, fun x hx y hy => ?_⟩⟩
  ·have := hsub.length_le; have := hs.2.2; omega
  ·have := hm x hx; have := hm y hy; omega
 ·injection e with _ e; cases e
theorem drawD_l1 (b : List Int) (hb : b.length ≤ 4611686018427387904) (j : Nat) (n : Nat) (hn : n ≤ 4) (hj : j ≤ 3) (next : ∀ i h : Int, 0 ≤ i ∧ i ≤ b.length → ∃ g i' h', Ev (fun k => spec_l3Draw.l0 k ((j + 1 : Nat) : Int) b i h) (g, i', h') ∧ Dr g ∧ 0 ≤ i' ∧ i' ≤ b.length) :
 ∀ (d m : Nat) (l : List Int) (i h : Int), n - m = d → m ≤ n → l.length = m + 1 → Wl l → 0 ≤ i ∧ i ≤ b.length → ∃ g i' h', Ev (fun k => spec_l3Draw.l1 k (j : Int) l (n : Int) (m : Int) b i h) (g, i', h') ∧ Dr g ∧ 0 ≤ i' ∧ i' ≤ b.length := by
 intro d
 induction d with
 | zero =>
  intro m l i h hd hm hl hw hi
  obtain ⟨⟨g, ok⟩, a1, a2⟩ := sFG l (by have := hw.2.1; omega)
  cases ok with
  | true =>
   refine ⟨g, i, h, Ev.step (fun _ => spec_l3Draw.l1.eq_2 ..) ?_, hw.dr a2, hi⟩
   refine Ev.neg (by omega) (Ev.bind a1 (Ev.pos rfl (Ev.now _)))
  | false =>
   obtain ⟨g', i', h', k1, k2⟩ := next i h hi
   refine ⟨g', i', h', Ev.step (fun _ => spec_l3Draw.l1.eq_2 ..) ?_, k2⟩
   refine Ev.neg (by omega) (Ev.bind a1 (Ev.neg (by simp) ?_))
   rw [w64s (by omega)]
   exact k1
 | succ d ih =>
  intro m l i h hd hm hl hw hi
  obtain ⟨x, i1, h1, e, hx0, hx1, hi1⟩ := belowD b i h 12 hb hi (by omega)
  obtain ⟨w1, w2, a, w3, w4, w5, w6⟩ := hw
  obtain ⟨g, i', h', k1, k2⟩ := ih (m + 1) (l ++ [a + 1 + x]) i1 h1 (by omega) (by omega) (by simp; omega) (by
   refine ⟨by simp, by simp; omega, a, ?_, w4, w5, fun y hy => ?_⟩
   ·rw [← w3]; unfold rd
    rw [List.getD_eq_getElem?_getD, List.getElem?_append_left (by omega), ← List.getD_eq_getElem?_getD]
   ·rcases List.mem_append.1 hy with hy | hy
    ·exact w6 y hy
    ·have : y = a + 1 + x := by simpa using hy
     omega) hi1
  refine ⟨g, i', h', Ev.step (fun _ => spec_l3Draw.l1.eq_2 ..) ?_, k2⟩
  refine Ev.pos (by omega) (Ev.pos (by omega) (Ev.call e (Ev.pos (by omega) ?_)))
  rw [w3, w64 (x := a + 1) (by omega) (by omega), w64 (x := a + 1 + x) (by omega) (by omega), w64s (by omega)]
  exact k1
theorem drawD_l0 (b : List Int) (hb : b.length ≤ 4611686018427387904) : ∀ (d j : Nat) (i h : Int), 4 - j = d → j ≤ 4 → 0 ≤ i ∧ i ≤ b.length → ∃ g i' h', Ev (fun k => spec_l3Draw.l0 k (j : Int) b i h) (g, i', h') ∧ Dr g ∧ 0 ≤ i' ∧ i' ≤ b.length := by
 intro d
 induction d with
 | zero =>
  intro j i h hd hj hi
  obtain ⟨l, i', h', e, hE, hi'⟩ := listD b i h hb hi
  refine ⟨l, i', h', Ev.step (fun _ => spec_l3Draw.l0.eq_2 ..) ?_, examDr hE, hi'⟩
  exact Ev.neg (by omega) (Ev.call e (Ev.bind (examD l hE) (Ev.now _)))
 | succ d ih =>
  intro j i h hd hj hi
  obtain ⟨x, i1, h1, e1, x0, x1, hi1⟩ := belowD b i h 8 hb hi (by omega)
  obtain ⟨y, i2, h2, e2, y0, y1, hi2⟩ := belowD b i1 h1 4 hb hi1 (by omega)
  obtain ⟨n, hn⟩ : ∃ n : Nat, 1 + y = (n : Int) := ⟨(1 + y).toNat, by omega⟩
  obtain ⟨g, i', h', k1, k2⟩ := drawD_l1 b hb j n (by omega) (by omega) (fun i h hi => ih (j + 1) i h (by omega) (by omega) hi) n 0 [2 + x] i2 h2 (by omega) (by omega) (by simp) (by
   refine ⟨by simp, by simp, 2 + x, rfl, by omega, by omega, fun z hz => ?_⟩
   have : z = 2 + x := by simpa using hz
   omega) hi2
  refine ⟨g, i', h', Ev.step (fun _ => spec_l3Draw.l0.eq_2 ..) ?_, k2⟩
  refine Ev.pos (by omega) (Ev.call e1 (Ev.call e2 ?_))
  dsimp only
  rw [w64 (x := 2 + x) (by omega) (by omega), w64 (x := 1 + y) (by omega) (by omega), hn]
  exact k1
theorem drawD (b : List Int) (i h : Int) (hb : b.length ≤ 4611686018427387904) (hi : 0 ≤ i ∧ i ≤ b.length) : ∃ g i' h', Ev (fun k => spec_l3Draw.f k b i h) (g, i', h') ∧ Dr g ∧ 0 ≤ i' ∧ i' ≤ b.length := by
 obtain ⟨x, i1, h1, e1, hi1⟩ := onceD b i h 4 hb hi (by omega)
 unfold spec_l3Draw.f
 cases x with
 | true =>
  obtain ⟨l, i', h', e, hE, hi'⟩ := listD b i1 h1 hb hi1
  exact ⟨l, i', h', Ev.call e1 (Ev.pos rfl (Ev.call e (Ev.bind (examD l hE) (Ev.now _)))), examDr hE, hi'⟩
 | false =>
  obtain ⟨g, i', h', k1, k2⟩ := drawD_l0 b hb 4 0 i1 h1 (by omega) (by omega) hi1
  exact ⟨g, i', h', Ev.call e1 (Ev.neg (by simp) k1), k2⟩
theorem bentD (b : List Int) (i h : Int) (hb : b.length ≤ 4611686018427387904) (hi : 0 ≤ i ∧ i ≤ b.length) : ∃ g i' h', Ev (fun k => spec_l3Bent.f k b i h) (g, i', h') ∧ Bt g ∧ 0 ≤ i' ∧ i' ≤ b.length := by
 obtain ⟨g, i1, h1, e1, hD, hi1⟩ := drawD b i h hb hi
 obtain ⟨x, i2, h2, e2, x0, x1, hi2⟩ := belowD b i1 h1 12 hb hi1 (by omega)
 have hle := hD.1.le
 unfold spec_l3Bent.f
 by_cases c0 : x = 0
 ·obtain ⟨z, i3, h3, e3, hz, hi3⟩ := pickD b i2 h2 [0, 61, 12, -3, 60] hb hi2 (by decide)
  exact ⟨_, _, _, Ev.bind e1 (Ev.call e2 (Ev.pos c0 (Ev.call e3 (Ev.pos (by simp only; omega) (Ev.now _))))), hD.snoc z hz, hi3⟩
 by_cases c1 : x = 1
 ·exact ⟨_, _, _, Ev.bind e1 (Ev.call e2 (Ev.neg c0 (Ev.pos c1 (Ev.pos (by have := hD.1.pos; simp only; omega) (Ev.now _))))), hD.tail, hi2⟩
 by_cases c2 : x = 2
 ·obtain ⟨z, i3, h3, e3, hz, hi3⟩ := pickD b i2 h2 [0, 59, 4] hb hi2 (by decide)
  exact ⟨_, _, _, Ev.bind e1 (Ev.call e2 (Ev.neg c0 (Ev.neg c1 (Ev.pos c2 (Ev.call e3 (Ev.now _)))))), bt_pair z hz, hi3⟩
 ·exact ⟨_, _, _, Ev.bind e1 (Ev.call e2 (Ev.neg c0 (Ev.neg c1 (Ev.neg c2 (Ev.now _))))), hD.bt, hi2⟩
end Go.Proofs.Ytbjbolblahlhcaa.FFnGlued
end
section
namespace Go.Proofs.Ytbjbolblahlhcaa.FFnGlued
open Go Go.RowKit Go.Proofs.YtbjbolblahlhcaaW.PrintWords Go.Proofs.Ytbjbolblahlhcaa.M Go.Proofs.Ytbjbolblahlhcaa.PFnGlued Go.Proofs.Ytbjbolblahlhcaa.WM
theorem ev_at {α : Type} {g : Nat → Option α} {r : α} (n : Nat) (h : ∀ k, g (k + n) = some r) : Ev g r :=
 ⟨n, fun m hm => (show m = (m - n) + n by omega) ▸ h (m - n)⟩
theorem sgTextD (l : List Int) (hl : l.length ≤ 1048576) (s : ByteArray) (hs : Ev (fun k => spec_ListText.f k l) s) (hsz : s.size ≤ 1000) : ∃ t, Ev (fun k => spec_SemigroupText.f k l) t := by
 unfold spec_SemigroupText.f
 by_cases h : IsSG l
 ·refine ⟨_, Ev.bind ((sIsSG l hl).yes h) (Ev.pos rfl (Ev.bind hs (Ev.pos (by omega) (Ev.pos ?_ (Ev.now _)))))⟩
  rw [ByteArray.size_append]
  have : (⟨#[60]⟩ : ByteArray).size = 1 := rfl
  omega
 ·exact ⟨_, Ev.bind ((sIsSG l hl).no h) (Ev.neg (by simp) (Ev.now _))⟩
theorem parseD (t : ByteArray) (l : List Int) (s : ByteArray) (h2 : 2 ≤ t.size) (hsz : t.size ≤ 100) (hl : l.length ≤ 1000) (hP : Ev (fun k => spec_ParseList.f k (t.extract 1 (t.size - 1))) (l, true)) (hs : Ev (fun k => spec_ListText.f k l) s) (hss : s.size ≤ 1000) : ∃ r, Ev (fun k => spec_ParseSemigroup.f k t) r ∧ r.1.length ≤ 1000 := by
 obtain ⟨u, hu⟩ := sgTextD l (by omega) s hs hss
 unfold spec_ParseSemigroup.f
 rw [w64 (x := (t.size : Int) - 1) (by omega) (by omega), show ((t.size : Int) - 1).toNat = t.size - 1 by omega]
 by_cases c : u.toList = t.toList
 ·exact ⟨_, Ev.neg (by omega) (Ev.pos (by omega) (Ev.pos (by omega) (Ev.bind hP (Ev.pos rfl (Ev.bind hu (Ev.pos c (Ev.now _))))))), hl⟩
 ·exact ⟨_, Ev.neg (by omega) (Ev.pos (by omega) (Ev.pos (by omega) (Ev.bind hP (Ev.pos rfl (Ev.bind hu (Ev.neg c (Ev.now _))))))), by simp⟩
def T1 : ByteArray := ⟨#[60, 49, 62]⟩
def T23 : ByteArray := ⟨#[60, 50, 44, 51, 62]⟩
def T34 : ByteArray := ⟨#[60, 51, 44, 52, 62]⟩
def T25 : ByteArray := ⟨#[60, 50, 44, 53, 62]⟩
def T345 : ByteArray := ⟨#[60, 51, 44, 52, 44, 53, 62]⟩
theorem parse1 : ∃ r, Ev (fun k => spec_ParseSemigroup.f k T1) r ∧ r.1.length ≤ 1000 :=
 parseD T1 [1] ⟨#[49]⟩ (by decide) (by decide) (by decide) (ev_at 40 fun k => by kernel_rfl) (ev_at 40 fun k => by kernel_rfl) (by decide)
theorem parse23 : ∃ r, Ev (fun k => spec_ParseSemigroup.f k T23) r ∧ r.1.length ≤ 1000 :=
 parseD T23 [2, 3] ⟨#[50, 44, 51]⟩ (by decide) (by decide) (by decide) (ev_at 40 fun k => by kernel_rfl) (ev_at 40 fun k => by kernel_rfl) (by decide)
theorem parse34 : ∃ r, Ev (fun k => spec_ParseSemigroup.f k T34) r ∧ r.1.length ≤ 1000 :=
 parseD T34 [3, 4] ⟨#[51, 44, 52]⟩ (by decide) (by decide) (by decide) (ev_at 40 fun k => by kernel_rfl) (ev_at 40 fun k => by kernel_rfl) (by decide)
theorem parse25 : ∃ r, Ev (fun k => spec_ParseSemigroup.f k T25) r ∧ r.1.length ≤ 1000 :=
 parseD T25 [2, 5] ⟨#[50, 44, 53]⟩ (by decide) (by decide) (by decide) (ev_at 40 fun k => by kernel_rfl) (ev_at 40 fun k => by kernel_rfl) (by decide)
theorem parse345 : ∃ r, Ev (fun k => spec_ParseSemigroup.f k T345) r ∧ r.1.length ≤ 1000 :=
 parseD T345 [3, 4, 5] ⟨#[51, 44, 52, 44, 53]⟩ (by decide) (by decide) (by decide) (ev_at 40 fun k => by kernel_rfl) (ev_at 40 fun k => by kernel_rfl) (by decide)
theorem textD (b : List Int) (i h : Int) (l : List ByteArray) (hb : b.length ≤ 4611686018427387904) (hi : 0 ≤ i ∧ i ≤ b.length) (hn : 1 ≤ l.length ∧ l.length ≤ 256) : ∃ x i' h', spec_l1Pick.f b i h l = some (x, i', h') ∧ x ∈ l ∧ 0 ≤ i' ∧ i' ≤ b.length := by
 obtain ⟨x, i', h', e, h0, h1, hi'⟩ := belowD b i h l.length hb hi (by omega)
 unfold spec_l1Pick.f
 rw [e]
 refine ⟨rdOf ByteArray.empty l x, i', h', ?_, ?_, hi'⟩
 ·rw [Option.bind_some, if_pos h0, if_pos h1]
 ·obtain ⟨m, rfl⟩ := Int.eq_ofNat_of_zero_le h0
  rw [rdOf_get (by omega)]
  exact List.getElem_mem _
theorem parsedD (x : ByteArray) (h : x ∈ [T1, T23, T34, T25, T345]) : ∃ r, Ev (fun k => spec_ParseSemigroup.f k x) r ∧ r.1.length ≤ 1000 := by
 simp only [List.mem_cons, List.not_mem_nil, or_false] at h
 rcases h with rfl | rfl | rfl | rfl | rfl
 ·exact parse1
 ·exact parse23
 ·exact parse34
 ·exact parse25
 ·exact parse345
theorem caseD_j0 (x y : Int) (b : List Int) (i h : Int) (p q : List Int) (hb : b.length ≤ 4611686018427387904) (hi : 0 ≤ i ∧ i ≤ b.length) (hp : p.length ≤ 1000) (hq : q.length ≤ 1000) : ∃ a c u v, Ev (fun k => spec_l22Case.j0 k x y b i h p q) (a, c, u, v) ∧ a.length ≤ 1000 ∧ c.length ≤ 1000 := by
 obtain ⟨o, i1, h1, e1, hi1⟩ := onceD b i h 12 hb hi (by omega)
 cases o with
 | true =>
  obtain ⟨g, i2, h2, e2, hg, _⟩ := bentD b i1 h1 hb hi1
  exact ⟨g, q, x, y, Ev.step (fun _ => spec_l22Case.j0.eq_2 ..) (Ev.call e1 (Ev.pos rfl (Ev.bind e2 (Ev.now _)))), by have := hg.1; omega, hq⟩
 | false => exact ⟨p, q, x, y, Ev.step (fun _ => spec_l22Case.j0.eq_2 ..) (Ev.call e1 (Ev.neg (by simp) (Ev.now _))), hp, hq⟩
theorem glueD (b : List Int) (hb : b.length ≤ 4611686018427387904) : ∃ a c u v, Ev (fun k => spec_DrawGlueOf.f k b) (a, c, u, v) ∧ a.length ≤ 1000 ∧ c.length ≤ 1000 := by
 obtain ⟨h0, e0⟩ := newD b
 obtain ⟨t1, i1, h1, e1, m1, hi1⟩ := textD b 0 h0 [T1, T23, T34, T25, T345] hb (by omega) (by decide)
 obtain ⟨r1, p1, l1⟩ := parsedD t1 m1
 obtain ⟨t2, i2, h2, e2, m2, hi2⟩ := textD b i1 h1 [T1, T23, T1, T25] hb hi1 (by decide)
 obtain ⟨r2, p2, l2⟩ := parsedD t2 (by
  simp only [List.mem_cons, List.not_mem_nil, or_false] at m2 ⊢
  rcases m2 with rfl | rfl | rfl | rfl <;> simp)
 obtain ⟨x, i3, h3, e3, x0, x1, hi3⟩ := belowD b i2 h2 10 hb hi2 (by omega)
 obtain ⟨y, i4, h4, e4, y0, y1, hi4⟩ := belowD b i3 h3 10 hb hi3 (by omega)
 obtain ⟨o, i5, h5, e5, hi5⟩ := onceD b i4 h4 12 hb hi4 (by omega)
 have body : ∃ a c u v, Ev (fun k => spec_l22Case.f k b) (a, c, u, v) ∧ a.length ≤ 1000 ∧ c.length ≤ 1000 := by
  unfold spec_l22Case.f
  cases o with
  | true =>
   obtain ⟨z, i6, h6, e6, _, hi6⟩ := pickD b i5 h5 [0, 61, -1, 1] hb hi5 (by decide)
   obtain ⟨a, c, u, v, k1, k2⟩ := caseD_j0 z (wrap64 (2 + y)) b i6 h6 r1.1 r2.1 hb hi6 l1 l2
   exact ⟨a, c, u, v, Ev.bind e0 (Ev.call e1 (Ev.bind p1 (Ev.call e2 (Ev.bind p2 (Ev.call e3 (Ev.call e4 (Ev.call e5 (Ev.pos rfl (Ev.call e6 k1))))))))), k2⟩
  | false =>
   obtain ⟨a, c, u, v, k1, k2⟩ := caseD_j0 (wrap64 (2 + x)) (wrap64 (2 + y)) b i5 h5 r1.1 r2.1 hb hi5 l1 l2
   exact ⟨a, c, u, v, Ev.bind e0 (Ev.call e1 (Ev.bind p1 (Ev.call e2 (Ev.bind p2 (Ev.call e3 (Ev.call e4 (Ev.call e5 (Ev.neg (by simp) k1)))))))), k2⟩
 obtain ⟨a, c, u, v, k1, k2⟩ := body
 refine ⟨a, c, u, v, ?_, k2⟩
 unfold spec_DrawGlueOf.f
 exact Ev.bind k1 (Ev.now _)
theorem l2D_l0 (b : List Int) (hb : b.length ≤ 4611686018427387904) (n : Nat) (hn : n ≤ 5) : ∀ (d m : Nat) (l : List Int) (i h : Int), n - m = d → m ≤ n → l.length = m → 0 ≤ i ∧ i ≤ b.length → ∃ r i' h', Ev (fun k => spec_l2Draw.l0 k l (n : Int) (m : Int) b i h) (r, i', h') ∧ r.length ≤ 1000 := by
 intro d
 induction d with
 | zero =>
  intro m l i h hd hm hl hi
  exact ⟨l, i, h, Ev.step (fun _ => spec_l2Draw.l0.eq_2 ..) (Ev.neg (by omega) (Ev.now _)), by omega⟩
 | succ d ih =>
  intro m l i h hd hm hl hi
  obtain ⟨x, i1, h1, e, _, _, hi1⟩ := belowD b i h 25 hb hi (by omega)
  obtain ⟨r, i', h', k1, k2⟩ := ih (m + 1) (l ++ [wrap64 (x - 4)]) i1 h1 (by omega) (by omega) (by simp; omega) hi1
  refine ⟨r, i', h', Ev.step (fun _ => spec_l2Draw.l0.eq_2 ..) (Ev.pos (by omega) (Ev.call e (Ev.pos (by omega) ?_))), k2⟩
  rw [w64s (by omega)]; exact k1
theorem l2D (b : List Int) (i h : Int) (hb : b.length ≤ 4611686018427387904) (hi : 0 ≤ i ∧ i ≤ b.length) : ∃ r i' h', Ev (fun k => spec_l2Draw.f k b i h) (r, i', h') ∧ r.length ≤ 1000 := by
 obtain ⟨x, i1, h1, e, x0, x1, hi1⟩ := belowD b i h 6 hb hi (by omega)
 obtain ⟨n, rfl⟩ := Int.eq_ofNat_of_zero_le x0
 obtain ⟨r, i', h', k1, k2⟩ := l2D_l0 b hb n (by omega) n 0 [] i1 h1 (by omega) (by omega) rfl hi1
 refine ⟨r, i', h', ?_, k2⟩
 unfold spec_l2Draw.f
 exact Ev.call e k1
theorem telD (b : List Int) (hb : b.length ≤ 4611686018427387904) : ∃ l, Ev (fun k => spec_DrawIsTelescopic.f k b) l ∧ l.length ≤ 1000 := by
 obtain ⟨h0, e0⟩ := newD b
 obtain ⟨o, i1, h1, e1, hi1⟩ := onceD b 0 h0 2 hb (by omega) (by omega)
 unfold spec_DrawIsTelescopic.f spec_l22List.f
 cases o with
 | true =>
  obtain ⟨x, i2, h2, e2, _, _, hi2⟩ := belowD b i1 h1 4 hb hi1 (by omega)
  obtain ⟨y, i3, h3, e3, _, _, hi3⟩ := belowD b i2 h2 4 hb hi2 (by omega)
  obtain ⟨z, i4, h4, e4, _, _, hi4⟩ := belowD b i3 h3 3 hb hi3 (by omega)
  exact ⟨_, Ev.bind (Ev.bind e0 (Ev.call e1 (Ev.pos rfl (Ev.call e2 (Ev.call e3 (Ev.call e4 (Ev.now _))))))) (Ev.now _), by simp⟩
 | false =>
  obtain ⟨o2, i2, h2, e2, hi2⟩ := onceD b i1 h1 3 hb hi1 (by omega)
  cases o2 with
  | true =>
   obtain ⟨r, i3, h3, e3, hr⟩ := l2D b i2 h2 hb hi2
   exact ⟨r, Ev.bind (Ev.bind e0 (Ev.call e1 (Ev.neg (by simp) (Ev.call e2 (Ev.pos rfl (Ev.bind e3 (Ev.now _))))))) (Ev.now _), hr⟩
  | false =>
   obtain ⟨g, i3, h3, e3, hg, _⟩ := drawD b i2 h2 hb hi2
   have := hg.1.le
   refine ⟨[] ++ g, Ev.bind (Ev.bind e0 (Ev.call e1 (Ev.neg (by simp) (Ev.call e2 (Ev.neg (by simp) (Ev.call rfl (Ev.bind e3 (Ev.pos ?_ (Ev.now _))))))))) (Ev.now _), by simp; omega⟩
   simp; omega
end Go.Proofs.Ytbjbolblahlhcaa.FFnGlued
end
section
namespace Go.Proofs.Ytbjbolblahlhcaa.FFnGlued
open Go Go.RowKit Go.Proofs.YtbjbolblahlhcaaW.PrintWords Go.Proofs.Ytbjbolblahlhcaa.M Go.Proofs.Ytbjbolblahlhcaa.PFnGlued Go.Proofs.Ytbjbolblahlhcaa.WM
theorem gaps_of {l g : List Int} (h1 : (IsSG l ∧ g = gaps l) ∨ (¬ IsSG l ∧ g = [])) (h : IsSG l) : g = gaps l := by
 rcases h1 with ⟨_, e⟩ | ⟨n, _⟩
 ·exact e
 ·exact absurd h n
theorem eqSGs (a b : List Int) (ha : a.length ≤ 1048576) : EvB (fun k => spec_EqualSemigroup.f k a b) (a = b) := by
 unfold spec_EqualSemigroup.f
 obtain ⟨c, h1, h2⟩ := l2Same a b (by omega)
 exact EvB.bind h1 ⟨c, Ev.now _, h2⟩
theorem law_j0 (l : List Int) (hl : l.length ≤ 1048576) (b : Bool) (hb : b = true ↔ TC l) (n : Int) (hn : TC l → n = tsum l l.length) : Ev (fun k => laws_FnGlued.j0 k l b n false) true := by
 refine Ev.step (fun _ => laws_FnGlued.j0.eq_2 ..) (Ev.neg (by simp) ?_)
 obtain ⟨⟨u, ok⟩, h1, h2⟩ := sFG l hl
 refine Ev.bind h1 ?_
 cases b with
 | false => exact Ev.neg (by simp) (Ev.now _)
 | true =>
  refine Ev.pos rfl ?_
  cases ok with
  | false => exact Ev.neg (by simp) (Ev.now _)
  | true =>
   refine Ev.pos rfl ?_
   have hT := hb.1 rfl
   have hu := h2.ok
   have hle := hu.le
   obtain ⟨k1, k2⟩ := tel_done l hT.1.1.2.1 (fun x hx => (hT.1.1.1 x hx).1) hT.1.2 hT.2
   have e := (nsSG hu).uniq k1 h2.sums
   obtain ⟨g, g1, g2, _⟩ := frobBoth u (by omega)
   rw [gaps_of g1 hu] at g2
   have hs := (sSymm u (by omega)).yes ⟨hu, by rw [e]; exact (sym_congr h2.sums).2 k2⟩
   rw [hn hT, ← e]
   revert g2
   generalize lastOf (gaps u) = f
   intro g2
   exact Ev.bind g2 (Ev.pos rfl (Ev.bind hs (Ev.now _)))
theorem law (l0 : List Int) (hl : l0.length ≤ 1048576) : Ev (fun k => laws_FnGlued.f k l0) true := by
 unfold laws_FnGlued.f
 refine Ev.call rfl (Ev.neg (by simp; omega) ?_)
 obtain ⟨a, c, x, y, e1, ha, hc⟩ := glueD l0 (by omega)
 obtain ⟨l, e2, hll⟩ := telD l0 (by omega)
 obtain ⟨r, s1, s2⟩ := sGL a c x y (by omega) (by omega)
 obtain ⟨r', i1, i2⟩ := iGL a c x y (by omega) (by omega)
 have := i2.uniq s2
 subst this
 obtain ⟨n, n1, n2, n3⟩ := glueFrob2 a c x y r' (by omega) (by omega) s2
 obtain ⟨b, b1, b2, b3⟩ := (iTel l (by omega)).eqv (sTel l (by omega))
 obtain ⟨m, m1, m2, m3⟩ := telFrob l (by omega)
 obtain ⟨g, ok⟩ := r'
 have hgl : g.length ≤ 1048576 := by
  rcases s2.cases with ⟨_, h⟩ | h
  ·have := h.le; simp only at this; omega
  ·injection h with h _; rw [h]; simp
 have fin := law_j0 l (by omega) b b3 m m3
 refine Ev.bind e1 (Ev.bind i1 (Ev.bind s1 (Ev.bind n2 (Ev.bind e2 (Ev.bind b1 (Ev.bind m2 ?_))))))
 refine Ev.neg (by simp) (Ev.bind ((eqSGs g g hgl).yes rfl) (Ev.pos rfl (Ev.bind n1 (Ev.pos rfl (Ev.bind b2 (Ev.neg (by simp) (Ev.bind m1 (Ev.pos rfl ?_))))))))
 cases ok with
 | false => exact Ev.neg (by simp) fin
 | true =>
  refine Ev.pos rfl ?_
  obtain ⟨sa, sc, sg, _, _, G⟩ := s2.gl
  have hle := sg.le
  obtain ⟨gg, g1, g2, _⟩ := frobBoth g (by omega)
  rw [gaps_of g1 sg] at g2
  have hn := n3 rfl
  have e := (nsSG sg).uniq G.frob fun _ => Iff.rfl
  have hsym : Sym (Sums g) (lastOf (gaps g)) ↔ Sym (Sums a) (lastOf (gaps a)) ∧ Sym (Sums c) (lastOf (gaps c)) := by rw [e]; exact G.sym
  obtain ⟨p, p1, p2⟩ := sSymm g (by omega)
  obtain ⟨q, q1, q2⟩ := sSymm a (by omega)
  obtain ⟨t, t1, t2⟩ := sSymm c (by omega)
  refine Ev.bind g2 (Ev.pos (by exact hn) (Ev.bind p1 (Ev.bind q1 ?_)))
  cases q with
  | true =>
   refine Ev.pos rfl (Ev.bind t1 ?_)
   have : p = t := by
    rw [Bool.eq_iff_iff, p2, t2, hsym]
    exact ⟨fun k => ⟨sc, k.2.2⟩, fun k => ⟨sg, (q2.1 rfl).2, k.2⟩⟩
   rw [this, show (t != t) = false by simp]
   exact fin
  | false =>
   refine Ev.neg (by simp) ?_
   have : p = false := by
    cases p with
    | false => rfl
    | true =>
     have h1 := (hsym.1 (p2.1 rfl).2).1
     exact absurd (q2.2 ⟨sa, h1⟩) (by simp)
   rw [this, show (false != false) = false by rfl]
   exact fin
end Go.Proofs.Ytbjbolblahlhcaa.FFnGlued
namespace Go.Proofs.Ytbjbolblahlhcaa.Pure
open Go.Proofs.YtbjbolblahlhcaaW.PrintWords Go.Proofs.Ytbjbolblahlhcaa.PFnGlued Go.Proofs.Ytbjbolblahlhcaa.FFnGlued Go.Proofs.Ytbjbolblahlhcaa.M
theorem FnGlued : laws_FnGlued.Pure := by
 intro l0 _ hl _
 by_cases h : l0.length ≤ 1048576
 ·exact Ev.rounds (law l0 h)
 ·refine ⟨0, ?_⟩
  unfold laws_FnGlued.f laws_big.f
  rw [Option.bind_some, if_pos (by simp; omega)]
end Go.Proofs.Ytbjbolblahlhcaa.Pure
end
section
namespace Go.Proofs.YtbjbolblahlhcaaW.PrintWords
open Go.ChangeShapes Go.WideShapes
theorem sized_ints {H : Type} {enc : TypeId × Value → H} {P : Program} {W : World} {base : Nat} {spare : Nat → Bool} {held : Bool} {t e : TypeId} {k : IntKind} {a : Option Addr} {len cap : Nat} {d : DataW H} {ps : List MemPlace} {ts : List TypeId} {ds : List (DataW H)} {j : Nat}
 (hsz : (DataW.weightsEach P ts ds).all (· ≤ reachBytes) = true) (ht : ts[j]? = some t) (hd : ds[j]? = some d) (hu : P.underlying t = some (.slice e)) (he : P.underlying e = some (.int k)) (hc : P.cellsOf e = 1) {B : Nat} (hB : P.bytesOf e = B)
 (h : DataW.Trod enc P W base spare held t (.slice a len cap) d ps) : len * B ≤ 140737488351232 := by
 obtain ⟨fuel, hf⟩ := h
 rcases open_ints hu he hc hf with ⟨hcs, _⟩ | ⟨x, l, c, zs, hcs, _, hl, _, hz, hx, _, _⟩
 ·simp [Value.cells] at hcs
  obtain ⟨rfl, rfl, rfl⟩ := hcs
  simp
 ·simp [Value.cells] at hcs
  obtain ⟨rfl, rfl, rfl⟩ := hcs
  obtain ⟨hx, _⟩ := Prod.mk.inj hx
  subst hx
  have z := sized_slice hsz ht hd hu
  rw [hB] at z
  have hl2 : len ≤ zs.length := by
   rw [hz]
   split
   ·exact hl
   ·exact Nat.le_refl _
  have h1 : (lits (H := H) k (zs.take len)).length + (lits (H := H) k (zs.drop len)).length = zs.length := by
   simp [lits]
   omega
  rw [h1] at z
  exact Nat.le_trans (Nat.mul_le_mul_right _ hl2) z
end Go.Proofs.YtbjbolblahlhcaaW.PrintWords
end
