/- Part 10 of the claim for FnWilf, of the chain from the printed contracts and the plain laws to the row. It has no condition of its own. -/
import Derived.Test.YtbjbolblahlhcaaG9ZFnWilf
import Derived.SizedLaws
import Derived.ChangeSlices
section
namespace Go.Proofs.Ytbjbolblahlhcaa.FFnWilf
open Go Go.RowKit Go.Proofs.YtbjbolblahlhcaaW.PrintWords Go.Proofs.Ytbjbolblahlhcaa.M Go.Proofs.Ytbjbolblahlhcaa.PFnWilf Go.Proofs.Ytbjbolblahlhcaa.WM
theorem and255 (x : Int) : 0 ≤ Go.bits .and .i64 x 255 ∧ Go.bits .and .i64 x 255 ≤ 255 := by
 have h : (BitVec.ofInt 64 x &&& BitVec.ofInt 64 255).toNat ≤ 255 := by
  rw [BitVec.toNat_and]; exact Nat.and_le_right
 have e : Go.bits .and .i64 x 255 = IntKind.wrap .i64 ((BitVec.ofInt 64 x &&& BitVec.ofInt 64 255).toNat : Int) := rfl
 rw [e]
 revert h
 generalize (BitVec.ofInt 64 x &&& BitVec.ofInt 64 255).toNat = n
 intro h
 have : IntKind.wrap .i64 (n : Int) = n := by
  rw [IntKind.wrap_i64 (n : Int)]; omega
 omega
theorem byteD (b : List Int) (i h : Int) (hb : b.length ≤ 4611686018427387904) (hi : 0 ≤ i ∧ i ≤ b.length) : ∃ x i' h', spec_l1Byte.f b i h = some (x, i', h') ∧ 0 ≤ x ∧ x ≤ 255 ∧ 0 ≤ i' ∧ i' ≤ b.length := by
 unfold spec_l1Byte.f
 by_cases c : i < (b.length : Int)
 ·rw [if_pos c, if_pos hi.1]
  have := and255 (wrap64 ((Go.bits .and .i64 (Go.bits .xor .i64 ((wrap64 ((wrap64 (h * 6364136223846793005)) + 1442695040888963407)) / 8589934592) ((wrap64 ((wrap64 (h * 6364136223846793005)) + 1442695040888963407)) / 35184372088832)) 255) + (wrap64 (rd b i))))
  refine ⟨_, _, _, rfl, this.1, this.2, ?_, ?_⟩
  ·rw [w64 (by omega) (by omega)]; omega
  ·rw [w64 (by omega) (by omega)]; omega
 ·rw [if_neg c]
  have := and255 (Go.bits .xor .i64 ((wrap64 ((wrap64 (h * 6364136223846793005)) + 1442695040888963407)) / 8589934592) ((wrap64 ((wrap64 (h * 6364136223846793005)) + 1442695040888963407)) / 35184372088832))
  exact ⟨_, _, _, rfl, this.1, this.2, hi⟩
theorem belowD (b : List Int) (i h n : Int) (hb : b.length ≤ 4611686018427387904) (hi : 0 ≤ i ∧ i ≤ b.length) (hn : 1 ≤ n ∧ n ≤ 256) : ∃ x i' h', spec_l1Below.f b i h n = some (x, i', h') ∧ 0 ≤ x ∧ x < n ∧ 0 ≤ i' ∧ i' ≤ b.length := by
 obtain ⟨x, i', h', e, h0, _, hi'⟩ := byteD b i h hb hi
 unfold spec_l1Below.f
 rw [if_neg (by omega), if_pos hn.2, e]
 refine ⟨Int.tmod x n, i', h', ?_, ?_, ?_, hi'⟩
 ·rw [Option.bind_some, if_neg (by omega)]
 ·rw [tmod_pos h0]; exact Int.emod_nonneg _ (by omega)
 ·rw [tmod_pos h0]; exact Int.emod_lt_of_pos _ (by omega)
theorem pickD (b : List Int) (i h : Int) (l : List Int) (hb : b.length ≤ 4611686018427387904) (hi : 0 ≤ i ∧ i ≤ b.length) (hn : 1 ≤ l.length ∧ l.length ≤ 256) : ∃ x i' h', spec_l1PickInt.f b i h l = some (x, i', h') ∧ x ∈ l ∧ 0 ≤ i' ∧ i' ≤ b.length := by
 obtain ⟨x, i', h', e, h0, h1, hi'⟩ := belowD b i h l.length hb hi (by omega)
 unfold spec_l1PickInt.f
 rw [e]
 refine ⟨rd l x, i', h', ?_, ?_, hi'⟩
 ·rw [Option.bind_some, if_pos h0, if_pos h1]
 ·obtain ⟨m, rfl⟩ := Int.eq_ofNat_of_zero_le h0
  exact rd_mem (by omega)
theorem listD (b : List Int) (i h : Int) (hb : b.length ≤ 4611686018427387904) (hi : 0 ≤ i ∧ i ≤ b.length) : ∃ l i' h', spec_l3List.f b i h = some (l, i', h') ∧ Exam l ∧ 0 ≤ i' ∧ i' ≤ b.length := by
 obtain ⟨x, i', h', e, h0, h1, hi'⟩ := belowD b i h 8 hb hi (by omega)
 unfold spec_l3List.f
 rw [e, Option.bind_some]
 dsimp only
 by_cases c0 : x = 0
 ·rw [if_pos c0]; exact ⟨_, _, _, rfl, .inl rfl, hi'⟩
 rw [if_neg c0]
 by_cases c1 : x = 1
 ·rw [if_pos c1]; exact ⟨_, _, _, rfl, .inr (.inl rfl), hi'⟩
 rw [if_neg c1]
 by_cases c2 : x = 2
 ·rw [if_pos c2]; exact ⟨_, _, _, rfl, .inr (.inr (.inl rfl)), hi'⟩
 rw [if_neg c2]
 by_cases c3 : x = 3
 ·rw [if_pos c3]; exact ⟨_, _, _, rfl, .inr (.inr (.inr (.inl rfl))), hi'⟩
 rw [if_neg c3]
 by_cases c4 : x = 4
 ·rw [if_pos c4]; exact ⟨_, _, _, rfl, .inr (.inr (.inr (.inr (.inl rfl)))), hi'⟩
 rw [if_neg c4]
 by_cases c5 : x = 5
 ·rw [if_pos c5]; exact ⟨_, _, _, rfl, .inr (.inr (.inr (.inr (.inr (.inl rfl))))), hi'⟩
 rw [if_neg c5]
 by_cases c6 : x = 6
 ·rw [if_pos c6]; exact ⟨_, _, _, rfl, .inr (.inr (.inr (.inr (.inr (.inr (.inl rfl)))))), hi'⟩
 rw [if_neg c6]
 exact ⟨_, _, _, rfl, .inr (.inr (.inr (.inr (.inr (.inr (.inr rfl)))))), hi'⟩
theorem newD_l0 (b : List Int) : ∀ (d j : Nat) (h : Int), 4000 - j = d → j ≤ 4000 → ∃ h', Ev (fun k => spec_l1New.l0 k b h (j : Int)) (b, 0, h') := by
 intro d
 induction d with
 | zero =>
  intro j h hd hj
  refine ⟨h, Ev.step (fun _ => spec_l1New.l0.eq_2 ..) ?_⟩
  by_cases c : (j : Int) < (b.length : Int)
  ·exact Ev.pos c (Ev.neg (by omega) (Ev.now _))
  ·exact Ev.neg c (Ev.now _)
 | succ d ih =>
  intro j h hd hj
  by_cases c : (j : Int) < (b.length : Int)
  ·obtain ⟨h', e⟩ := ih (j + 1) (Go.bits .and .i64 (wrap64 ((wrap64 ((wrap64 (h * 131)) + (wrap64 (rd b j)))) + 7)) 1073741823) (by omega) (by omega)
   refine ⟨h', Ev.step (fun _ => spec_l1New.l0.eq_2 ..) ?_⟩
   refine Ev.pos c (Ev.pos (by omega) (Ev.pos (by omega) ?_))
   rw [w64s (j := j) (by omega)]
   exact e
  ·exact ⟨h, Ev.step (fun _ => spec_l1New.l0.eq_2 ..) (Ev.neg c (Ev.now _))⟩
theorem newD (b : List Int) : ∃ h', Ev (fun k => spec_l1New.f k b) (b, 0, h') := by
 unfold spec_l1New.f
 exact newD_l0 b 4000 0 _ (by omega) (by omega)
theorem onceD (b : List Int) (i h n : Int) (hb : b.length ≤ 4611686018427387904) (hi : 0 ≤ i ∧ i ≤ b.length) (hn : 1 ≤ n ∧ n ≤ 256) : ∃ x i' h', spec_l1Once.f b i h n = some (x, i', h') ∧ 0 ≤ i' ∧ i' ≤ b.length := by
 obtain ⟨x, i', h', e, _, _, hi'⟩ := belowD b i h n hb hi hn
 unfold spec_l1Once.f
 rw [e, Option.bind_some]
 exact ⟨_, _, _, rfl, hi'⟩
theorem examFG {l : List Int} (h : Exam l) {r : List Int × Bool} (hr : FG l r) : r = (l, true) := by
 obtain ⟨s, hs, hr⟩ := hr
 have hg := h.sg
 have : s = l := hs.uniq ⟨hg.asc, fun _ => Iff.rfl, Nat.le_refl _⟩
 subst this
 have hm : minOf [] s = s := (minOf_self s []).2 fun i hi => by
  rw [List.nil_append]
  rcases Nat.eq_zero_or_pos i with h0 | h0
  ·subst h0
   intro k
   have := hg.rng _ (List.getElem_mem hi)
   have := Sums.nil (by simpa using k)
   omega
  ·have := hg.minl i h0 hi
   rwa [getD_get hi] at this
 rw [hm] at hr
 rcases hr with ⟨_, _, e⟩ | ⟨n, _⟩
 ·exact e
 ·refine absurd ⟨⟨hg.rng, hg.pos, ?_⟩, hg⟩ n
  have := hg.le; omega
theorem examD (l : List Int) (h : Exam l) : Ev (fun k => spec_FromGens.f k l) (l, true) := by
 have hg := h.sg
 obtain ⟨r, h1, h2⟩ := sFG l (by have := hg.le; omega)
 rw [examFG h h2] at h1
 exact h1
theorem examDr {l : List Int} (h : Exam l) : Dr l := ⟨h.sg, h.win⟩
def Wl (l : List Int) : Prop := 1 ≤ l.length ∧ l.length ≤ 5 ∧ ∃ a, rd l 0 = a ∧ 2 ≤ a ∧ a ≤ 9 ∧ ∀ x ∈ l, a ≤ x ∧ x ≤ a + 12
theorem Wl.dr {l g : List Int} (h : Wl l) (hg : FG l (g, true)) : Dr g := by
 obtain ⟨h1, h2, a, _, h3, h4, h5⟩ := h
 have hsg := hg.ok
 obtain ⟨s, hs, ⟨_, _, e⟩ | ⟨_, e⟩⟩ := hg
 ·injection e with e _
  have hsub := minOf_sublist s []
  rw [← e] at hsub
  have hm : ∀ x ∈ g, a ≤ x ∧ x ≤ a + 12 := fun x hx => h5 x ((hs.2.1 x).1 (hsub.subset hx))
  refine ⟨hsg, .inl ⟨?_, fun x hx y hy => ?_⟩⟩
  ·have := hsub.length_le; have := hs.2.2; omega
  ·have := hm x hx; have := hm y hy; omega
 ·injection e with _ e; cases e
theorem drawD_l1 (b : List Int) (hb : b.length ≤ 4611686018427387904) (j : Nat) (n : Nat) (hn : n ≤ 4) (hj : j ≤ 3) (next : ∀ i h : Int, 0 ≤ i ∧ i ≤ b.length → ∃ g i' h', Ev (fun k => spec_l3Draw.l0 k ((j + 1 : Nat) : Int) b i h) (g, i', h') ∧ Dr g ∧ 0 ≤ i' ∧ i' ≤ b.length) :
 ∀ (d m : Nat) (l : List Int) (i h : Int), n - m = d → m ≤ n → l.length = m + 1 → Wl l → 0 ≤ i ∧ i ≤ b.length → ∃ g i' h', Ev (fun k => spec_l3Draw.l1 k (j : Int) l (n : Int) (m : Int) b i h) (g, i', h') ∧ Dr g ∧ 0 ≤ i' ∧ i' ≤ b.length := by
 intro d
 induction d with
 | zero =>
  intro m l i h hd hm hl hw hi
  obtain ⟨⟨g, ok⟩, a1, a2⟩ := sFG l (by have := hw.2.1; omega)
  cases ok with
  | true =>
   refine ⟨g, i, h, Ev.step (fun _ => spec_l3Draw.l1.eq_2 ..) ?_, hw.dr a2, hi⟩
   refine Ev.neg (by omega) (Ev.bind a1 (Ev.pos rfl (Ev.now _)))
  | false =>
   obtain ⟨g', i', h', k1, k2⟩ := next i h hi
   refine ⟨g', i', h', Ev.step (fun _ => spec_l3Draw.l1.eq_2 ..) ?_, k2⟩
   refine Ev.neg (by omega) (Ev.bind a1 (Ev.neg (by simp) ?_))
   rw [w64s (by omega)]
   exact k1
 | succ d ih =>
  intro m l i h hd hm hl hw hi
  obtain ⟨x, i1, h1, e, hx0, hx1, hi1⟩ := belowD b i h 12 hb hi (by omega)
  obtain ⟨w1, w2, a, w3, w4, w5, w6⟩ := hw
  obtain ⟨g, i', h', k1, k2⟩ := ih (m + 1) (l ++ [a + 1 + x]) i1 h1 (by omega) (by omega) (by simp; omega) (by
   refine ⟨by simp, by simp; omega, a, ?_, w4, w5, fun y hy => ?_⟩
   ·rw [← w3]; unfold rd
    rw [List.getD_eq_getElem?_getD, List.getElem?_append_left (by omega), ← List.getD_eq_getElem?_getD]
   ·rcases List.mem_append.1 hy with hy | hy
    ·exact w6 y hy
    ·have : y = a + 1 + x := by simpa using hy
     omega) hi1
  refine ⟨g, i', h', Ev.step (fun _ => spec_l3Draw.l1.eq_2 ..) ?_, k2⟩
  refine Ev.pos (by omega) (Ev.pos (by omega) (Ev.call e (Ev.pos (by omega) ?_)))
  rw [w3, w64 (x := a + 1) (by omega) (by omega), w64 (x := a + 1 + x) (by omega) (by omega), w64s (by omega)]
  exact k1
theorem drawD_l0 (b : List Int) (hb : b.length ≤ 4611686018427387904) : ∀ (d j : Nat) (i h : Int), 4 - j = d → j ≤ 4 → 0 ≤ i ∧ i ≤ b.length → ∃ g i' h', Ev (fun k => spec_l3Draw.l0 k (j : Int) b i h) (g, i', h') ∧ Dr g ∧ 0 ≤ i' ∧ i' ≤ b.length := by
 intro d
 induction d with
 | zero =>
  intro j i h hd hj hi
  obtain ⟨l, i', h', e, hE, hi'⟩ := listD b i h hb hi
  refine ⟨l, i', h', Ev.step (fun _ => spec_l3Draw.l0.eq_2 ..) ?_, examDr hE, hi'⟩
  exact Ev.neg (by omega) (Ev.call e (Ev.bind (examD l hE) (Ev.now _)))
 | succ d ih =>
  intro j i h hd hj hi
  obtain ⟨x, i1, h1, e1, x0, x1, hi1⟩ := belowD b i h 8 hb hi (by omega)
  obtain ⟨y, i2, h2, e2, y0, y1, hi2⟩ := belowD b i1 h1 4 hb hi1 (by omega)
  obtain ⟨n, hn⟩ : ∃ n : Nat, 1 + y = (n : Int) := ⟨(1 + y).toNat, by omega⟩
  obtain ⟨g, i', h', k1, k2⟩ := drawD_l1 b hb j n (by omega) (by omega) (fun i h hi => ih (j + 1) i h (by omega) (by omega) hi) n 0 [2 + x] i2 h2 (by omega) (by omega) (by simp) (by
   refine ⟨by simp, by simp, 2 + x, rfl, by omega, by omega, fun z hz => ?_⟩
   have : z = 2 + x := by simpa using hz
   omega) hi2
  refine ⟨g, i', h', Ev.step (fun _ => spec_l3Draw.l0.eq_2 ..) ?_, k2⟩
  refine Ev.pos (by omega) (Ev.call e1 (Ev.call e2 ?_))
  dsimp only
  rw [w64 (x := 2 + x) (by omega) (by omega), w64 (x := 1 + y) (by omega) (by omega), hn]
  exact k1
theorem drawD (b : List Int) (i h : Int) (hb : b.length ≤ 4611686018427387904) (hi : 0 ≤ i ∧ i ≤ b.length) : ∃ g i' h', Ev (fun k => spec_l3Draw.f k b i h) (g, i', h') ∧ Dr g ∧ 0 ≤ i' ∧ i' ≤ b.length := by
 obtain ⟨x, i1, h1, e1, hi1⟩ := onceD b i h 4 hb hi (by omega)
 unfold spec_l3Draw.f
 cases x with
 | true =>
  obtain ⟨l, i', h', e, hE, hi'⟩ := listD b i1 h1 hb hi1
  exact ⟨l, i', h', Ev.call e1 (Ev.pos rfl (Ev.call e (Ev.bind (examD l hE) (Ev.now _)))), examDr hE, hi'⟩
 | false =>
  obtain ⟨g, i', h', k1, k2⟩ := drawD_l0 b hb 4 0 i1 h1 (by omega) (by omega) hi1
  exact ⟨g, i', h', Ev.call e1 (Ev.neg (by simp) k1), k2⟩
theorem bentD (b : List Int) (i h : Int) (hb : b.length ≤ 4611686018427387904) (hi : 0 ≤ i ∧ i ≤ b.length) : ∃ g i' h', Ev (fun k => spec_l3Bent.f k b i h) (g, i', h') ∧ Bt g ∧ 0 ≤ i' ∧ i' ≤ b.length := by
 obtain ⟨g, i1, h1, e1, hD, hi1⟩ := drawD b i h hb hi
 obtain ⟨x, i2, h2, e2, x0, x1, hi2⟩ := belowD b i1 h1 12 hb hi1 (by omega)
 have hle := hD.1.le
 unfold spec_l3Bent.f
 by_cases c0 : x = 0
 ·obtain ⟨z, i3, h3, e3, hz, hi3⟩ := pickD b i2 h2 [0, 61, 12, -3, 60] hb hi2 (by decide)
  exact ⟨_, _, _, Ev.bind e1 (Ev.call e2 (Ev.pos c0 (Ev.call e3 (Ev.pos (by simp only; omega) (Ev.now _))))), hD.snoc z hz, hi3⟩
 by_cases c1 : x = 1
 ·exact ⟨_, _, _, Ev.bind e1 (Ev.call e2 (Ev.neg c0 (Ev.pos c1 (Ev.pos (by have := hD.1.pos; simp only; omega) (Ev.now _))))), hD.tail, hi2⟩
 by_cases c2 : x = 2
 ·obtain ⟨z, i3, h3, e3, hz, hi3⟩ := pickD b i2 h2 [0, 59, 4] hb hi2 (by decide)
  exact ⟨_, _, _, Ev.bind e1 (Ev.call e2 (Ev.neg c0 (Ev.neg c1 (Ev.pos c2 (Ev.call e3 (Ev.now _)))))), bt_pair z hz, hi3⟩
 ·exact ⟨_, _, _, Ev.bind e1 (Ev.call e2 (Ev.neg c0 (Ev.neg c1 (Ev.neg c2 (Ev.now _))))), hD.bt, hi2⟩
end Go.Proofs.Ytbjbolblahlhcaa.FFnWilf
end
section
namespace Go.Proofs.Ytbjbolblahlhcaa.FFnWilf
open Go Go.RowKit Go.Proofs.YtbjbolblahlhcaaW.PrintWords Go.Proofs.Ytbjbolblahlhcaa.M Go.Proofs.Ytbjbolblahlhcaa.PFnWilf Go.Proofs.Ytbjbolblahlhcaa.WM
theorem wil_con {l : List Int} {e : Nat} (h : Wil l e) : con l ≤ e * (smUp l (con l)).length ∧ (e = 2 → 2 * (smUp l (con l)).length = con l) := by
 obtain ⟨c, h1, h2, h3, h4, h5⟩ := h
 have hle := con_le l
 have htop := con_top l
 have hgap := con_gap l
 have hlen := smUp_len l (con l)
 revert hle htop hgap hlen
 generalize (smUp l (con l)).length = s
 generalize con l = d
 intro hle htop hgap hlen
 have hc : c = d := by
  rcases Nat.lt_trichotomy c d with k | k | k
  ·exact absurd (h2 (d - 1) (by omega) (by omega)) (htop (by omega))
  ·exact k
  ·rcases h3 with h3 | h3
   ·omega
   ·exact absurd (hgap (c - 1) (by omega) (by omega)) h3
 subst hc
 rw [show s = c - cntS l c by omega]
 exact ⟨h4, h5⟩
theorem multD (l : List Int) (h : IsSG l) : Ev (fun k => spec_MultiplicityOf.f k l) (rd l 0) := by
 have hle := h.le
 have hpos := h.pos
 unfold spec_MultiplicityOf.f
 exact Ev.bind ((sIsSG l (by omega)).yes h) (Ev.pos rfl (Ev.pos (by omega) (Ev.now _)))
theorem dimD (l : List Int) (h : IsSG l) : Ev (fun k => spec_DimensionOf.f k l) (l.length : Int) := by
 have hle := h.le
 unfold spec_DimensionOf.f
 exact Ev.bind ((sIsSG l (by omega)).yes h) (Ev.pos rfl (Ev.now _))
theorem law (l0 : List Int) (hl : l0.length ≤ 1048576) : Ev (fun k => laws_FnWilf.f k l0) true := by
 unfold laws_FnWilf.f
 refine Ev.call rfl (Ev.neg (by simp; omega) ?_)
 obtain ⟨h', e1⟩ := newD l0
 obtain ⟨g, i', h'', e2, hB, _⟩ := bentD l0 0 h' (by omega) (by omega)
 have hg : g.length ≤ 1048576 := by have := hB.1; omega
 refine Ev.bind (a := g) ?_ ?_
 ·unfold spec_DrawWilfNumber.f
  exact Ev.bind e1 (Ev.bind e2 (Ev.now _))
 clear e1 e2
 obtain ⟨⟨p1, p2⟩, ps, pi⟩ := sporBoth g hg
 obtain ⟨dd, ds, di⟩ := depthBoth g hg
 by_cases h : IsSG g
 case neg =>
  obtain ⟨ws, wi⟩ := wilfNo g hg h
  obtain ⟨ls, li⟩ := leftNo g hg h
  obtain ⟨qs, qi⟩ := primNo g hg h
  refine Ev.bind wi (Ev.bind li (Ev.bind pi (Ev.bind ps (Ev.bind ws (Ev.pos rfl (Ev.bind ls (Ev.pos rfl (Ev.bind di (Ev.bind ds (Ev.pos rfl (Ev.pos rfl (Ev.pos rfl (Ev.bind qi (Ev.bind qs (Ev.pos rfl ?_)))))))))))))))
  exact Ev.bind ((sIsSG g hg).no h) (Ev.neg (by simp) (Ev.pos rfl (Ev.now _)))
 obtain ⟨hw1, hw2⟩ := wil_con (hB.2 h)
 obtain ⟨ws, wi⟩ := wilfBoth g h _ rfl
 obtain ⟨ls, li⟩ := leftBoth g h
 obtain ⟨q, hq, qs, qi⟩ := primBoth g h
 obtain ⟨gs, _⟩ := genusBoth g h
 obtain ⟨cs, _⟩ := conBoth g h
 have hlen := smUp_len g (con g)
 have hc := con_le g
 have hle := h.le
 have md := multD g h
 have dm := dimD g h
 revert hw1 hw2 ws wi ls li gs cs hlen hc
 generalize (smUp g (con g)).length = n
 generalize cntS g (con g) = m
 generalize con g = c
 intro hw1 hw2 ws wi ls li gs cs hlen hc
 have hmul : ((g.length : Nat) : Int) * (n : Int) = ((g.length * n : Nat) : Int) := by rw [Int.natCast_mul]
 rw [hmul] at ws wi
 have h0 : ¬ (((g.length * n : Nat) : Int) - (c : Int) < 0) := by omega
 have j0 : Ev (fun k => laws_FnWilf.j0 k (((g.length * n : Nat) : Int) - c) n false g) true := by
  refine Ev.step (fun _ => laws_FnWilf.j0.eq_2 ..) (Ev.neg (by simp) (Ev.bind gs (Ev.bind cs ?_)))
  rw [w64 (x := (n : Int) + m) (by omega) (by omega)]
  refine Ev.pos (by omega) (Ev.bind dm ?_)
  have fin : Ev (fun k => (impl_PrimitiveBelow.f k g).bind fun t576 => ((spec_DimensionOf.f k g).bind fun t577 => (some (decide (t576 ≤ t577))))) true := by
   refine Ev.bind qi (Ev.bind dm ?_)
   rw [decide_eq_true (show (q : Int) ≤ (g.length : Int) by omega)]
   exact Ev.now _
  by_cases h2 : (g.length : Int) = 2
  ·have e2 := hw2 (by omega)
   have hg2 : g.length = 2 := by omega
   rw [hg2]
   exact Ev.pos rfl (Ev.pos (by omega) fin)
  ·exact Ev.neg h2 fin
 refine Ev.bind wi (Ev.bind li (Ev.bind pi (Ev.bind ps (Ev.bind ws (Ev.pos rfl (Ev.bind ls (Ev.pos rfl (Ev.bind di (Ev.bind ds (Ev.pos rfl (Ev.pos rfl (Ev.pos rfl (Ev.bind qi (Ev.bind qs (Ev.pos rfl ?_)))))))))))))))
 refine Ev.bind ((sIsSG g hg).yes h) (Ev.pos rfl (Ev.bind md ?_))
 rw [decide_eq_false h0]
 by_cases h12 : rd g 0 ≤ 12
 ·exact Ev.pos h12 j0
 ·exact Ev.neg h12 j0
end Go.Proofs.Ytbjbolblahlhcaa.FFnWilf
namespace Go.Proofs.Ytbjbolblahlhcaa.Pure
open Go.Proofs.YtbjbolblahlhcaaW.PrintWords Go.Proofs.Ytbjbolblahlhcaa.PFnWilf Go.Proofs.Ytbjbolblahlhcaa.FFnWilf Go.Proofs.Ytbjbolblahlhcaa.M
theorem FnWilf : laws_FnWilf.Pure := by
 intro l0 _ hl _
 by_cases h : l0.length ≤ 1048576
 ·exact Ev.rounds (law l0 h)
 ·refine ⟨0, ?_⟩
  unfold laws_FnWilf.f laws_big.f
  rw [Option.bind_some, if_pos (by simp; omega)]
end Go.Proofs.Ytbjbolblahlhcaa.Pure
end
section
namespace Go.Proofs.YtbjbolblahlhcaaW.PrintWords
open Go.ChangeShapes Go.WideShapes
theorem sized_ints {H : Type} {enc : TypeId × Value → H} {P : Program} {W : World} {base : Nat} {spare : Nat → Bool} {held : Bool} {t e : TypeId} {k : IntKind} {a : Option Addr} {len cap : Nat} {d : DataW H} {ps : List MemPlace} {ts : List TypeId} {ds : List (DataW H)} {j : Nat}
 (hsz : (DataW.weightsEach P ts ds).all (· ≤ reachBytes) = true) (ht : ts[j]? = some t) (hd : ds[j]? = some d) (hu : P.underlying t = some (.slice e)) (he : P.underlying e = some (.int k)) (hc : P.cellsOf e = 1) {B : Nat} (hB : P.bytesOf e = B)
 (h : DataW.Trod enc P W base spare held t (.slice a len cap) d ps) : len * B ≤ 140737488351232 := by
 obtain ⟨fuel, hf⟩ := h
 rcases open_ints hu he hc hf with ⟨hcs, _⟩ | ⟨x, l, c, zs, hcs, _, hl, _, hz, hx, _, _⟩
 ·simp [Value.cells] at hcs
  obtain ⟨rfl, rfl, rfl⟩ := hcs
  simp
 ·simp [Value.cells] at hcs
  obtain ⟨rfl, rfl, rfl⟩ := hcs
  obtain ⟨hx, _⟩ := Prod.mk.inj hx
  subst hx
  have z := sized_slice hsz ht hd hu
  rw [hB] at z
  have hl2 : len ≤ zs.length := by
   rw [hz]
   split
   ·exact hl
   ·exact Nat.le_refl _
  have h1 : (lits (H := H) k (zs.take len)).length + (lits (H := H) k (zs.drop len)).length = zs.length := by
   simp [lits]
   omega
  rw [h1] at z
  exact Nat.le_trans (Nat.mul_le_mul_right _ hl2) z
end Go.Proofs.YtbjbolblahlhcaaW.PrintWords
end
