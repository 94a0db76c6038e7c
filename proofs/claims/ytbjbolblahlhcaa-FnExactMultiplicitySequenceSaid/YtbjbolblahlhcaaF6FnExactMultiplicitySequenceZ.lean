/- What MultiplicitySequence of the reference and of the program answers: the same. Each blow-up has fewer gaps, so that the sequence ends. Condition: the list's length. -/
import Derived.Test.YtbjbolblahlhcaaF5FnExactMultiplicitySequenceZ
namespace Go.Proofs.Ytbjbolblahlhcaa.FFnExactMultiplicitySequence
open Go Go.RowKit Go.Proofs.YtbjbolblahlhcaaW.PrintWords Go.Proofs.Ytbjbolblahlhcaa.M Go.Proofs.Ytbjbolblahlhcaa.PFnExactMultiplicitySequence
noncomputable def cntP (p : Nat → Prop) : Nat → Nat
 | 0 => 0
 | N + 1 => cntP p N + (open Classical in if p N then 1 else 0)
theorem cntP_le (p : Nat → Prop) (N : Nat) : cntP p N ≤ N := by
 induction N with
 | zero => simp [cntP]
 | succ N ih => unfold cntP; split <;> omega
theorem cntP_mono {p q : Nat → Prop} {N : Nat} (h : ∀ n, n < N → p n → q n) : cntP p N ≤ cntP q N := by
 induction N with
 | zero => simp [cntP]
 | succ N ih =>
  have h1 := ih fun n hn => h n (by omega)
  have h2 := h N (by omega)
  unfold cntP
  by_cases c : p N
  ·rw [if_pos c, if_pos (h2 c)]; omega
  ·rw [if_neg c]; omega
theorem cntP_lt {p q : Nat → Prop} {N : Nat} (h : ∀ n, n < N → p n → q n) {m : Nat} (hm : m < N) (hq : q m) (hp : ¬ p m) : cntP p N < cntP q N := by
 induction N with
 | zero => omega
 | succ N ih =>
  have h2 := h N (by omega)
  unfold cntP
  by_cases e : m = N
  ·subst e
   have := cntP_mono (p := p) (q := q) (N := m) fun n hn => h n (by omega)
   rw [if_neg hp, if_pos hq]; omega
  ·have := ih (fun n hn => h n (by omega)) (by omega)
   by_cases c : p N
   ·rw [if_pos c, if_pos (h2 c)]; omega
   ·rw [if_neg c]; omega
noncomputable def gapN (g : List Int) : Nat := cntP (fun n => ¬ Sums g n) 200
theorem sums_minOf : ∀ (t seen out : List Int), (∀ n, Sums out n ↔ Sums seen n) → ∀ n, Sums (out ++ minOf seen t) n ↔ Sums (seen ++ t) n
 | [], seen, out, h => by simpa [minOf] using h
 | x :: t, seen, out, h => by
  intro n
  unfold minOf
  by_cases c : Sums seen x
  ·rw [if_pos c]
   have := sums_minOf t (seen ++ [x]) out (fun n => (h n).trans ⟨Sums.mono fun y hy => List.mem_append_left _ hy, Sums.sub fun y hy => by
    rcases List.mem_append.1 hy with k | k
    ·exact .one k
    ·rw [List.mem_singleton] at k; subst k; exact c⟩) n
   rw [this]; simp
  ·rw [if_neg c]
   have := sums_minOf t (seen ++ [x]) (out ++ [x]) (fun n => sums_append_congr h n) n
   rw [List.append_assoc, List.singleton_append] at this
   rw [this]; simp
theorem FG.sums {l g : List Int} (h : FG l (g, true)) (n : Int) : Sums g n ↔ Sums l n := by
 obtain ⟨s, hs, ⟨_, _, e⟩ | ⟨_, e⟩⟩ := h
 ·injection e with e _
  subst e
  have := sums_minOf s [] [] (fun _ => Iff.rfl) n
  simp only [List.nil_append] at this
  rw [this]
  exact ⟨Sums.mono fun x hx => (hs.2.1 x).1 hx, Sums.mono fun x hx => (hs.2.1 x).2 hx⟩
 ·injection e with _ e; cases e
theorem _root_.Go.Proofs.Ytbjbolblahlhcaa.M.IsSG.first {l : List Int} (h : IsSG l) : 1 ≤ rd l 0 ∧ rd l 0 ≤ 60 ∧ rd l 0 ∈ l := by
 have hpos := h.pos
 have hm : rd l ((0 : Nat) : Int) ∈ l := rd_mem (by omega)
 exact ⟨(h.rng _ hm).1, (h.rng _ hm).2, hm⟩
theorem blow_sub {l : List Int} (h : IsSG l) {n : Int} (hn : Sums l n) : Sums (Blow l) n := by
 have hf := h.first
 have hpos := h.pos
 refine hn.sub fun x hx => ?_
 obtain ⟨i, hi, rfl⟩ := List.getElem_of_mem hx
 have hm : Sums (Blow l) (rd l 0) := .one (by unfold Blow; exact List.mem_cons_self)
 by_cases e : i = 0
 ·subst e
  rw [← rd_get hi]; exact hm
 ·have : Sums (Blow l) (l[i] - rd l 0) := by
   refine .one ?_
   unfold Blow
   refine List.mem_cons_of_mem _ (List.mem_map.2 ⟨l[i], ?_, rfl⟩)
   rw [List.mem_iff_getElem]
   exact ⟨i - 1, by simp; omega, by simp; congr 1; omega⟩
  have := this.trans hm
  rwa [Int.sub_add_cancel] at this
theorem blow_gap {l g : List Int} (h : IsSG l) (h1 : 1 < rd l 0) (hg : FG (Blow l) (g, true)) : gapN g < gapN l := by
 have hf := h.first
 have hpos := h.pos
 have hlen : 1 < l.length := by
  rcases Nat.lt_or_ge 1 l.length with c | c
  ·exact c
  ·exfalso
   obtain ⟨x, hx⟩ : ∃ x, l = [x] := by
    match l, hpos, c with
    | [x], _, _ => exact ⟨x, rfl⟩
   have hgc := h.gcd
   subst hx
   simp [gcdL] at hgc
   have : rd [x] 0 = x := rfl
   omega
 have e0 : rd l 0 = l[0] := rd_get (i := 0) (by omega)
 have hx1 := h.rng _ (List.getElem_mem hlen)
 have hlt : l[0] < l[1] := List.pairwise_iff_getElem.1 h.asc 0 1 (by omega) hlen (by omega)
 obtain ⟨q, hq⟩ : ∃ q : Nat, l[1] - l[0] = (q : Int) := ⟨(l[1] - l[0]).toNat, by omega⟩
 unfold gapN
 refine cntP_lt (m := q) (fun n _ k1 k2 => k1 ((hg.sums n).2 (blow_sub h k2))) (by omega) (fun k => ?_) (fun k => k ?_)
 ·have hmin := h.minl 1 (by omega) hlen
  rw [getD_get hlen] at hmin
  have htake : l.take 1 = [l[0]] := by
   match l, hpos with
   | x :: t, _ => rfl
  rw [htake] at hmin
  refine hmin ?_
  have small : ∀ n, Sums l n → n < l[1] → Sums [l[0]] n := by
   intro n hn
   induction hn with
   | zero => intro _; exact .zero
   | add hx hn ih =>
    rename_i n x
    intro hlt'
    have hx' := h.rng _ hx
    have hn0 := hn.nonneg fun y hy => (h.rng y hy).1
    obtain ⟨i, hi, rfl⟩ := List.getElem_of_mem hx
    have hi0 : i = 0 := by
     rcases Nat.eq_zero_or_pos i with c | c
     ·exact c
     ·exfalso
      rcases Nat.lt_or_ge 1 i with c2 | c2
      ·have := List.pairwise_iff_getElem.1 h.asc 1 i hlen hi c2
       omega
      ·have : i = 1 := by omega
       subst this; omega
    subst hi0
    exact .add (List.mem_singleton.2 rfl) (ih (by omega))
  have := small (q : Int) k (by omega)
  have := Sums.add (List.mem_singleton.2 rfl : l[0] ∈ [l[0]]) this
  rwa [← hq, Int.sub_add_cancel] at this
 ·refine (hg.sums _).2 (.one ?_)
  unfold Blow
  refine List.mem_cons_of_mem _ (List.mem_map.2 ⟨l[1], ?_, by rw [e0, hq]⟩)
  rw [List.mem_iff_getElem]
  exact ⟨0, by simp; omega, by simp⟩
theorem MS_l0 : ∀ (p : Nat) (g acc : List Int), gapN g = p → IsSG g → acc.length + p ≤ 1000 → ∃ r : List Int × Bool, Ev (fun k => impl_MultiplicitySequence.l0 k (acc ++ [rd g 0]) g) r ∧ Ev (fun k => spec_MultiplicitySequence.l0 k acc g) r ∧ r.1.length ≤ acc.length + p + 1 := by
 intro p
 induction p using Nat.strongRecOn with
 | _ p ih =>
  intro g acc hp hg hb
  have hf := hg.first
  have hpos := hg.pos
  have hle := hg.le
  by_cases c : rd g 0 > 1
  ·obtain ⟨r1, a1, a2⟩ := sBU g (by omega)
   obtain ⟨r2, b1, b2⟩ := iBU g (by omega)
   have := a2.uniq b2
   subst this
   obtain ⟨g', b⟩ := r1
   rcases a2 with ⟨_, a2⟩ | ⟨no, _⟩
   case inr => exact absurd hg no
   cases b with
   | true =>
    have hg' := a2.ok
    have hgap := blow_gap hg c a2
    have hpos' := hg'.pos
    obtain ⟨r, c1, c2, c3⟩ := ih (gapN g') (by omega) g' (acc ++ [rd g 0]) rfl hg' (by simp; omega)
    refine ⟨r, ?_, ?_, by simp at c3; omega⟩
    ·refine Ev.step (fun _ => impl_MultiplicitySequence.l0.eq_2 ..) ?_
     refine Ev.pos (by omega) ?_
     refine Ev.pos c ?_
     refine Ev.bind b1 ?_
     refine Ev.pos rfl ?_
     refine Ev.pos (by simp only; omega) ?_
     exact Ev.pos (by simp; omega) c1
    ·refine Ev.step (fun _ => spec_MultiplicitySequence.l0.eq_2 ..) ?_
     refine Ev.bind ((sIsSG g (by omega)).yes hg) (Ev.pos rfl ?_)
     refine Ev.pos (by omega) ?_
     refine Ev.pos (by omega) ?_
     refine Ev.call rfl ?_
     refine Ev.neg (by omega) ?_
     exact Ev.bind a1 c2
   | false =>
    have := a2.no
    subst this
    refine ⟨([], false), ?_, ?_, by simp⟩
    ·refine Ev.step (fun _ => impl_MultiplicitySequence.l0.eq_2 ..) ?_
     refine Ev.pos (by omega) ?_
     refine Ev.pos c ?_
     refine Ev.bind b1 ?_
     exact Ev.neg (by simp) (Ev.now _)
    ·refine Ev.step (fun _ => spec_MultiplicitySequence.l0.eq_2 ..) ?_
     refine Ev.bind ((sIsSG g (by omega)).yes hg) (Ev.pos rfl ?_)
     refine Ev.pos (by omega) ?_
     refine Ev.pos (by omega) ?_
     refine Ev.call rfl ?_
     refine Ev.neg (by omega) ?_
     refine Ev.bind a1 ?_
     refine Ev.step (fun _ => spec_MultiplicitySequence.l0.eq_2 ..) ?_
     exact Ev.bind ((sIsSG [] (by simp)).no fun h => by have := h.pos; simp at this) (Ev.neg (by simp) (Ev.now _))
  ·refine ⟨(acc ++ [rd g 0], true), ?_, ?_, by simp⟩
   ·refine Ev.step (fun _ => impl_MultiplicitySequence.l0.eq_2 ..) ?_
    refine Ev.pos (by omega) ?_
    exact Ev.neg c (Ev.now _)
   ·refine Ev.step (fun _ => spec_MultiplicitySequence.l0.eq_2 ..) ?_
    refine Ev.bind ((sIsSG g (by omega)).yes hg) (Ev.pos rfl ?_)
    refine Ev.pos (by omega) ?_
    refine Ev.pos (by omega) ?_
    refine Ev.call rfl ?_
    exact Ev.pos (by omega) (Ev.now _)
theorem MS (l : List Int) (hl : l.length ≤ 1048576) : ∃ r : List Int × Bool, Ev (fun k => spec_MultiplicitySequence.f k l) r ∧ Ev (fun k => impl_MultiplicitySequence.f k l) r ∧ r.1.length ≤ 1000 := by
 by_cases h : IsSG l
 ·have hpos := h.pos
  have hgn : gapN l ≤ 200 := cntP_le _ _
  obtain ⟨r, c1, c2, c3⟩ := MS_l0 (gapN l) l [] rfl h (by simp; omega)
  refine ⟨r, c2, ?_, by simp at c3; omega⟩
  unfold impl_MultiplicitySequence.f
  refine Ev.bind ((iIsSG l hl).yes h) (Ev.pos rfl ?_)
  exact Ev.pos (by omega) c1
 ·refine ⟨([], false), ?_, ?_, by simp⟩
  ·refine Ev.step (fun _ => spec_MultiplicitySequence.l0.eq_2 ..) ?_
   exact Ev.bind ((sIsSG l hl).no h) (Ev.neg (by simp) (Ev.now _))
  ·unfold impl_MultiplicitySequence.f
   exact Ev.bind ((iIsSG l hl).no h) (Ev.neg (by simp) (Ev.now _))
end Go.Proofs.Ytbjbolblahlhcaa.FFnExactMultiplicitySequence
