/- What the laws' own helpers answer: copies, equality, marks. Conditions: the lengths that the statements name. -/
import Derived.Test.YtbjbolblahlhcaaF1FnExactGlueOfZ
namespace Go.Proofs.Ytbjbolblahlhcaa.FFnExactGlueOf
open Go Go.RowKit Go.Proofs.YtbjbolblahlhcaaW.PrintWords Go.Proofs.Ytbjbolblahlhcaa.M Go.Proofs.Ytbjbolblahlhcaa.PFnExactGlueOf
theorem toIntS_l0 (l : List Int) (hl : l.length ≤ 4611686018427387904) : ∀ (d j : Nat) (out : List Int), l.length - j = d → j ≤ l.length → out.length = l.length → out.take j = l.take j → Ev (fun k => laws_toIntS.l0 k l out (j : Int)) l := by
 intro d
 induction d with
 | zero =>
  intro j out hd hj ho ht
  rw [List.take_of_length_le (by omega), List.take_of_length_le (by omega)] at ht
  subst ht
  refine Ev.step (fun _ => laws_toIntS.l0.eq_2 ..) ?_
  exact Ev.neg (by omega) (Ev.now _)
 | succ d ih =>
  intro j out hd hj ho ht
  have hlt : j < l.length := by omega
  refine Ev.step (fun _ => laws_toIntS.l0.eq_2 ..) ?_
  refine Ev.pos (by omega) ?_
  refine Ev.pos (by omega) ?_
  refine Ev.pos (by omega) ?_
  rw [w64s (by omega), Int.toNat_natCast, rd_get hlt]
  refine ih (j + 1) _ (by omega) (by omega) (by simpa using ho) ?_
  rw [take_snoc' (by simp <;> omega), List.take_set_of_le (Nat.le_refl _), ht, List.getElem_set_self, take_snoc' hlt]
theorem toIntS (l : List Int) (hl : l.length ≤ 1048576) : Ev (fun k => laws_toIntS.f k l) l := by
 show Ev (fun k => if 0 ≤ (l.length : Int) then (if ((l.length : Int) : Int).toNat ≤ 35184372088832 then (laws_toIntS.l0 k l (List.replicate ((l.length : Int) : Int).toNat 0) 0) else (none)) else (none)) l
 refine Ev.pos (by omega) ?_
 refine Ev.pos (by omega) ?_
 exact toIntS_l0 l (by omega) l.length 0 _ (by omega) (by omega) (by simp) (by simp)
theorem eqIntS_l0 (a b : List Int) (hl : a.length ≤ 4611686018427387904) (hab : a.length = b.length) : ∀ (d j : Nat), a.length - j = d → j ≤ a.length → EvB (fun k => laws_eqIntS.l0 k a b (j : Int)) (a.drop j = b.drop j) := by
 intro d
 induction d with
 | zero =>
  intro j hd hj
  refine EvB.step (fun _ => laws_eqIntS.l0.eq_2 ..) ?_
  refine EvB.neg (by omega) ?_
  refine EvB.of_true (Ev.now _) ?_
  rw [List.drop_of_length_le (by omega), List.drop_of_length_le (by omega)]
 | succ d ih =>
  intro j hd hj
  have hlt : j < a.length := by omega
  have hlt' : j < b.length := by omega
  refine EvB.step (fun _ => laws_eqIntS.l0.eq_2 ..) ?_
  refine EvB.pos (by omega) ?_
  refine EvB.pos (by omega) ?_
  refine EvB.pos (by omega) ?_
  rw [rd_get hlt, rd_get hlt', drop_cons hlt, drop_cons hlt']
  by_cases h : a[j] = b[j]
  ·refine EvB.pos h ?_
   rw [w64s (by omega)]
   refine (ih (j + 1) (by omega) (by omega)).iff ?_
   rw [List.cons.injEq]
   exact ⟨fun k => ⟨h, k⟩, fun k => k.2⟩
  ·refine EvB.neg h ?_
   refine EvB.of_false (Ev.now _) ?_
   rw [List.cons.injEq]
   exact fun k => h k.1
theorem eqIntS (a b : List Int) (hl : a.length ≤ 4611686018427387904) : EvB (fun k => laws_eqIntS.f k a b) (a = b) := by
 show EvB (fun k => if (a.length : Int) = (b.length : Int) then (laws_eqIntS.l0 k a b 0) else (some false)) _
 by_cases h : (a.length : Int) = (b.length : Int)
 ·refine EvB.pos h ?_
  exact eqIntS_l0 a b hl (by omega) a.length 0 (by omega) (by omega)
 ·refine EvB.neg h ?_
  exact EvB.of_false (Ev.now _) (by rintro rfl; exact h rfl)
def Marked (c : Int) (R : List Int) : Prop := ∀ i : Nat, i < R.length → R.getD i 0 = c + i
theorem markIntS_l0 : ∀ (d j : Nat) (R : List Int) (c : Int), R.length - j = d → j ≤ R.length → R.length ≤ 1048576 → 0 ≤ c → c ≤ 4611686018427387904 → (∀ i : Nat, i < j → R.getD i 0 = c + i) → ∃ R', Ev (fun k => laws_markIntS.l0 k R (c + j) (j : Int)) (c + R.length, R') ∧ R'.length = R.length ∧ Marked c R' := by
 intro d
 induction d with
 | zero =>
  intro j R c hd hj hl hc hc2 h
  have : j = R.length := by omega
  subst this
  refine ⟨R, ?_, rfl, h⟩
  refine Ev.step (fun _ => laws_markIntS.l0.eq_2 ..) ?_
  exact Ev.neg (by omega) (Ev.now _)
 | succ d ih =>
  intro j R c hd hj hl hc hc2 h
  have hset : ∀ i : Nat, i < j + 1 → (R.set j (c + j)).getD i 0 = c + i := by
   intro i hi
   rw [List.getD_eq_getElem?_getD, List.getElem?_set]
   by_cases e : j = i
   ·subst e; rw [if_pos rfl, if_pos (by omega)]; rfl
   ·rw [if_neg e, ← List.getD_eq_getElem?_getD]; exact h i (by omega)
  obtain ⟨R', h1, h2, h3⟩ := ih (j + 1) (R.set j (c + j)) c (by simp <;> omega) (by simp <;> omega) (by simpa using hl) hc hc2 hset
  rw [List.length_set] at h1 h2
  refine ⟨R', ?_, h2, h3⟩
  refine Ev.step (fun _ => laws_markIntS.l0.eq_2 ..) ?_
  refine Ev.pos (by omega) ?_
  refine Ev.pos (by omega) ?_
  rw [Int.toNat_natCast, w64s (by omega), w64 (x := c + j + 1) (by omega) (by omega), show c + (j : Int) + 1 = c + ((j + 1 : Nat) : Int) by omega]
  exact h1
theorem markIntS (R : List Int) (c : Int) (hl : R.length ≤ 1048576) (hc : 0 ≤ c) (hc2 : c ≤ 4611686018427387904) : ∃ R', Ev (fun k => laws_markIntS.f k R c) (c + R.length, R') ∧ R'.length = R.length ∧ Marked c R' := by
 have := markIntS_l0 R.length 0 R c (by omega) (by omega) hl hc hc2 (fun i hi => by omega)
 rw [show c + ((0 : Nat) : Int) = c by omega] at this
 exact this
theorem heldIntS_l0 (R : List Int) (c : Int) (hl : R.length ≤ 1048576) (hc : 0 ≤ c) (hc2 : c ≤ 4611686018427387904) (h : Marked c R) : ∀ (d j : Nat), R.length - j = d → j ≤ R.length → Ev (fun k => laws_heldIntS.l0 k R (c + j) (j : Int)) (c + R.length) := by
 intro d
 induction d with
 | zero =>
  intro j hd hj
  have : j = R.length := by omega
  subst this
  refine Ev.step (fun _ => laws_heldIntS.l0.eq_2 ..) ?_
  exact Ev.neg (by omega) (Ev.now _)
 | succ d ih =>
  intro j hd hj
  refine Ev.step (fun _ => laws_heldIntS.l0.eq_2 ..) ?_
  refine Ev.pos (by omega) ?_
  refine Ev.pos (by omega) ?_
  rw [rd_nat]
  refine Ev.pos (h j (by omega)) ?_
  rw [w64s (by omega), w64 (x := c + j + 1) (by omega) (by omega), show c + (j : Int) + 1 = c + ((j + 1 : Nat) : Int) by omega]
  exact ih (j + 1) (by omega) (by omega)
theorem heldIntS (R : List Int) (c : Int) (hl : R.length ≤ 1048576) (hc : 0 ≤ c) (hc2 : c ≤ 4611686018427387904) (h : Marked c R) : Ev (fun k => laws_heldIntS.f k R c) (c + R.length) := by
 have := heldIntS_l0 R c hl hc hc2 h R.length 0 (by omega) (by omega)
 rw [show c + ((0 : Nat) : Int) = c by omega] at this
 exact this
end Go.Proofs.Ytbjbolblahlhcaa.FFnExactGlueOf
