/- What the laws' own helpers answer: copies, equality, marks. Conditions: the lengths that the statements name. -/
import Derived.Test.YtbjbolblahlhcaaF1FnExactGlueFrobeniusZ
namespace Go.Proofs.Ytbjbolblahlhcaa.FFnExactGlueFrobenius
open Go Go.RowKit Go.Proofs.YtbjbolblahlhcaaW.PrintWords Go.Proofs.Ytbjbolblahlhcaa.M Go.Proofs.Ytbjbolblahlhcaa.PFnExactGlueFrobenius
theorem toIntS_l0 (l : List Int) (hl : l.length ≤ 4611686018427387904) : ∀ (d j : Nat) (out : List Int), l.length - j = d → j ≤ l.length → out.length = l.length → out.take j = l.take j → Ev (fun k => laws_toIntS.l0 k l out (j : Int)) l := by
 intro d
 induction d with
 | zero =>
  intro j out hd hj ho ht
  rw [List.take_of_length_le (by omega), List.take_of_length_le (by omega)] at ht
  subst ht
  refine Ev.step (fun _ => laws_toIntS.l0.eq_2 ..) ?_
  exact Ev.neg (by omega) (Ev.now _)
 | succ d ih =>
  intro j out hd hj ho ht
  have hlt : j < l.length := by omega
  refine Ev.step (fun _ => laws_toIntS.l0.eq_2 ..) ?_
  refine Ev.pos (by omega) ?_
  refine Ev.pos (by omega) ?_
  refine Ev.pos (by omega) ?_
  rw [w64s (by omega), Int.toNat_natCast, rd_get hlt]
  refine ih (j + 1) _ (by omega) (by omega) (by simpa using ho) ?_
  rw [take_snoc' (by simp <;> omega), List.take_set_of_le (Nat.le_refl _), ht, List.getElem_set_self, take_snoc' hlt]
theorem toIntS (l : List Int) (hl : l.length ≤ 1048576) : Ev (fun k => laws_toIntS.f k l) l := by
 show Ev (fun k => if 0 ≤ (l.length : Int) then (if ((l.length : Int) : Int).toNat ≤ 35184372088832 then (laws_toIntS.l0 k l (List.replicate ((l.length : Int) : Int).toNat 0) 0) else (none)) else (none)) l
 refine Ev.pos (by omega) ?_
 refine Ev.pos (by omega) ?_
 exact toIntS_l0 l (by omega) l.length 0 _ (by omega) (by omega) (by simp) (by simp)
theorem eqIntS_l0 (a b : List Int) (hl : a.length ≤ 4611686018427387904) (hab : a.length = b.length) : ∀ (d j : Nat), a.length - j = d → j ≤ a.length → EvB (fun k => laws_eqIntS.l0 k a b (j : Int)) (a.drop j = b.drop j) := by
 intro d
 induction d with
 | zero =>
  intro j hd hj
  refine EvB.step (fun _ => laws_eqIntS.l0.eq_2 ..) ?_
  refine EvB.neg (by omega) ?_
  refine EvB.of_true (Ev.now _) ?_
  rw [List.drop_of_length_le (by omega), List.drop_of_length_le (by omega)]
 | succ d ih =>
  intro j hd hj
  have hlt : j < a.length := by omega
  have hlt' : j < b.length := by omega
  refine EvB.step (fun _ => laws_eqIntS.l0.eq_2 ..) ?_
  refine EvB.pos (by omega) ?_
  refine EvB.pos (by omega) ?_
  refine EvB.pos (by omega) ?_
  rw [rd_get hlt, rd_get hlt', drop_cons hlt, drop_cons hlt']
  by_cases h : a[j] = b[j]
  ·refine EvB.pos h ?_
   rw [w64s (by omega)]
   refine (ih (j + 1) (by omega) (by omega)).iff ?_
   rw [List.cons.injEq]
   exact ⟨fun k => ⟨h, k⟩, fun k => k.2⟩
  ·refine EvB.neg h ?_
   refine EvB.of_false (Ev.now _) ?_
   rw [List.cons.injEq]
   exact fun k => h k.1
theorem eqIntS (a b : List Int) (hl : a.length ≤ 4611686018427387904) : EvB (fun k => laws_eqIntS.f k a b) (a = b) := by
 show EvB (fun k => if (a.length : Int) = (b.length : Int) then (laws_eqIntS.l0 k a b 0) else (some false)) _
 by_cases h : (a.length : Int) = (b.length : Int)
 ·refine EvB.pos h ?_
  exact eqIntS_l0 a b hl (by omega) a.length 0 (by omega) (by omega)
 ·refine EvB.neg h ?_
  exact EvB.of_false (Ev.now _) (by rintro rfl; exact h rfl)
def Marked (c : Int) (R : List Int) : Prop := ∀ i : Nat, i < R.length → R.getD i 0 = c + i
end Go.Proofs.Ytbjbolblahlhcaa.FFnExactGlueFrobenius
