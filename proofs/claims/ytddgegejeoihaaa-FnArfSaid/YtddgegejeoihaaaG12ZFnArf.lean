/- Part 12 of the claim for FnArf, of the chain from the printed contracts and the plain laws to the row. It has no condition of its own. -/
import Derived.Test.YtddgegejeoihaaaG1ZFnArf
import Derived.Test.YtddgegejeoihaaaG2ZFnArf
import Derived.Test.YtddgegejeoihaaaG3ZFnArf
import Derived.Test.YtddgegejeoihaaaG6ZFnArf
import Derived.Test.YtddgegejeoihaaaG10ZFnArf
import Derived.Test.YtddgegejeoihaaaG11ZFnArf
import Derived.Test.YtddgegejeoihaaaG5ZFnArf
section
namespace Go.Proofs.Ytddgegejeoihaaa.PFnArf
open Go.RowKit Go.Proofs.YtddgegejeoihaaaW.PrintWords Go.Proofs.YtddgegejeoihaaaW.PrintLast Go.Proofs.YtddgegejeoihaaaW.PrintMore
open Go.Proofs.Ytddgegejeoihaaa.SortW (bk_ kr_ t_ f_)
open Go.Proofs.Ytddgegejeoihaaa.SqW
attribute [local go_sem] max2_int min2_int max_two min_two max_three min_three max_four min_four
set_option maxHeartbeats 8000000
set_option maxRecDepth 100000
set_option linter.unusedVariables false
set_option linter.unusedSimpArgs false
def impl_MultiplicitySequence.l0 : Nat → List Int → List Int → Option (List Int × Bool)
 | 0, _, _ => none
 | k + 1, x4, x733000 => if 0 < (x733000.length : Int) then (if (rd x733000 0) > 1 then ((impl_BlowUp.f k x733000).bind fun bt739 => (if bt739.2 = true then (if 0 < (bt739.1.length : Int) then (if x4.length < 17592186044416 then (impl_MultiplicitySequence.l0 k (x4 ++ [rd bt739.1 0]) bt739.1) else (none)) else (none)) else (some (([] : List Int), false)))) else (some (x4, true))) else (none)
def impl_MultiplicitySequence.f (k : Nat) (l0_0 : List Int) : Option (List Int × Bool) := (impl_IsSemigroup.f k l0_0).bind fun t733 => (if t733 = true then (if 0 < (l0_0.length : Int) then (impl_MultiplicitySequence.l0 k (([rd l0_0 0] : List Int)) l0_0) else (none)) else (some (([] : List Int), false)))
theorem impl_MultiplicitySequence.calls (k : Nat) (P0_0_ : Nat → Prop) (A0_0 : Option Addr) (c0_0 : Nat) (l0_0 : List Int) (r1 : List Int) (r2 : Bool) (w : World) (hs0_0 : Kd.V (Kd.int .i64) 3 w w.heap.size (fun k_ => P0_0_ k_) (.slice A0_0 l0_0.length c0_0) l0_0) (h : impl_MultiplicitySequence.f k l0_0 = some (r1, r2)) :
 Calls Try.prog 26 #[.agg #[.slice A0_0 l0_0.length c0_0]] w fun e w' => ∃ v0_ : Value, e = .returned (.tuple #[v0_, .bool r2]) ∧ Kd.R (Kd.int .i64) 3 w' w.heap.size (fun k_ => (w.heap.size ≤ k_)) v0_ r1 ∧ Below w.heap.size w w' := by
 have hu29 := Try.underlying29
 have HO0_0 := am_ (show Kd.V (Kd.int .i64) 3 w w.heap.size (fun k_ => (P0_0_ k_ ∨ w.heap.size ≤ k_)) (.slice A0_0 l0_0.length c0_0) l0_0 from Kd.V_mono hs0_0 (fun k_ hk => .inl hk))
 have HB := am_ (Below.refl w.heap.size w)
 have H := h
 clear h
 unfold impl_MultiplicitySequence.f at H
 obtain ⟨t733, A2, H⟩ := ob_ H
 (try dsimp only at H)
 by_cases c3 : t733 = true
 rotate_left
 ·obtain rfl := Bool.eq_false_iff.mpr c3
  rw [if_neg nf_] at H
  simp only [Option.some.injEq, Prod.mk.injEq] at H
  obtain ⟨rfl, rfl⟩ := H
  go_enter Try.func26, Try.ntmps26
  go_wp2_with (first | ((with_reducible refine gate_dst (N := 1) rfl ?_); refine be_ 1 #[.slice A0_0 l0_0.length c0_0] 29 fun gb732 hg w35 hbox hb => ?_; replace HO0_0 := am_ (Kd.V_below (Kd.V_elderB (by (with_reducible repeat (first | apply Kd.V_alloc | apply Kd.V_drewN | apply Kd.V_drew)); exact HO0_0.out) gb732 (Nat.le_of_eq hg.symm)) hb); have BK732 := am_ (hbox); have GW732 := ge_ hg HB; have GE732 := ge_ hg HB; replace HB := bs_ HB hb; clear hb hbox hg; have hcz36_0 := bc_ BK732; have hfz36_0 := blk_frozen BK732.out 0) | ((with_reducible refine gate_callee (f := 49) rfl ?_); refine gl_ 8 Try.func49 #[.agg #[.slice A0_0 l0_0.length c0_0]] ?_; (with_reducible refine (impl_IsSemigroup.calls k _ _ l0_0 false _ ?side1 ?side2 A2.out).mono ?_); (case side1 => repeat (first | exact (Kd.V_reads' HO0_0.out).2.2 | (with_reducible refine Kd.C_alloc ?_ _) | (with_reducible refine Kd.C_drewN ?_ _) | (with_reducible refine Kd.C_drew ?_))); (case side2 => exact (Kd.V_reads' HO0_0.out).2.1); rintro e w37 ⟨rfl, hb⟩; refine ⟨_, rfl, ?_⟩; replace HO0_0 := am_ (Kd.V_below (by (with_reducible repeat (first | apply Kd.V_alloc | apply Kd.V_drewN | apply Kd.V_drew)); exact HO0_0.out) hb); replace BK732 := bb_ BK732 hb; replace HB := bs_ HB hb; (try clear hb); (try clear hb2); (try clear hk); (try clear hi)))
  go_ret2
  exact ⟨_, er_, by first | exact Kd.R_nil _ _ _ _ _ | exact Kd.N_nil _ _ _ _ _ | exact Kd.V_nil _ _ _ _ _ | exact Kd.Q_nil _ _ _ _ _ | exact Kd.S_nil _ _ _ _ _, bl_ HB.out⟩
 subst c3
 rw [if_pos rfl] at H
 obtain ⟨c4, H⟩ := in_ H
 have c4b0 := decide_eq_true c4
 have c4b1 : decide (0 < l0_0.length) = true := decide_eq_true (by omega)
 (try have c4b1t := of_decide_eq_true c4b1)
 clear c4
 obtain ⟨y735, hy735⟩ : ∃ y_ : List Int, y_ = (([rd l0_0 0] : List Int)) := ⟨_, rfl⟩
 replace H : (impl_MultiplicitySequence.l0 k y735 l0_0) = some (r1, r2) := hr_ hy735 H
 have Ny735 := am_ hy735
 clear hy735
 have H' := am_ H
 clear H
 go_enter Try.func26, Try.ntmps26
 go_wp2_with (first | ((with_reducible refine gate_dst (N := 1) rfl ?_); refine be_ 1 #[.slice A0_0 l0_0.length c0_0] 29 fun gb732 hg w5 hbox hb => ?_; replace HO0_0 := am_ (Kd.V_below (Kd.V_elderB (by (with_reducible repeat (first | apply Kd.V_alloc | apply Kd.V_drewN | apply Kd.V_drew)); exact HO0_0.out) gb732 (Nat.le_of_eq hg.symm)) hb); have BK732 := am_ (hbox); have GW732 := ge_ hg HB; have GE732 := ge_ hg HB; replace HB := bs_ HB hb; clear hb hbox hg; have hcz6_0 := bc_ BK732; have hfz6_0 := blk_frozen BK732.out 0) | ((with_reducible refine gate_callee (f := 49) rfl ?_); refine gl_ 8 Try.func49 #[.agg #[.slice A0_0 l0_0.length c0_0]] ?_; (with_reducible refine (impl_IsSemigroup.calls k _ _ l0_0 true _ ?side1 ?side2 A2.out).mono ?_); (case side1 => repeat (first | exact (Kd.V_reads' HO0_0.out).2.2 | (with_reducible refine Kd.C_alloc ?_ _) | (with_reducible refine Kd.C_drewN ?_ _) | (with_reducible refine Kd.C_drew ?_))); (case side2 => exact (Kd.V_reads' HO0_0.out).2.1); rintro e w7 ⟨rfl, hb⟩; refine ⟨_, rfl, ?_⟩; replace HO0_0 := am_ (Kd.V_below (by (with_reducible repeat (first | apply Kd.V_alloc | apply Kd.V_drewN | apply Kd.V_drew)); exact HO0_0.out) hb); replace BK732 := bb_ BK732 hb; replace HB := bs_ HB hb; (try clear hb); (try clear hb2); (try clear hk); (try clear hi); have hcz8_0 := bc_ BK732; have hfz8_0 := blk_frozen BK732.out 0; have p734 : 0 ≤ (0 : Int) := (by omega); have q734 : 0 < (l0_0.length : Int) := od_; obtain ⟨ad734, e734, hx734_0⟩ := Kd.at_int (Kd.V_reads' HO0_0.out).2.2 0 p734 q734; cases e734; have qi734 : (0 < l0_0.length) = True := eq_true (by omega); (try rw [show ((0 : Int)).toNat = 0 from rfl] at hx734_0); (try rw [Addr.add_zero'] at hx734_0); replace p734 := eq_true p734; replace q734 := eq_true q734) | ((with_reducible refine gate_dst (N := 14) rfl ?_); refine Kd.R_lit (Kd.int .i64) _ 3 ?hg (N := 14) ?hd (xs := ([rd l0_0 0] : List Int)) (inner := [.int .i64 (rd l0_0 0)]) (ok := fun _ => True) (okp := fun _ => True) ?hr ?hp (fun _ hk => hk) trivial (Below.refl _ _) (Nat.le_refl _) (by simp) ?_; (case hd => rfl); (case hg => rfl); (case hr => first | (go_simp; done) | (go_simp; rfl)); (case hp => exact (Reps.one (show Kd.M (Kd.int .i64) _ _ _ (rd l0_0 0) [.int .i64 (rd l0_0 0)] from rfl) (Reps.none _ _))); intro v736 w9 ho10 hb hg_ hnew_; clear hg_ hnew_; (first | rw [← Ny735.out] at ho10 | (simp only [Int.reduceToNat] at ho10; rw [← Ny735.out] at ho10)); replace HO0_0 := am_ (Kd.V_elder' (by (with_reducible repeat (first | apply Kd.V_alloc | apply Kd.V_drewN | apply Kd.V_drew)); exact HO0_0.out) (Kd.R_base ho10) hb); have HO737 := am_ (Kd.R_lower (Kd.R_newM (M := fun k_ => (w.heap.size ≤ k_)) ho10 (below_size (bl_ HB.out)) (fun k_ h_ => h_)) (below_size (bl_ HB.out))); replace BK732 := bb_ BK732 hb; replace HB := bs_ HB hb; clear hb ho10))
 go_loopg [4] k (fun kq v4 w' => ∃ (x4_1 : List Int) (x733000_1 : List Int) (u733000 : Value), Aside0 (impl_MultiplicitySequence.l0 kq x4_1 x733000_1 = some (r1, r2)) ∧ Aside0 (kq ≤ k) ∧ Aside0 (Kd.R (Kd.int .i64) 3 w' w.heap.size (fun k_ => (w.heap.size ≤ k_)) v4 x4_1) ∧ Aside0 (Kd.V (Kd.int .i64) 3 w' w.heap.size (fun k_ => (P0_0_ k_ ∨ w.heap.size ≤ k_) ∧ some k_ ≠ (v4 : Value).ownBlock ∧ k_ ≠ gb732) u733000 x733000_1) ∧ Aside0 (w'.heap[gb732]? = some (.cells #[u733000] 29 (0, 0))) ∧ Aside0 (Below w.heap.size w w'))
 case atStart => exact ⟨(y735), (l0_0), (.slice (some ad734) l0_0.length c0_0), H', ⟨Nat.le_refl _⟩, ⟨kr_ (Kd.R_mono HO737.out (fun _ hk => hk.1))⟩, ⟨by (with_reducible repeat (first | apply Kd.V_alloc | apply Kd.V_drewN | apply Kd.V_drew)); exact Kd.V_mono HO0_0.out (fun _ hk => ⟨hk.1.1, ⟨hk.2, hk.1.2⟩⟩)⟩, ⟨bk_ BK732.out⟩, ⟨bl_ HB.out⟩⟩
 case round =>
  clear H'
  try clear c2
  try clear p2
  try clear c3
  try clear p7
  try clear q7
  try clear hx7
  try clear qi7
  try clear hcz6_0
  try clear hcz8_0
  try clear hfz6_0
  try clear hfz8_0
  try clear hx734_0
  try clear p734
  try clear q734
  obtain ⟨x4_1, x733000_1, u733000, HA, HK1, HO_4, HO_733000, BK732, HB⟩ := hrel
  cases gk with
  | zero => exact absurd HA.out (by simp [impl_MultiplicitySequence.l0])
  | succ k1 =>
   have H := HA.out
   clear HA
   simp only [impl_MultiplicitySequence.l0] at H
   obtain ⟨c11, H⟩ := in_ H
   have c11b0 := decide_eq_true c11
   have c11b1 : decide (0 < x733000_1.length) = true := decide_eq_true (by omega)
   (try have c11b1t := of_decide_eq_true c11b1)
   clear c11
   by_cases c12 : (rd x733000_1 0) > 1
   rotate_left
   ·rw [if_neg c12] at H
    have c12b0 : decide (1 < (rd x733000_1 0)) = false := decide_eq_false c12
    clear c12
    simp only [Option.some.injEq, Prod.mk.injEq] at H
    obtain ⟨rfl, rfl⟩ := H
    have hcz33_0 := bc_ BK732
    have hfz33_0 := blk_frozen BK732.out 0
    obtain ⟨Ao34, co34, eo34⟩ := Kd.V_slice HO_733000.out
    subst eo34
    have p738 : 0 ≤ (0 : Int) := (by omega)
    have q738 : 0 < (x733000_1.length : Int) := od_
    obtain ⟨ad738, e738, hx738_0⟩ := Kd.at_int (Kd.V_reads' HO_733000.out).2.2 0 p738 q738
    cases e738
    have qi738 : (0 < x733000_1.length) = True := eq_true (by omega)
    (try rw [show ((0 : Int)).toNat = 0 from rfl] at hx738_0)
    (try rw [Addr.add_zero'] at hx738_0)
    replace p738 := eq_true p738
    replace q738 := eq_true q738
    go_wp2
    go_ret2
    exact ⟨_, er_, kr_ HO_4.out, bl_ HB.out⟩
   rw [if_pos c12] at H
   have c12b0 : decide (1 < (rd x733000_1 0)) = true := decide_eq_true c12
   clear c12
   replace H := Option.bind_eq_some_iff.mp H
   obtain ⟨⟨t739, t742⟩, A130, H⟩ := H
   (try dsimp only at H)
   have A13 := am_ A130
   clear A130
   by_cases c14 : t742 = true
   rotate_left
   ·obtain rfl := Bool.eq_false_iff.mpr c14
    rw [if_neg nf_] at H
    simp only [Option.some.injEq, Prod.mk.injEq] at H
    obtain ⟨rfl, rfl⟩ := H
    have hcz26_0 := bc_ BK732
    have hfz26_0 := blk_frozen BK732.out 0
    obtain ⟨Ao27, co27, eo27⟩ := Kd.V_slice HO_733000.out
    subst eo27
    have p738 : 0 ≤ (0 : Int) := (by omega)
    have q738 : 0 < (x733000_1.length : Int) := od_
    obtain ⟨ad738, e738, hx738_0⟩ := Kd.at_int (Kd.V_reads' HO_733000.out).2.2 0 p738 q738
    cases e738
    have qi738 : (0 < x733000_1.length) = True := eq_true (by omega)
    (try rw [show ((0 : Int)).toNat = 0 from rfl] at hx738_0)
    (try rw [Addr.add_zero'] at hx738_0)
    replace p738 := eq_true p738
    replace q738 := eq_true q738
    go_wp2_with (first | ((with_reducible refine gate_callee (f := 24) rfl ?_); refine gl_ 22 Try.func24 #[.agg #[.slice (some ad738) x733000_1.length co27]] ?_; (with_reducible refine (impl_BlowUp.calls k1 _ _ x733000_1 t739 false _ ?side1 ?side2 A13.out).mono ?_); (case side1 => repeat (first | exact (Kd.V_reads' HO_733000.out).2.2 | (with_reducible refine Kd.C_alloc ?_ _) | (with_reducible refine Kd.C_drewN ?_ _) | (with_reducible refine Kd.C_drew ?_))); (case side2 => exact (Kd.V_reads' HO_733000.out).2.1); rintro e w28 ⟨v740, rfl, ho0, hb⟩; refine ⟨_, rfl, ?_⟩; replace HO_733000 := am_ (Kd.V_elder' (by (with_reducible repeat (first | apply Kd.V_alloc | apply Kd.V_drewN | apply Kd.V_drew)); exact HO_733000.out) (Kd.R_base ho0) hb); have HO741 := am_ (Kd.R_lower (Kd.R_new' (Kd.R_newM (M := fun k_ => (w.heap.size ≤ k_)) ho0 (below_size (bl_ HB.out)) (fun k_ h_ => h_)) (Kd.R_lt (kr_ HO_4.out))) (below_size (bl_ HB.out))); replace HO_4 := am_ (Kd.R_elder' (kr_ HO_4.out) (Kd.R_base ho0) hb); replace BK732 := bb_ BK732 hb; replace HB := bs_ HB hb; (try clear hb); (try clear hb2); (try clear hk); (try clear hi); (try clear ho0)) | ((with_reducible refine gate_dst (N := 5) rfl ?_); refine be_ 5 #[.slice none 0 0] 29 fun gb743 hg w29 hbox hb => ?_; replace HO_4 := rb_ HO_4 hb; replace HO_733000 := am_ (Kd.V_below (Kd.V_elderB (by (with_reducible repeat (first | apply Kd.V_alloc | apply Kd.V_drewN | apply Kd.V_drew)); exact HO_733000.out) gb743 (Nat.le_of_eq hg.symm)) hb); replace HO741 := rb_ HO741 hb; have BK743 := am_ (hbox); have GW743 := ge_ hg HB; have GE743 := ge_ hg HB; replace HB := bs_ HB hb; have NB732_743 := nl_ hg BK732; have NB743_732 := ng_ hg BK732; replace BK732 := bb_ BK732 hb; clear hb hbox hg; obtain ⟨Ao30, co30, eo30⟩ := Kd.R_slice HO741.out; subst eo30; have hnb31 := NB743_732.out; have hnc31 := NB732_743.out; have hcz32_0 := bc_ BK743; have hfz32_0 := blk_frozen BK743.out 0))
    go_ret2
    exact ⟨_, er_, by first | exact Kd.R_nil _ _ _ _ _ | exact Kd.N_nil _ _ _ _ _ | exact Kd.V_nil _ _ _ _ _ | exact Kd.Q_nil _ _ _ _ _ | exact Kd.S_nil _ _ _ _ _, bl_ HB.out⟩
   subst c14
   rw [if_pos rfl] at H
   obtain ⟨c15, H⟩ := in_ H
   have c15b0 := decide_eq_true c15
   have c15b1 : decide (0 < t739.length) = true := decide_eq_true (by omega)
   (try have c15b1t := of_decide_eq_true c15b1)
   clear c15
   obtain ⟨c16, H⟩ := in_ H
   have LMc16 := am_ c16
   clear c16
   obtain ⟨y745, hy745⟩ : ∃ y_ : List Int, y_ = (x4_1 ++ [rd t739 0]) := ⟨_, rfl⟩
   replace H : (impl_MultiplicitySequence.l0 k1 y745 t739) = some (r1, r2) := hr_ hy745 H
   have Ny745 := am_ hy745
   clear hy745
   have H' := am_ H
   clear H
   have hcz17_0 := bc_ BK732
   have hfz17_0 := blk_frozen BK732.out 0
   obtain ⟨Ao18, co18, eo18⟩ := Kd.V_slice HO_733000.out
   subst eo18
   have p738 : 0 ≤ (0 : Int) := (by omega)
   have q738 : 0 < (x733000_1.length : Int) := od_
   obtain ⟨ad738, e738, hx738_0⟩ := Kd.at_int (Kd.V_reads' HO_733000.out).2.2 0 p738 q738
   cases e738
   have qi738 : (0 < x733000_1.length) = True := eq_true (by omega)
   (try rw [show ((0 : Int)).toNat = 0 from rfl] at hx738_0)
   (try rw [Addr.add_zero'] at hx738_0)
   replace p738 := eq_true p738
   replace q738 := eq_true q738
   go_wp2_with (first | ((with_reducible refine gate_callee (f := 24) rfl ?_); refine gl_ 22 Try.func24 #[.agg #[.slice (some ad738) x733000_1.length co18]] ?_; (with_reducible refine (impl_BlowUp.calls k1 _ _ x733000_1 t739 true _ ?side1 ?side2 A13.out).mono ?_); (case side1 => repeat (first | exact (Kd.V_reads' HO_733000.out).2.2 | (with_reducible refine Kd.C_alloc ?_ _) | (with_reducible refine Kd.C_drewN ?_ _) | (with_reducible refine Kd.C_drew ?_))); (case side2 => exact (Kd.V_reads' HO_733000.out).2.1); rintro e w19 ⟨v740, rfl, ho0, hb⟩; refine ⟨_, rfl, ?_⟩; replace HO_733000 := am_ (Kd.V_elder' (by (with_reducible repeat (first | apply Kd.V_alloc | apply Kd.V_drewN | apply Kd.V_drew)); exact HO_733000.out) (Kd.R_base ho0) hb); have HO741 := am_ (Kd.R_lower (Kd.R_new' (Kd.R_newM (M := fun k_ => (w.heap.size ≤ k_)) ho0 (below_size (bl_ HB.out)) (fun k_ h_ => h_)) (Kd.R_lt (kr_ HO_4.out))) (below_size (bl_ HB.out))); replace HO_4 := am_ (Kd.R_elder' (kr_ HO_4.out) (Kd.R_base ho0) hb); replace BK732 := bb_ BK732 hb; replace HB := bs_ HB hb; (try clear hb); (try clear hb2); (try clear hk); (try clear hi); (try clear ho0)) | ((with_reducible refine gate_dst (N := 5) rfl ?_); refine be_ 5 #[.slice none 0 0] 29 fun gb743 hg w20 hbox hb => ?_; replace HO_4 := rb_ HO_4 hb; replace HO_733000 := am_ (Kd.V_below (Kd.V_elderB (by (with_reducible repeat (first | apply Kd.V_alloc | apply Kd.V_drewN | apply Kd.V_drew)); exact HO_733000.out) gb743 (Nat.le_of_eq hg.symm)) hb); replace HO741 := rb_ HO741 hb; have BK743 := am_ (hbox); have GW743 := ge_ hg HB; have GE743 := ge_ hg HB; replace HB := bs_ HB hb; have NB732_743 := nl_ hg BK732; have NB743_732 := ng_ hg BK732; replace BK732 := bb_ BK732 hb; clear hb hbox hg; obtain ⟨Ao21, co21, eo21⟩ := Kd.R_slice HO741.out; subst eo21; have hnb22 := NB743_732.out; have hnc22 := NB732_743.out; have hcz23_0 := bc_ BK743; have hfz23_0 := blk_frozen BK743.out 0; have hcz24_0 := bc_ BK732; have hfz24_0 := blk_frozen BK732.out 0; have p744 : 0 ≤ (0 : Int) := (by omega); have q744 : 0 < (t739.length : Int) := od_; obtain ⟨ad744, e744, hx744_0⟩ := Kd.at_int (Kd.R_reads' HO741.out).2.2 0 p744 q744; cases e744; have qi744 : (0 < t739.length) = True := eq_true (by omega); (try rw [show ((0 : Int)).toNat = 0 from rfl] at hx744_0); (try rw [Addr.add_zero'] at hx744_0); have hn744_0 : ad744.block ≠ gb743 := Kd.own_blk (Kd.R_ne HO741.out BK743.out (by decide)); have hn744_1 : ad744.block ≠ gb732 := Kd.own_blk (Kd.R_ne HO741.out BK732.out (by decide)); replace hx744_0 := (cell_far (p := ⟨gb743, 0, none⟩) (by first | (rw [add_block]; exact hn744_0) | (show (Addr.add _ _).block ≠ _; rw [add_block]; exact hn744_0) | exact hn744_0) (.slice (some ad744) t739.length co21)).trans hx744_0; replace hx744_0 := (cell_far (p := ⟨gb732, 0, none⟩) (by first | (rw [add_block]; exact hn744_1) | (show (Addr.add _ _).block ≠ _; rw [add_block]; exact hn744_1) | exact hn744_1) (.slice (some ad744) t739.length co21)).trans hx744_0; clear hn744_0; clear hn744_1; replace p744 := eq_true p744; replace q744 := eq_true q744) | ((with_reducible refine gate_builtin (b := .append) (xs := #[.tmp 28, .tmp 33]) rfl ?_); at_builtin; refine Kd.R_append (Kd.int .i64) (w0 := w) w.heap.size rfl (.tmp 28) (.tmp 33) 22 3 (.int .i64 0) 8 rfl Try.underlying22 info3 rfl (by decide) (by omega) u4 x4_1 (rd t739 0) [.int .i64 (rd t739 0)] (fun k_ => (w.heap.size ≤ k_) ∧ some k_ ≠ (.slice (some ad744) t739.length co21 : Value).ownBlock) (fun _ => False) rfl (by first | (go_simp; done) | (go_simp; rfl)) ?aP (fun _ hk => hk.elim) ?aF ?aO ?aB ?aS ?aL ?_; (case aP => exact rfl); (case aB => exact (bl_ HB.out)); (case aF => exact (fun k_ hk => ⟨(Nat.le_trans (below_size (bl_ HB.out)) hk), Kd.fresh' (Kd.R_lt (kr_ ((Kd.R_mono (Kd.R_mono (Kd.R_far (p := ⟨gb732, 0, none⟩) (Kd.R_far (p := ⟨gb743, 0, none⟩) (Kd.R_types (Kd.R_types HO741.out BK743.out (by decide)) BK732.out (by decide)) (fun _ hk => hk.1.2) (.slice (some ad744) t739.length co21)) (fun _ hk => hk.2) (.slice (some ad744) t739.length co21)) (fun _ h_ => h_.1)) (fun _ h_ => h_.1))))) k_ hk⟩)); (case aO => exact (kr_ (Kd.R_mono (Kd.R_far (p := ⟨gb732, 0, none⟩) (Kd.R_far (p := ⟨gb743, 0, none⟩) (Kd.R_types (Kd.R_types HO_4.out BK743.out (by decide)) BK732.out (by decide)) (fun _ hk => hk.1.2) (.slice (some ad744) t739.length co21)) (fun _ hk => hk.2) (.slice (some ad744) t739.length co21)) (fun _ hk => ⟨hk.1.1.1, hk.1.1.2⟩)))); (case aS => exact (below_size (bl_ HB.out))); (case aL => have := LMc16.out; omega); intro v746 w25 ho hb hg hat; rw [← Ny745.out] at ho; have n0_ := am_ (Kd.V_afterv (ok := (fun k_ => (P0_0_ k_ ∨ w.heap.size ≤ k_) ∧ some k_ ≠ (.slice (some ad744) t739.length co21 : Value).ownBlock ∧ k_ ≠ gb732 ∧ k_ ≠ gb743)) (by (with_reducible repeat (first | apply Kd.V_alloc | apply Kd.V_drewN | apply Kd.V_drew)); exact Kd.V_mono (Kd.V_far (p := ⟨gb732, 0, none⟩) (Kd.V_far (p := ⟨gb743, 0, none⟩) (Kd.V_mono (Kd.V_mono HO_733000.out (fun k_ hk => (⟨hk, hk.2⟩ : _ ∧ k_ ≠ gb743))) (fun k_ hk => (⟨hk, hk.1.1.1.2.2⟩ : _ ∧ k_ ≠ gb732))) (fun _ hk => hk.1.2) (.slice (some ad744) t739.length co21)) (fun _ hk => hk.2) (.slice (some ad744) t739.length co21)) (fun _ hk => ⟨⟨hk.1.1.1.1.1, ⟨hk.1.1.1.2, ⟨hk.1.1.1.1.2.2, hk.1.1.2⟩⟩⟩, hk.1.1.1.1.2.1⟩)) hg hat); have n1_ := am_ (blk_grown (g := gb732) (o := .cells #[.slice (some ad744) t739.length co21] 29 (0, 0)) (by (with_reducible repeat (first | refine blk_drewN ?_ _ | refine blk_drew ?_ | refine blk_alloc ?_ _)); refine blk_put (cs := #[.slice (some ad738) x733000_1.length co18]) ?_ 0 _ rfl; (with_reducible repeat (first | refine blk_drewN ?_ _ | refine blk_drew ?_ | refine blk_alloc ?_ _)); refine blk_far ?_ NB732_743.out _; (with_reducible repeat (first | refine blk_drewN ?_ _ | refine blk_drew ?_ | refine blk_alloc ?_ _)); exact BK732.out) hg (Kd.R_ne HO_4.out BK732.out (by decide))); have n2_ := am_ (Kd.R_after (ok := (fun k_ => (w.heap.size ≤ k_))) (kr_ (Kd.R_mono (Kd.R_far (p := ⟨gb732, 0, none⟩) (Kd.R_far (p := ⟨gb743, 0, none⟩) (Kd.R_types (Kd.R_types HO741.out BK743.out (by decide)) BK732.out (by decide)) (fun _ hk => hk.1.2) (.slice (some ad744) t739.length co21)) (fun _ hk => hk.2) (.slice (some ad744) t739.length co21)) (fun _ hk => ⟨hk.1.1.1.1, hk.1.1.2⟩))) hg hat); have n3_ := am_ (blk_grown (g := gb743) (o := .cells #[.slice (some ad744) t739.length co21] 29 (0, 0)) (by (with_reducible repeat (first | refine blk_drewN ?_ _ | refine blk_drew ?_ | refine blk_alloc ?_ _)); refine blk_far ?_ NB743_732.out _; (with_reducible repeat (first | refine blk_drewN ?_ _ | refine blk_drew ?_ | refine blk_alloc ?_ _)); refine blk_put (cs := #[.slice none 0 0]) ?_ 0 _ rfl; (with_reducible repeat (first | refine blk_drewN ?_ _ | refine blk_drew ?_ | refine blk_alloc ?_ _)); exact BK743.out) hg (Kd.R_ne HO_4.out BK743.out (by decide))); have n4_ := am_ (hb); have n5_ := am_ (ho); clear HO_733000; clear BK732; clear HO741; clear BK743; clear HB; clear HO_4; have HO_733000 := n0_; have BK732 := n1_; have HO741 := n2_; have BK743 := n3_; have HB := n4_; have HO747 := n5_; clear n0_ n1_ n2_ n3_ n4_ n5_; clear ho hb hg hat))
   go_roundg k1
   case measure => have := HK1.out; omega
   case rel => exact ⟨(y745), (t739), (.slice (some ad744) t739.length co21), H', ⟨by have := HK1.out; omega⟩, ⟨kr_ (Kd.R_mono HO747.out (fun _ hk => hk.1))⟩, ⟨Kd.V_mono (Kd.R_V (kr_ ((Kd.R_types HO741.out BK732.out (by decide))))) (fun k_ hk => by first | exact ⟨(.inr (hk.1)), hk.2⟩ | exact (.inr (hk)) | exact ⟨.inr hk.1.1, ⟨hk.1.2, hk.2⟩⟩)⟩, ⟨bk_ BK732.out⟩, ⟨bl_ HB.out⟩⟩
def spec_MultiplicitySequence.l0 : Nat → List Int → List Int → Option (List Int × Bool)
 | 0, _, _ => none
 | k + 1, x4, x749000 => (spec_IsSemigroup.f k x749000).bind fun t752 => (if t752 = true then (if 0 < (x749000.length : Int) then (if x4.length < 17592186044416 then ((some (x4 ++ [rd x749000 0] : List Int)).bind fun y754 => (if (rd x749000 0) = 1 then (some (y754, true)) else ((spec_BlowUp.f k x749000).bind fun bt758 => (spec_MultiplicitySequence.l0 k y754 bt758.1)))) else (none)) else (none)) else (some ((([] : List Int)), false)))
def spec_MultiplicitySequence.f (k : Nat) (l0_0 : List Int) : Option (List Int × Bool) := spec_MultiplicitySequence.l0 k (([] : List Int)) l0_0
theorem spec_MultiplicitySequence.calls (k : Nat) (P0_0_ : Nat → Prop) (A0_0 : Option Addr) (c0_0 : Nat) (l0_0 : List Int) (r1 : List Int) (r2 : Bool) (w : World) (hs0_0 : Kd.V (Kd.int .i64) 3 w w.heap.size (fun k_ => P0_0_ k_) (.slice A0_0 l0_0.length c0_0) l0_0) (h : spec_MultiplicitySequence.f k l0_0 = some (r1, r2)) :
 Calls Try.prog 27 #[.agg #[.slice A0_0 l0_0.length c0_0]] w fun e w' => ∃ v0_ : Value, e = .returned (.tuple #[v0_, .bool r2]) ∧ Kd.R (Kd.int .i64) 3 w' w.heap.size (fun k_ => (w.heap.size ≤ k_)) v0_ r1 ∧ Below w.heap.size w w' := by
 have hu29 := Try.underlying29
 have HO0_0 := am_ (show Kd.V (Kd.int .i64) 3 w w.heap.size (fun k_ => (P0_0_ k_ ∨ w.heap.size ≤ k_)) (.slice A0_0 l0_0.length c0_0) l0_0 from Kd.V_mono hs0_0 (fun k_ hk => .inl hk))
 have HB := am_ (Below.refl w.heap.size w)
 have H := h
 clear h
 unfold spec_MultiplicitySequence.f at H
 obtain ⟨y749, hy749⟩ : ∃ y_ : List Int, y_ = (([] : List Int)) := ⟨_, rfl⟩
 replace H : (spec_MultiplicitySequence.l0 k y749 l0_0) = some (r1, r2) := hr_ hy749 H
 have Ny749 := am_ hy749
 clear hy749
 have H' := am_ H
 clear H
 go_enter Try.func27, Try.ntmps27
 go_wp2_with (first | ((with_reducible refine gate_dst (N := 1) rfl ?_); refine be_ 1 #[.slice A0_0 l0_0.length c0_0] 29 fun gb748 hg w2 hbox hb => ?_; replace HO0_0 := am_ (Kd.V_below (Kd.V_elderB (by (with_reducible repeat (first | apply Kd.V_alloc | apply Kd.V_drewN | apply Kd.V_drew)); exact HO0_0.out) gb748 (Nat.le_of_eq hg.symm)) hb); have BK748 := am_ (hbox); have GW748 := ge_ hg HB; have GE748 := ge_ hg HB; replace HB := bs_ HB hb; clear hb hbox hg) | ((with_reducible refine gate_dst (N := 5) rfl ?_); refine Kd.R_lit (Kd.int .i64) _ 3 ?hg (N := 5) ?hd (xs := ([] : List Int)) (inner := []) (ok := fun _ => True) (okp := fun _ => True) ?hr ?hp (fun _ hk => hk) trivial (Below.refl _ _) (Nat.le_refl _) (by simp) ?_; (case hd => rfl); (case hg => rfl); (case hr => first | (go_simp; done) | (go_simp; rfl)); (case hp => exact (Reps.none _ _)); intro v750 w3 ho4 hb hg_ hnew_; clear hg_ hnew_; (first | rw [← Ny749.out] at ho4 | (simp only [Int.reduceToNat] at ho4; rw [← Ny749.out] at ho4)); replace HO0_0 := am_ (Kd.V_elder' (by (with_reducible repeat (first | apply Kd.V_alloc | apply Kd.V_drewN | apply Kd.V_drew)); exact HO0_0.out) (Kd.R_base ho4) hb); have HO751 := am_ (Kd.R_lower (Kd.R_newM (M := fun k_ => (w.heap.size ≤ k_)) ho4 (below_size (bl_ HB.out)) (fun k_ h_ => h_)) (below_size (bl_ HB.out))); replace BK748 := bb_ BK748 hb; replace HB := bs_ HB hb; clear hb ho4))
 go_loopg [4] k (fun kq v4 w' => ∃ (x4_1 : List Int) (x749000_1 : List Int) (u749000 : Value), Aside0 (spec_MultiplicitySequence.l0 kq x4_1 x749000_1 = some (r1, r2)) ∧ Aside0 (kq ≤ k) ∧ Aside0 (Kd.R (Kd.int .i64) 3 w' w.heap.size (fun k_ => (w.heap.size ≤ k_)) v4 x4_1) ∧ Aside0 (Kd.V (Kd.int .i64) 3 w' w.heap.size (fun k_ => (P0_0_ k_ ∨ w.heap.size ≤ k_) ∧ some k_ ≠ (v4 : Value).ownBlock ∧ k_ ≠ gb748) u749000 x749000_1) ∧ Aside0 (w'.heap[gb748]? = some (.cells #[u749000] 29 (0, 0))) ∧ Aside0 (Below w.heap.size w w'))
 case atStart => exact ⟨(y749), (l0_0), (.slice A0_0 l0_0.length c0_0), H', ⟨Nat.le_refl _⟩, ⟨kr_ (Kd.R_mono HO751.out (fun _ hk => hk.1))⟩, ⟨by (with_reducible repeat (first | apply Kd.V_alloc | apply Kd.V_drewN | apply Kd.V_drew)); exact Kd.V_mono HO0_0.out (fun _ hk => ⟨hk.1.1, ⟨hk.2, hk.1.2⟩⟩)⟩, ⟨bk_ BK748.out⟩, ⟨bl_ HB.out⟩⟩
 case round =>
  clear H'
  try clear c2
  try clear p2
  obtain ⟨x4_1, x749000_1, u749000, HA, HK1, HO_4, HO_749000, BK748, HB⟩ := hrel
  cases gk with
  | zero => exact absurd HA.out (by simp [spec_MultiplicitySequence.l0])
  | succ k1 =>
   have H := HA.out
   clear HA
   simp only [spec_MultiplicitySequence.l0] at H
   obtain ⟨t752, A5, H⟩ := ob_ H
   (try dsimp only at H)
   by_cases c6 : t752 = true
   rotate_left
   ·obtain rfl := Bool.eq_false_iff.mpr c6
    rw [if_neg nf_] at H
    obtain ⟨y762, hy762⟩ : ∃ y_ : List Int, y_ = (([] : List Int)) := ⟨_, rfl⟩
    replace H : (some (y762, false)) = some (r1, r2) := hr_ hy762 H
    have Ny762 := am_ hy762
    clear hy762
    simp only [Option.some.injEq, Prod.mk.injEq] at H
    obtain ⟨rfl, rfl⟩ := H
    have hcz26_0 := bc_ BK748
    have hfz26_0 := blk_frozen BK748.out 0
    obtain ⟨Ao27, co27, eo27⟩ := Kd.V_slice HO_749000.out
    subst eo27
    go_wp2_with (first | ((with_reducible refine gate_callee (f := 52) rfl ?_); refine gl_ 7 Try.func52 #[.agg #[.slice Ao27 x749000_1.length co27]] ?_; (with_reducible refine (spec_IsSemigroup.calls k1 _ _ x749000_1 false _ ?side1 ?side2 A5.out).mono ?_); (case side1 => repeat (first | exact (Kd.V_reads' HO_749000.out).2.2 | (with_reducible refine Kd.C_alloc ?_ _) | (with_reducible refine Kd.C_drewN ?_ _) | (with_reducible refine Kd.C_drew ?_))); (case side2 => exact (Kd.V_reads' HO_749000.out).2.1); rintro e w28 ⟨rfl, hb⟩; refine ⟨_, rfl, ?_⟩; replace HO_4 := rb_ HO_4 hb; replace HO_749000 := am_ (Kd.V_below (by (with_reducible repeat (first | apply Kd.V_alloc | apply Kd.V_drewN | apply Kd.V_drew)); exact HO_749000.out) hb); replace BK748 := bb_ BK748 hb; replace HB := bs_ HB hb; (try clear hb); (try clear hb2); (try clear hk); (try clear hi)) | ((with_reducible refine gate_dst (N := 26) rfl ?_); refine Kd.R_lit (Kd.int .i64) _ 3 ?hg (N := 26) ?hd (xs := ([] : List Int)) (inner := []) (ok := fun _ => True) (okp := fun _ => True) ?hr ?hp (fun _ hk => hk) trivial (Below.refl _ _) (Nat.le_refl _) (by simp) ?_; (case hd => rfl); (case hg => rfl); (case hr => first | (go_simp; done) | (go_simp; rfl)); (case hp => exact (Reps.none _ _)); intro v763 w29 ho30 hb hg_ hnew_; clear hg_ hnew_; (first | rw [← Ny762.out] at ho30 | (simp only [Int.reduceToNat] at ho30; rw [← Ny762.out] at ho30)); replace HO_749000 := am_ (Kd.V_elder' (by (with_reducible repeat (first | apply Kd.V_alloc | apply Kd.V_drewN | apply Kd.V_drew)); exact HO_749000.out) (Kd.R_base ho30) hb); have HO764 := am_ (Kd.R_lower (Kd.R_new' (Kd.R_newM (M := fun k_ => (w.heap.size ≤ k_)) ho30 (below_size (bl_ HB.out)) (fun k_ h_ => h_)) (Kd.R_lt (kr_ HO_4.out))) (below_size (bl_ HB.out))); replace HO_4 := am_ (Kd.R_elder' (kr_ HO_4.out) (Kd.R_base ho30) hb); replace BK748 := bb_ BK748 hb; replace HB := bs_ HB hb; clear hb ho30))
    go_ret2
    exact ⟨_, er_, kr_ (Kd.R_mono HO764.out (fun _ hk => hk.1.1)), bl_ HB.out⟩
   subst c6
   rw [if_pos rfl] at H
   obtain ⟨c7, H⟩ := in_ H
   have c7b0 := decide_eq_true c7
   have c7b1 : decide (0 < x749000_1.length) = true := decide_eq_true (by omega)
   (try have c7b1t := of_decide_eq_true c7b1)
   clear c7
   obtain ⟨c8, H⟩ := in_ H
   have LMc8 := am_ c8
   clear c8
   obtain ⟨y754, hy754⟩ : ∃ y_ : List Int, y_ = (x4_1 ++ [rd x749000_1 0]) := ⟨_, rfl⟩
   replace H : (if (rd x749000_1 0) = 1 then (some (y754, true)) else ((spec_BlowUp.f k1 x749000_1).bind fun bt758 => (spec_MultiplicitySequence.l0 k1 y754 bt758.1))) = some (r1, r2) := hr_ hy754 H
   have Ny754 := am_ hy754
   clear hy754
   by_cases c9 : (rd x749000_1 0) = 1
   ·rw [if_pos c9] at H
    have c9b0 : ((rd x749000_1 0) == 1) = true := beq_iff_eq.mpr c9
    have c9b1 : ((rd x749000_1 0) != 1) = false := bne_eq_false_iff_eq.mpr c9
    clear c9
    simp only [Option.some.injEq, Prod.mk.injEq] at H
    obtain ⟨rfl, rfl⟩ := H
    have hcz10_0 := bc_ BK748
    have hfz10_0 := blk_frozen BK748.out 0
    obtain ⟨Ao11, co11, eo11⟩ := Kd.V_slice HO_749000.out
    subst eo11
    go_wp2_with (first | ((with_reducible refine gate_callee (f := 52) rfl ?_); refine gl_ 7 Try.func52 #[.agg #[.slice Ao11 x749000_1.length co11]] ?_; (with_reducible refine (spec_IsSemigroup.calls k1 _ _ x749000_1 true _ ?side1 ?side2 A5.out).mono ?_); (case side1 => repeat (first | exact (Kd.V_reads' HO_749000.out).2.2 | (with_reducible refine Kd.C_alloc ?_ _) | (with_reducible refine Kd.C_drewN ?_ _) | (with_reducible refine Kd.C_drew ?_))); (case side2 => exact (Kd.V_reads' HO_749000.out).2.1); rintro e w12 ⟨rfl, hb⟩; refine ⟨_, rfl, ?_⟩; replace HO_4 := rb_ HO_4 hb; replace HO_749000 := am_ (Kd.V_below (by (with_reducible repeat (first | apply Kd.V_alloc | apply Kd.V_drewN | apply Kd.V_drew)); exact HO_749000.out) hb); replace BK748 := bb_ BK748 hb; replace HB := bs_ HB hb; (try clear hb); (try clear hb2); (try clear hk); (try clear hi); have hcz13_0 := bc_ BK748; have hfz13_0 := blk_frozen BK748.out 0; have p753 : 0 ≤ (0 : Int) := (by omega); have q753 : 0 < (x749000_1.length : Int) := od_; obtain ⟨ad753, e753, hx753_0⟩ := Kd.at_int (Kd.V_reads' HO_749000.out).2.2 0 p753 q753; cases e753; have qi753 : (0 < x749000_1.length) = True := eq_true (by omega); (try rw [show ((0 : Int)).toNat = 0 from rfl] at hx753_0); (try rw [Addr.add_zero'] at hx753_0); replace p753 := eq_true p753; replace q753 := eq_true q753) | ((with_reducible refine gate_builtin (b := .append) (xs := #[.tmp 8, .tmp 13]) rfl ?_); at_builtin; refine Kd.R_append (Kd.int .i64) (w0 := w) w.heap.size rfl (.tmp 8) (.tmp 13) 22 3 (.int .i64 0) 8 rfl Try.underlying22 info3 rfl (by decide) (by omega) u4 x4_1 (rd x749000_1 0) [.int .i64 (rd x749000_1 0)] (fun k_ => (w.heap.size ≤ k_)) (fun _ => False) rfl rfl ?aP (fun _ hk => hk.elim) ?aF ?aO ?aB ?aS ?aL ?_; (case aP => exact rfl); (case aB => exact (bl_ HB.out)); (case aF => exact (fun k_ hk => (Nat.le_trans (below_size (bl_ HB.out)) hk))); (case aO => exact (kr_ HO_4.out)); (case aS => exact (below_size (bl_ HB.out))); (case aL => have := LMc8.out; omega); intro v755 w14 ho hb hg hat; rw [← Ny754.out] at ho; have n0_ := am_ (Kd.V_afterv (ok := (fun k_ => (P0_0_ k_ ∨ w.heap.size ≤ k_) ∧ k_ ≠ gb748)) (by (with_reducible repeat (first | apply Kd.V_alloc | apply Kd.V_drewN | apply Kd.V_drew)); exact Kd.V_mono HO_749000.out (fun _ hk => ⟨⟨hk.1, hk.2.2⟩, hk.2.1⟩)) hg hat); have n1_ := am_ (blk_grown (g := gb748) (o := .cells #[.slice (some ad753) x749000_1.length co11] 29 (0, 0)) (bk_ BK748.out) hg (Kd.R_ne HO_4.out BK748.out (by decide))); have n2_ := am_ (hb); have n3_ := am_ (ho); clear HO_749000; clear BK748; clear HB; clear HO_4; have HO_749000 := n0_; have BK748 := n1_; have HB := n2_; have HO756 := n3_; clear n0_ n1_ n2_ n3_; clear ho hb hg hat; have hcz15_0 := bc_ BK748; have hfz15_0 := blk_frozen BK748.out 0; have p757 : 0 ≤ (0 : Int) := (by omega); have q757 : 0 < (x749000_1.length : Int) := od_; obtain ⟨ad757, e757, hx757_0⟩ := Kd.at_int (Kd.V_reads' HO_749000.out).2.2 0 p757 q757; obtain rfl : ad753 = ad757 := (by injection e757); have qi757 : (0 < x749000_1.length) = True := eq_true (by omega); (try rw [show ((0 : Int)).toNat = 0 from rfl] at hx757_0); (try rw [Addr.add_zero'] at hx757_0); replace p757 := eq_true p757; replace q757 := eq_true q757))
    go_ret2
    exact ⟨_, er_, kr_ HO756.out, bl_ HB.out⟩
   rw [if_neg c9] at H
   have c9b0 : ((rd x749000_1 0) == 1) = false := beq_eq_false_iff_ne.mpr c9
   have c9b1 : ((rd x749000_1 0) != 1) = true := bne_iff_ne.mpr c9
   replace H := Option.bind_eq_some_iff.mp H
   obtain ⟨⟨t758, t761⟩, A160, H⟩ := H
   (try dsimp only at H)
   have A16 := am_ A160
   clear A160
   have H' := am_ H
   clear H
   have hcz17_0 := bc_ BK748
   have hfz17_0 := blk_frozen BK748.out 0
   obtain ⟨Ao18, co18, eo18⟩ := Kd.V_slice HO_749000.out
   subst eo18
   go_wp2_with (first | ((with_reducible refine gate_callee (f := 52) rfl ?_); refine gl_ 7 Try.func52 #[.agg #[.slice Ao18 x749000_1.length co18]] ?_; (with_reducible refine (spec_IsSemigroup.calls k1 _ _ x749000_1 true _ ?side1 ?side2 A5.out).mono ?_); (case side1 => repeat (first | exact (Kd.V_reads' HO_749000.out).2.2 | (with_reducible refine Kd.C_alloc ?_ _) | (with_reducible refine Kd.C_drewN ?_ _) | (with_reducible refine Kd.C_drew ?_))); (case side2 => exact (Kd.V_reads' HO_749000.out).2.1); rintro e w19 ⟨rfl, hb⟩; refine ⟨_, rfl, ?_⟩; replace HO_4 := rb_ HO_4 hb; replace HO_749000 := am_ (Kd.V_below (by (with_reducible repeat (first | apply Kd.V_alloc | apply Kd.V_drewN | apply Kd.V_drew)); exact HO_749000.out) hb); replace BK748 := bb_ BK748 hb; replace HB := bs_ HB hb; (try clear hb); (try clear hb2); (try clear hk); (try clear hi); have hcz20_0 := bc_ BK748; have hfz20_0 := blk_frozen BK748.out 0; have p753 : 0 ≤ (0 : Int) := (by omega); have q753 : 0 < (x749000_1.length : Int) := od_; obtain ⟨ad753, e753, hx753_0⟩ := Kd.at_int (Kd.V_reads' HO_749000.out).2.2 0 p753 q753; cases e753; have qi753 : (0 < x749000_1.length) = True := eq_true (by omega); (try rw [show ((0 : Int)).toNat = 0 from rfl] at hx753_0); (try rw [Addr.add_zero'] at hx753_0); replace p753 := eq_true p753; replace q753 := eq_true q753) | ((with_reducible refine gate_builtin (b := .append) (xs := #[.tmp 8, .tmp 13]) rfl ?_); at_builtin; refine Kd.R_append (Kd.int .i64) (w0 := w) w.heap.size rfl (.tmp 8) (.tmp 13) 22 3 (.int .i64 0) 8 rfl Try.underlying22 info3 rfl (by decide) (by omega) u4 x4_1 (rd x749000_1 0) [.int .i64 (rd x749000_1 0)] (fun k_ => (w.heap.size ≤ k_)) (fun _ => False) rfl rfl ?aP (fun _ hk => hk.elim) ?aF ?aO ?aB ?aS ?aL ?_; (case aP => exact rfl); (case aB => exact (bl_ HB.out)); (case aF => exact (fun k_ hk => (Nat.le_trans (below_size (bl_ HB.out)) hk))); (case aO => exact (kr_ HO_4.out)); (case aS => exact (below_size (bl_ HB.out))); (case aL => have := LMc8.out; omega); intro v755 w21 ho hb hg hat; rw [← Ny754.out] at ho; have n0_ := am_ (Kd.V_afterv (ok := (fun k_ => (P0_0_ k_ ∨ w.heap.size ≤ k_) ∧ k_ ≠ gb748)) (by (with_reducible repeat (first | apply Kd.V_alloc | apply Kd.V_drewN | apply Kd.V_drew)); exact Kd.V_mono HO_749000.out (fun _ hk => ⟨⟨hk.1, hk.2.2⟩, hk.2.1⟩)) hg hat); have n1_ := am_ (blk_grown (g := gb748) (o := .cells #[.slice (some ad753) x749000_1.length co18] 29 (0, 0)) (bk_ BK748.out) hg (Kd.R_ne HO_4.out BK748.out (by decide))); have n2_ := am_ (hb); have n3_ := am_ (ho); clear HO_749000; clear BK748; clear HB; clear HO_4; have HO_749000 := n0_; have BK748 := n1_; have HB := n2_; have HO756 := n3_; clear n0_ n1_ n2_ n3_; clear ho hb hg hat; have hcz22_0 := bc_ BK748; have hfz22_0 := blk_frozen BK748.out 0; have p757 : 0 ≤ (0 : Int) := (by omega); have q757 : 0 < (x749000_1.length : Int) := od_; obtain ⟨ad757, e757, hx757_0⟩ := Kd.at_int (Kd.V_reads' HO_749000.out).2.2 0 p757 q757; obtain rfl : ad753 = ad757 := (by injection e757); have qi757 : (0 < x749000_1.length) = True := eq_true (by omega); (try rw [show ((0 : Int)).toNat = 0 from rfl] at hx757_0); (try rw [Addr.add_zero'] at hx757_0); replace p757 := eq_true p757; replace q757 := eq_true q757) | ((with_reducible refine gate_callee (f := 25) rfl ?_); refine gl_ 23 Try.func25 #[.agg #[.slice (some ad753) x749000_1.length co18]] ?_; (with_reducible refine (spec_BlowUp.calls k1 _ _ x749000_1 t758 t761 _ ?side1 ?side2 A16.out).mono ?_); (case side1 => repeat (first | exact (Kd.V_reads' HO_749000.out).2.2 | (with_reducible refine Kd.C_alloc ?_ _) | (with_reducible refine Kd.C_drewN ?_ _) | (with_reducible refine Kd.C_drew ?_))); (case side2 => exact (Kd.V_reads' HO_749000.out).2.1); rintro e w23 ⟨v759, rfl, ho0, hb⟩; refine ⟨_, rfl, ?_⟩; replace HO_749000 := am_ (Kd.V_elder' (by (with_reducible repeat (first | apply Kd.V_alloc | apply Kd.V_drewN | apply Kd.V_drew)); exact HO_749000.out) (Kd.R_base ho0) hb); have HO760 := am_ (Kd.R_lower (Kd.R_new' (Kd.R_newM (M := fun k_ => (w.heap.size ≤ k_)) ho0 (below_size (bl_ HB.out)) (fun k_ h_ => h_)) (Kd.R_lt (kr_ HO756.out))) (below_size (bl_ HB.out))); replace HO756 := am_ (Kd.R_elder' (kr_ HO756.out) (Kd.R_base ho0) hb); replace BK748 := bb_ BK748 hb; replace HB := bs_ HB hb; (try clear hb); (try clear hb2); (try clear hk); (try clear hi); (try clear ho0); obtain ⟨Ao24, co24, eo24⟩ := Kd.R_slice HO760.out; subst eo24; have hcz25_0 := bc_ BK748; have hfz25_0 := blk_frozen BK748.out 0))
   go_roundg k1
   case measure => have := HK1.out; omega
   case rel => exact ⟨(y754), (t758), (.slice Ao24 t758.length co24), H', ⟨by have := HK1.out; omega⟩, ⟨kr_ (Kd.R_mono (Kd.R_far (p := ⟨gb748, 0, none⟩) (Kd.R_types HO756.out BK748.out (by decide)) (fun _ hk => hk.2) (.slice Ao24 t758.length co24)) (fun _ hk => hk.1.1))⟩, ⟨Kd.V_mono (Kd.R_V (kr_ ((Kd.R_far (p := ⟨gb748, 0, none⟩) (Kd.R_types (Kd.R_types HO760.out BK748.out (by decide)) BK748.out (by decide)) (fun _ hk => hk.2) (.slice Ao24 t758.length co24))))) (fun k_ hk => by first | exact ⟨(.inr (hk.1)), hk.2⟩ | exact (.inr (hk)) | exact ⟨.inr hk.1.1.1.1, ⟨hk.1.1.2, hk.1.2⟩⟩)⟩, ⟨by (with_reducible repeat (first | refine blk_drewN ?_ _ | refine blk_drew ?_ | refine blk_alloc ?_ _)); refine blk_put (cs := #[.slice (some ad753) x749000_1.length co18]) ?_ 0 _ rfl; (with_reducible repeat (first | refine blk_drewN ?_ _ | refine blk_drew ?_ | refine blk_alloc ?_ _)); exact BK748.out⟩, ⟨bl_ HB.out⟩⟩
def spec_EqualSemigroup.f (k : Nat) (l0_0 : List Int) (l1_0 : List Int) : Option (Bool) := (spec_l2Same.f k l0_0 l1_0).bind fun t767 => (some t767)
theorem spec_EqualSemigroup.calls (k : Nat) (A0_0 : Option Addr) (c0_0 : Nat) (l0_0 : List Int) (A1_0 : Option Addr) (c1_0 : Nat) (l1_0 : List Int) (r : Bool) (w : World) (hr0_0 : Kd.C (Kd.int .i64) w A0_0 l0_0.length l0_0) (hc0_0 : l0_0.length ≤ c0_0) (hr1_0 : Kd.C (Kd.int .i64) w A1_0 l1_0.length l1_0) (hc1_0 : l1_0.length ≤ c1_0) (h : spec_EqualSemigroup.f k l0_0 l1_0 = some r) :
 Calls Try.prog 28 #[.agg #[.slice A0_0 l0_0.length c0_0], .agg #[.slice A1_0 l1_0.length c1_0]] w fun e w' => e = .returned (.bool r) ∧ Below w.heap.size w w' := by
 have hu29 := Try.underlying29
 have HR0_0 := am_ hr0_0
 have HC0_0 := am_ hc0_0
 clear hr0_0 hc0_0
 have HR1_0 := am_ hr1_0
 have HC1_0 := am_ hc1_0
 clear hr1_0 hc1_0
 have HB := am_ (Below.refl w.heap.size w)
 have H := h
 clear h
 unfold spec_EqualSemigroup.f at H
 obtain ⟨t767, A3, H⟩ := ob_ H
 (try dsimp only at H)
 obtain rfl := Option.some.inj H
 go_enter Try.func28, Try.ntmps28
 go_wp2_with (first | ((with_reducible refine gate_dst (N := 2) rfl ?_); refine be_ 2 #[.slice A0_0 l0_0.length c0_0] 29 fun gb765 hg w4 hbox hb => ?_; have BK765 := am_ (hbox); have GW765 := ge_ hg HB; have GE765 := ge_ hg HB; replace HB := bs_ HB hb; clear hb hbox hg) | ((with_reducible refine gate_dst (N := 3) rfl ?_); refine be_ 3 #[.slice A1_0 l1_0.length c1_0] 29 fun gb766 hg w5 hbox hb => ?_; have BK766 := am_ (hbox); have GW766 := ge_ hg HB; have GE766 := ge_ hg HB; replace HB := bs_ HB hb; have NB765_766 := nl_ hg BK765; have NB766_765 := ng_ hg BK765; replace BK765 := bb_ BK765 hb; clear hb hbox hg; have hnb6 := NB765_766.out; have hnc6 := NB766_765.out; have hcz7_0 := bc_ BK765; have hfz7_0 := blk_frozen BK765.out 0; have hcz8_0 := bc_ BK766; have hfz8_0 := blk_frozen BK766.out 0) | ((with_reducible refine gate_callee (f := 64) rfl ?_); refine gl_ 9 Try.func64 #[.slice A0_0 l0_0.length c0_0, .slice A1_0 l1_0.length c1_0] ?_; (with_reducible refine (spec_l2Same.calls k _ _ l0_0 _ _ l1_0 t767 _ ?side1 ?side2 ?side3 ?side4 A3.out).mono ?_); (case side1 => exact cs_ HR0_0 HB); (case side2 => exact HC0_0.out); (case side3 => exact cs_ HR1_0 HB); (case side4 => exact HC1_0.out); rintro e w' ⟨rfl, ⟨nd, rfl⟩⟩; refine ⟨_, rfl, ?_⟩))
 go_ret
 exact ⟨er_, bl_ HB.out⟩
def spec_IsArf.f (k : Nat) (l0_0 : List Int) : Option (Bool) := (spec_ArfFailure.f k l0_0).bind fun bt769 => ((spec_IsSemigroup.f k l0_0).bind fun t773 => (if t773 = true then (some (!bt769.2.2.2)) else (some false)))
theorem spec_IsArf.calls (k : Nat) (A0_0 : Option Addr) (c0_0 : Nat) (l0_0 : List Int) (r : Bool) (w : World) (hr0_0 : Kd.C (Kd.int .i64) w A0_0 l0_0.length l0_0) (hc0_0 : l0_0.length ≤ c0_0) (h : spec_IsArf.f k l0_0 = some r) :
 Calls Try.prog 29 #[.agg #[.slice A0_0 l0_0.length c0_0]] w fun e w' => e = .returned (.bool r) ∧ Below w.heap.size w w' := by
 have hu29 := Try.underlying29
 have HR0_0 := am_ hr0_0
 have HC0_0 := am_ hc0_0
 clear hr0_0 hc0_0
 have HB := am_ (Below.refl w.heap.size w)
 have H := h
 clear h
 unfold spec_IsArf.f at H
 replace H := Option.bind_eq_some_iff.mp H
 obtain ⟨⟨t769, t770, t771, t772⟩, A20, H⟩ := H
 (try dsimp only at H)
 have A2 := am_ A20
 clear A20
 obtain ⟨t773, A3, H⟩ := ob_ H
 (try dsimp only at H)
 by_cases c4 : t773 = true
 ·subst c4
  rw [if_pos rfl] at H
  obtain rfl := Option.some.inj H
  go_enter Try.func29, Try.ntmps29
  go_wp2_with (first | ((with_reducible refine gate_dst (N := 1) rfl ?_); refine be_ 1 #[.slice A0_0 l0_0.length c0_0] 29 fun gb768 hg w5 hbox hb => ?_; have BK768 := am_ (hbox); have GW768 := ge_ hg HB; have GE768 := ge_ hg HB; replace HB := bs_ HB hb; clear hb hbox hg; have hcz6_0 := bc_ BK768; have hfz6_0 := blk_frozen BK768.out 0) | ((with_reducible refine gate_callee (f := 23) rfl ?_); refine gl_ 9 Try.func23 #[.agg #[.slice A0_0 l0_0.length c0_0]] ?_; (with_reducible refine (spec_ArfFailure.calls k _ _ l0_0 t769 t770 t771 t772 _ ?side1 ?side2 A2.out).mono ?_); (case side1 => exact cs_ HR0_0 HB); (case side2 => exact HC0_0.out); rintro e w7 ⟨rfl, hb⟩; refine ⟨_, rfl, ?_⟩; replace BK768 := bb_ BK768 hb; replace HB := bs_ HB hb; (try clear hb); (try clear hb2); (try clear hk); (try clear hi); have hcz8_0 := bc_ BK768; have hfz8_0 := blk_frozen BK768.out 0) | ((with_reducible refine gate_callee (f := 52) rfl ?_); refine gl_ 15 Try.func52 #[.agg #[.slice A0_0 l0_0.length c0_0]] ?_; (with_reducible refine (spec_IsSemigroup.calls k _ _ l0_0 true _ ?side1 ?side2 A3.out).mono ?_); (case side1 => exact cs_ HR0_0 HB); (case side2 => exact HC0_0.out); rintro e w9 ⟨rfl, hb⟩; refine ⟨_, rfl, ?_⟩; replace BK768 := bb_ BK768 hb; replace HB := bs_ HB hb; (try clear hb); (try clear hb2); (try clear hk); (try clear hi)))
  go_ret
  exact ⟨er_, bl_ HB.out⟩
 obtain rfl := Bool.eq_false_iff.mpr c4
 rw [if_neg nf_] at H
 obtain rfl := Option.some.inj H
 go_enter Try.func29, Try.ntmps29
 go_wp2_with (first | ((with_reducible refine gate_dst (N := 1) rfl ?_); refine be_ 1 #[.slice A0_0 l0_0.length c0_0] 29 fun gb768 hg w10 hbox hb => ?_; have BK768 := am_ (hbox); have GW768 := ge_ hg HB; have GE768 := ge_ hg HB; replace HB := bs_ HB hb; clear hb hbox hg; have hcz11_0 := bc_ BK768; have hfz11_0 := blk_frozen BK768.out 0) | ((with_reducible refine gate_callee (f := 23) rfl ?_); refine gl_ 9 Try.func23 #[.agg #[.slice A0_0 l0_0.length c0_0]] ?_; (with_reducible refine (spec_ArfFailure.calls k _ _ l0_0 t769 t770 t771 t772 _ ?side1 ?side2 A2.out).mono ?_); (case side1 => exact cs_ HR0_0 HB); (case side2 => exact HC0_0.out); rintro e w12 ⟨rfl, hb⟩; refine ⟨_, rfl, ?_⟩; replace BK768 := bb_ BK768 hb; replace HB := bs_ HB hb; (try clear hb); (try clear hb2); (try clear hk); (try clear hi); have hcz13_0 := bc_ BK768; have hfz13_0 := blk_frozen BK768.out 0) | ((with_reducible refine gate_callee (f := 52) rfl ?_); refine gl_ 15 Try.func52 #[.agg #[.slice A0_0 l0_0.length c0_0]] ?_; (with_reducible refine (spec_IsSemigroup.calls k _ _ l0_0 false _ ?side1 ?side2 A3.out).mono ?_); (case side1 => exact cs_ HR0_0 HB); (case side2 => exact HC0_0.out); rintro e w14 ⟨rfl, hb⟩; refine ⟨_, rfl, ?_⟩; replace BK768 := bb_ BK768 hb; replace HB := bs_ HB hb; (try clear hb); (try clear hb2); (try clear hk); (try clear hi)))
 go_ret
 exact ⟨er_, bl_ HB.out⟩
def laws_sameInts.l0 : Nat → List Int → List Int → Int → Option (Bool)
 | 0, _, _, _ => none
 | k + 1, x0, x1, x5 => if x5 < (x0.length : Int) then (if 0 ≤ x5 then (if x5 < (x1.length : Int) then (if (rd x0 x5) = (rd x1 x5) then (laws_sameInts.l0 k x0 x1 (wrap64 (x5 + 1))) else (some false)) else (none)) else (none)) else (some true)
def laws_sameInts.f (k : Nat) (l0 : List Int) (l1 : List Int) : Option (Bool) := if (l0.length : Int) = (l1.length : Int) then (laws_sameInts.l0 k l0 l1 0) else (some false)
theorem laws_sameInts.calls (k : Nat) (A0 : Option Addr) (c0 : Nat) (l0 : List Int) (A1 : Option Addr) (c1 : Nat) (l1 : List Int) (r : Bool) (w : World) (hr0 : Kd.C (Kd.int .i64) w A0 l0.length l0) (hc0 : l0.length ≤ c0) (hr1 : Kd.C (Kd.int .i64) w A1 l1.length l1) (hc1 : l1.length ≤ c1) (h : laws_sameInts.f k l0 l1 = some r) :
 Calls Try.prog 30 #[.slice A0 l0.length c0, .slice A1 l1.length c1] w fun e w' => e = .returned (.bool r) ∧ Drawn0 w w' := by
 have HR0 := am_ hr0
 have HC0 := am_ hc0
 clear hr0 hc0
 have HR1 := am_ hr1
 have HC1 := am_ hc1
 clear hr1 hc1
 have H := h
 clear h
 unfold laws_sameInts.f at H
 by_cases c3 : (l0.length : Int) = (l1.length : Int)
 rotate_left
 ·rw [if_neg c3] at H
  have c3b0 : ((l0.length : Int) == (l1.length : Int)) = false := beq_eq_false_iff_ne.mpr c3
  have c3b1 : ((l0.length : Int) != (l1.length : Int)) = true := bne_iff_ne.mpr c3
  have c3b2 : (l0.length == l1.length) = false := by first | simpa using c3 | (simp at c3 ⊢; omega)
  obtain rfl := Option.some.inj H
  go_enter Try.func30, Try.ntmps30
  go_wp2
  repeat (go_quiet (fail); try go_wp2)
  go_ret
  exact ⟨sd_, dr_⟩
 rw [if_pos c3] at H
 have c3b0 : ((l0.length : Int) == (l1.length : Int)) = true := beq_iff_eq.mpr c3
 have c3b1 : ((l0.length : Int) != (l1.length : Int)) = false := bne_eq_false_iff_eq.mpr c3
 have c3b2 : (l0.length == l1.length) = true := by first | simpa using c3 | (simp at c3 ⊢; omega)
 clear c3
 have H' := am_ H
 clear H
 go_enter Try.func30, Try.ntmps30
 go_wp2
 repeat (go_quiet (fail); try go_wp2)
 go_loopg [5] k (fun kq v5 w' => ∃ (x5_1 : Int), v5 = .int .i64 x5_1 ∧ Aside0 (laws_sameInts.l0 kq l0 l1 x5_1 = some r) ∧ Aside0 (kq ≤ k) ∧ Drawn0 w w')
 case atStart => exact ⟨(0), sd_, H', ⟨Nat.le_refl _⟩, dr_⟩
 case round =>
  clear H'
  try clear c1
  try clear p2
  obtain ⟨x5_1, rfl, HA, HK1, ⟨m1, rfl⟩⟩ := hrel
  cases gk with
  | zero => exact absurd HA.out (by simp [laws_sameInts.l0])
  | succ k1 =>
   have H := HA.out
   clear HA
   simp only [laws_sameInts.l0] at H
   by_cases c4 : x5_1 < (l0.length : Int)
   rotate_left
   ·rw [if_neg c4] at H
    have c4b0 : decide (x5_1 < (l0.length : Int)) = false := decide_eq_false c4
    clear c4
    obtain rfl := Option.some.inj H
    go_wp2
    repeat (go_quiet (fail); try go_wp2)
    go_ret
    exact ⟨sd_, dr_⟩
   rw [if_pos c4] at H
   have c4b0 := decide_eq_true c4
   clear c4
   obtain ⟨c5, H⟩ := in_ H
   have c5b0 := decide_eq_true c5
   clear c5
   obtain ⟨c6, H⟩ := in_ H
   have c6b0 := decide_eq_true c6
   clear c6
   by_cases c7 : (rd l0 x5_1) = (rd l1 x5_1)
   ·rw [if_pos c7] at H
    have c7b0 : ((rd l0 x5_1) == (rd l1 x5_1)) = true := beq_iff_eq.mpr c7
    have c7b1 : ((rd l0 x5_1) != (rd l1 x5_1)) = false := bne_eq_false_iff_eq.mpr c7
    clear c7
    have H' := am_ H
    clear H
    obtain ⟨p774, q774, ad774, e774, hx774_0⟩ := ri_ (Kd.at_int HR0.out x5_1)
    cases e774
    obtain ⟨p775, q775, ad775, e775, hx775_0⟩ := ri_ (Kd.at_int HR1.out x5_1)
    cases e775
    go_wp2
    repeat (go_quiet (fail); try go_wp2)
    go_roundg k1
    case measure => have := HK1.out; omega
    case rel => exact ⟨(wrap64 (x5_1 + 1)), sd_, H', ⟨by have := HK1.out; omega⟩, dr_⟩
   rw [if_neg c7] at H
   have c7b0 : ((rd l0 x5_1) == (rd l1 x5_1)) = false := beq_eq_false_iff_ne.mpr c7
   have c7b1 : ((rd l0 x5_1) != (rd l1 x5_1)) = true := bne_iff_ne.mpr c7
   obtain rfl := Option.some.inj H
   obtain ⟨p774, q774, ad774, e774, hx774_0⟩ := ri_ (Kd.at_int HR0.out x5_1)
   cases e774
   obtain ⟨p775, q775, ad775, e775, hx775_0⟩ := ri_ (Kd.at_int HR1.out x5_1)
   cases e775
   go_wp2
   repeat (go_quiet (fail); try go_wp2)
   go_ret
   exact ⟨sd_, dr_⟩
def spec_Contains.f (k : Nat) (l0_0 : List Int) (a1 : Int) : Option (Bool) := (spec_IsSemigroup.f k l0_0).bind fun t777 => (if t777 = true then ((spec_l3Has.f k l0_0 a1).bind fun t778 => (some t778)) else (some false))
theorem spec_Contains.calls (k : Nat) (A0_0 : Option Addr) (c0_0 : Nat) (l0_0 : List Int) (a1 : Int) (r : Bool) (w : World) (hr0_0 : Kd.C (Kd.int .i64) w A0_0 l0_0.length l0_0) (hc0_0 : l0_0.length ≤ c0_0) (h : spec_Contains.f k l0_0 a1 = some r) :
 Calls Try.prog 31 #[.agg #[.slice A0_0 l0_0.length c0_0], .int .i64 a1] w fun e w' => e = .returned (.bool r) ∧ Below w.heap.size w w' := by
 have hu29 := Try.underlying29
 have HR0_0 := am_ hr0_0
 have HC0_0 := am_ hc0_0
 clear hr0_0 hc0_0
 have HB := am_ (Below.refl w.heap.size w)
 have H := h
 clear h
 unfold spec_Contains.f at H
 obtain ⟨t777, A3, H⟩ := ob_ H
 (try dsimp only at H)
 by_cases c4 : t777 = true
 ·subst c4
  rw [if_pos rfl] at H
  obtain ⟨t778, A5, H⟩ := ob_ H
  (try dsimp only at H)
  obtain rfl := Option.some.inj H
  go_enter Try.func31, Try.ntmps31
  go_wp2_with (first | ((with_reducible refine gate_dst (N := 2) rfl ?_); refine be_ 2 #[.slice A0_0 l0_0.length c0_0] 29 fun gb776 hg w6 hbox hb => ?_; have BK776 := am_ (hbox); have GW776 := ge_ hg HB; have GE776 := ge_ hg HB; replace HB := bs_ HB hb; clear hb hbox hg; have hcz7_0 := bc_ BK776; have hfz7_0 := blk_frozen BK776.out 0) | ((with_reducible refine gate_callee (f := 52) rfl ?_); refine gl_ 6 Try.func52 #[.agg #[.slice A0_0 l0_0.length c0_0]] ?_; (with_reducible refine (spec_IsSemigroup.calls k _ _ l0_0 true _ ?side1 ?side2 A3.out).mono ?_); (case side1 => exact cs_ HR0_0 HB); (case side2 => exact HC0_0.out); rintro e w8 ⟨rfl, hb⟩; refine ⟨_, rfl, ?_⟩; replace BK776 := bb_ BK776 hb; replace HB := bs_ HB hb; (try clear hb); (try clear hb2); (try clear hk); (try clear hi); have hcz9_0 := bc_ BK776; have hfz9_0 := blk_frozen BK776.out 0) | (go_at_call 65; (with_reducible refine (spec_l3Has.calls k _ _ l0_0 a1 t778 _ ?side1 ?side2 A5.out).mono ?_); (case side1 => exact cs_ HR0_0 HB); (case side2 => exact HC0_0.out); rintro e w10 ⟨rfl, hb⟩; replace BK776 := bb_ BK776 hb; replace HB := bs_ HB hb; (try clear hb); (try clear hb2); (try clear hk); (try clear hi)))
  go_ret
  exact ⟨er_, bl_ HB.out⟩
 obtain rfl := Bool.eq_false_iff.mpr c4
 rw [if_neg nf_] at H
 obtain rfl := Option.some.inj H
 go_enter Try.func31, Try.ntmps31
 go_wp2_with (first | ((with_reducible refine gate_dst (N := 2) rfl ?_); refine be_ 2 #[.slice A0_0 l0_0.length c0_0] 29 fun gb776 hg w11 hbox hb => ?_; have BK776 := am_ (hbox); have GW776 := ge_ hg HB; have GE776 := ge_ hg HB; replace HB := bs_ HB hb; clear hb hbox hg; have hcz12_0 := bc_ BK776; have hfz12_0 := blk_frozen BK776.out 0) | ((with_reducible refine gate_callee (f := 52) rfl ?_); refine gl_ 6 Try.func52 #[.agg #[.slice A0_0 l0_0.length c0_0]] ?_; (with_reducible refine (spec_IsSemigroup.calls k _ _ l0_0 false _ ?side1 ?side2 A3.out).mono ?_); (case side1 => exact cs_ HR0_0 HB); (case side2 => exact HC0_0.out); rintro e w13 ⟨rfl, hb⟩; refine ⟨_, rfl, ?_⟩; replace BK776 := bb_ BK776 hb; replace HB := bs_ HB hb; (try clear hb); (try clear hb2); (try clear hk); (try clear hi)))
 go_ret
 exact ⟨er_, bl_ HB.out⟩
def impl_Contains.f (k : Nat) (l0_0 : List Int) (a1 : Int) : Option (Bool) := if a1 < 0 then (some false) else ((impl_IsSemigroup.f k l0_0).bind fun t780 => (if t780 = true then (if a1 ≥ 200 then (some true) else (if 0 < (l0_0.length : Int) then ((impl_leasts.f k l0_0 (rd l0_0 0)).bind fun t782 => (if (rd l0_0 0) = 0 then (none) else (if 0 ≤ (Int.tmod a1 (rd l0_0 0)) then (if (Int.tmod a1 (rd l0_0 0)) < (t782.length : Int) then (some (decide ((rd t782 (Int.tmod a1 (rd l0_0 0))) ≤ a1))) else (none)) else (none)))) else (none))) else (some false)))
def impl_Contains.T3 : Bool × List (List Nat × List Nat) := (true, [([], []), ([0], [0]), ([1], [1]), ([2], [2]), ([3, 2], [2, 3]), ([2], [2]), ([5, 2], [2, 5]), ([6, 2], [2, 6]), ([7, 2], [2, 7]), ([4, 8, 2, 2], [2, 4, 8]), ([2], [2]), ([2], [2]), ([11, 2], [2, 11]), ([12, 2], [2, 12]), ([13, 2], [2, 13]), ([10, 14, 2], [2, 10, 14]), ([9, 15, 2], [2, 9, 15]), ([16, 2], [2, 16]), ([2], [2]), ([17, 18, 2], [2, 17, 18]), ([2, 19], [2, 19]), ([20, 9, 0, 1, 2, 3, 4, 5, 6, 7, 8, 9, 10, 11, 12, 13, 14, 15, 16, 17, 18, 19, 20], [20])])
def impl_Contains.B3 : List Nat := [0, 1, 3, 7, 15, 7, 39, 103, 231, 511, 7, 7, 2055, 6151, 14343, 31751, 65535, 131071, 7, 524287, 1048575, 2097151]
theorem impl_Contains.tab3 : rtab .any (opsOf Try.f66 3) = impl_Contains.T3 := by kernel_rfl
theorem impl_Contains.bits3 : waitsOk impl_Contains.T3.2 impl_Contains.B3 = true := by kernel_rfl
theorem impl_Contains.calls (k : Nat) (A0_0 : Option Addr) (c0_0 : Nat) (l0_0 : List Int) (a1 : Int) (r : Bool) (w : World) (hr0_0 : Kd.C (Kd.int .i64) w A0_0 l0_0.length l0_0) (hc0_0 : l0_0.length ≤ c0_0) (h : impl_Contains.f k l0_0 a1 = some r) :
 Calls Try.prog 66 #[.agg #[.slice A0_0 l0_0.length c0_0], .int .i64 a1] w fun e w' => e = .returned (.bool r) ∧ Below w.heap.size w w' := by
 have hu29 := Try.underlying29
 have HR0_0 := am_ hr0_0
 have HC0_0 := am_ hc0_0
 clear hr0_0 hc0_0
 have HB := am_ (Below.refl w.heap.size w)
 have H := h
 clear h
 unfold impl_Contains.f at H
 by_cases c3 : a1 < 0
 ·rw [if_pos c3] at H
  have c3b0 := decide_eq_true c3
  clear c3
  obtain rfl := Option.some.inj H
  go_enter Try.func66, Try.ntmps66
  go_wp2_with (first | ((with_reducible refine gate_dst (N := 2) rfl ?_); refine be_ 2 #[.slice A0_0 l0_0.length c0_0] 29 fun gb779 hg w4 hbox hb => ?_; have BK779 := am_ (hbox); have GW779 := ge_ hg HB; have GE779 := ge_ hg HB; replace HB := bs_ HB hb; clear hb hbox hg))
  go_ret
  exact ⟨er_, bl_ HB.out⟩
 rw [if_neg c3] at H
 have c3b0 : decide (a1 < 0) = false := decide_eq_false c3
 clear c3
 obtain ⟨t780, A5, H⟩ := ob_ H
 (try dsimp only at H)
 by_cases c6 : t780 = true
 rotate_left
 ·obtain rfl := Bool.eq_false_iff.mpr c6
  rw [if_neg nf_] at H
  obtain rfl := Option.some.inj H
  go_enter Try.func66, Try.ntmps66
  go_wp2_with (first | ((with_reducible refine gate_dst (N := 2) rfl ?_); refine be_ 2 #[.slice A0_0 l0_0.length c0_0] 29 fun gb779 hg w24 hbox hb => ?_; have BK779 := am_ (hbox); have GW779 := ge_ hg HB; have GE779 := ge_ hg HB; replace HB := bs_ HB hb; clear hb hbox hg; have hcz25_0 := bc_ BK779; have hfz25_0 := blk_frozen BK779.out 0) | (go_at_call 49; (with_reducible refine (impl_IsSemigroup.calls k _ _ l0_0 false _ ?side1 ?side2 A5.out).mono ?_); (case side1 => exact cs_ HR0_0 HB); (case side2 => exact HC0_0.out); rintro e w26 ⟨rfl, hb⟩; replace BK779 := bb_ BK779 hb; replace HB := bs_ HB hb; (try clear hb); (try clear hb2); (try clear hk); (try clear hi)))
  go_ret
  exact ⟨er_, bl_ HB.out⟩
 subst c6
 rw [if_pos rfl] at H
 by_cases c7 : a1 ≥ 200
 ·rw [if_pos c7] at H
  have c7b0 : decide (200 ≤ a1) = true := decide_eq_true c7
  clear c7
  obtain rfl := Option.some.inj H
  go_enter Try.func66, Try.ntmps66
  try go_wp2_with (first | ((with_reducible refine gate_dst (N := 2) rfl ?_); refine be_ 2 #[.slice A0_0 l0_0.length c0_0] 29 fun gb779 hg w8 hbox hb => ?_; have BK779 := am_ (hbox); have GW779 := ge_ hg HB; have GE779 := ge_ hg HB; replace HB := bs_ HB hb; clear hb hbox hg; have hcz9_0 := bc_ BK779; have hfz9_0 := blk_frozen BK779.out 0) | (go_at_call 49; (with_reducible refine (impl_IsSemigroup.calls k _ _ l0_0 true _ ?side1 ?side2 A5.out).mono ?_); (case side1 => exact cs_ HR0_0 HB); (case side2 => exact HC0_0.out); rintro e w10 ⟨rfl, hb⟩; replace BK779 := bb_ BK779 hb; replace HB := bs_ HB hb; (try clear hb); (try clear hb2); (try clear hk); (try clear hi)))
  replace BK779 := am_ (blk_drew BK779.out)
  replace HB := am_ (below_drew1 HB.out)
  refine start_ (n := 22) (S := fun w' => True) (ds := []) (fl_ 22 0) (by kernel_rfl) rfl rfl trivial (fun hHeld => ?_); refine with_tabW impl_Contains.tab3 impl_Contains.bits3 (fun HT_ HW_ => ?_)
  generalize w10.drew = w11 at BK779 HB hHeld ⊢
  refine pu_ 0 12 (fl_ 22 1) ?_
  refine pu_ 1 13 (fl_ 22 2) ?_
  refine pu_ 2 14 (fl_ 22 3) ?_
  refine un_ 3 15 (fl_ 22 4) ?_
  refine un_ 4 16 (fl_ 22 5) ?_
  refine un_ 5 17 (fl_ 22 6) ?_
  refine un_ 6 18 (fl_ 22 7) ?_
  refine un_ 7 19 (fl_ 22 8) ?_
  refine un_ 8 20 (fl_ 22 9) ?_
  refine un_ 9 21 (fl_ 22 10) ?_
  refine un_ 10 22 (fl_ 22 11) ?_
  refine un_ 11 23 (fl_ 22 12) ?_
  refine un_ 12 24 (fl_ 22 13) ?_
  refine un_ 13 25 (fl_ 22 14) ?_
  refine un_ 14 26 (fl_ 22 15) ?_
  refine un_ 15 27 (fl_ 22 16) ?_
  refine un_ 16 28 (fl_ 22 17) ?_
  refine un_ 17 29 (fl_ 22 18) ?_
  refine un_ 18 30 (fl_ 22 19) ?_
  refine un_ 19 31 (fl_ 22 20) ?_
  refine pu_ 20 32 (fl_ 22 21) ?_
  refine pu_ 21 4 (fl_ 22 22) ?_
  refine done_ (done_of HT_.out (by kernel_rfl)) ?_
  try go_wp2
  go_ret
  exact ⟨er_, bl_ HB.out⟩
 rw [if_neg c7] at H
 have c7b0 : decide (200 ≤ a1) = false := decide_eq_false c7
 clear c7
 obtain ⟨c12, H⟩ := in_ H
 have c12b0 := decide_eq_true c12
 have c12b1 : decide (0 < l0_0.length) = true := decide_eq_true (by omega)
 (try have c12b1t := of_decide_eq_true c12b1)
 clear c12
 obtain ⟨t782, A13, H⟩ := ob_ H
 (try dsimp only at H)
 obtain ⟨c14, H⟩ := ip_ H
 have c14b0 : ((rd l0_0 0) == 0) = false := beq_eq_false_iff_ne.mpr c14
 have c14b1 : ((rd l0_0 0) != 0) = true := bne_iff_ne.mpr c14
 obtain ⟨ji15, hji15⟩ : ∃ j_ : Int, (Int.tmod a1 (rd l0_0 0)) = j_ := ⟨_, rfl⟩
 replace H : (if 0 ≤ (ji15) then (if (ji15) < (t782.length : Int) then (some (decide ((rd t782 (ji15)) ≤ a1))) else (none)) else (none)) = some r := by first | (rw [hji15] at H; exact H) | (simp only [hji15] at H ⊢; exact H)
 (try rw [hji15] at A5)
 (try rw [hji15] at A13)
 obtain ⟨c16, H⟩ := in_ H
 have c16b0 := decide_eq_true c16
 clear c16
 obtain ⟨c17, H⟩ := in_ H
 have c17b0 := decide_eq_true c17
 clear c17
 obtain rfl := Option.some.inj H
 go_enter Try.func66, Try.ntmps66
 try go_wp2_with (first | ((with_reducible refine gate_dst (N := 2) rfl ?_); refine be_ 2 #[.slice A0_0 l0_0.length c0_0] 29 fun gb779 hg w18 hbox hb => ?_; have BK779 := am_ (hbox); have GW779 := ge_ hg HB; have GE779 := ge_ hg HB; replace HB := bs_ HB hb; clear hb hbox hg; have hcz19_0 := bc_ BK779; have hfz19_0 := blk_frozen BK779.out 0) | (go_at_call 49; (with_reducible refine (impl_IsSemigroup.calls k _ _ l0_0 true _ ?side1 ?side2 A5.out).mono ?_); (case side1 => exact cs_ HR0_0 HB); (case side2 => exact HC0_0.out); rintro e w20 ⟨rfl, hb⟩; replace BK779 := bb_ BK779 hb; replace HB := bs_ HB hb; (try clear hb); (try clear hb2); (try clear hk); (try clear hi)))
 replace BK779 := am_ (blk_drew BK779.out)
 replace HB := am_ (below_drew1 HB.out)
 have p781 : 0 ≤ (0 : Int) := (by omega)
 have q781 : 0 < (l0_0.length : Int) := od_
 obtain ⟨ad781, e781, hx781_0⟩ := Kd.at_int HR0_0.out 0 p781 q781
 have hw781_0 := hx781_0
 (try rw [show ((0 : Int)).toNat = 0 from rfl] at hw781_0)
 (try rw [show 0 * 1 = 0 from rfl] at hw781_0)
 (try rw [Addr.add_zero'] at hw781_0)
 cases e781
 have qi781 : (0 < l0_0.length) = True := eq_true (by omega)
 (try rw [show ((0 : Int)).toNat = 0 from rfl] at hx781_0)
 (try rw [Addr.add_zero'] at hx781_0)
 replace hx781_0 := (HB.out.cell (World.block_lt_of_cell? w _ hx781_0)).trans hx781_0
 replace p781 := eq_true p781
 replace q781 := eq_true q781
 have p785 : 0 ≤ (0 : Int) := (by omega)
 have q785 : 0 < (l0_0.length : Int) := od_
 obtain ⟨ad785, e785, hx785_0⟩ := Kd.at_int HR0_0.out 0 p785 q785
 have hw785_0 := hx785_0
 (try rw [show ((0 : Int)).toNat = 0 from rfl] at hw785_0)
 (try rw [show 0 * 1 = 0 from rfl] at hw785_0)
 (try rw [Addr.add_zero'] at hw785_0)
 obtain rfl : ad781 = ad785 := (by injection e785)
 have qi785 : (0 < l0_0.length) = True := eq_true (by omega)
 (try rw [show ((0 : Int)).toNat = 0 from rfl] at hx785_0)
 (try rw [Addr.add_zero'] at hx785_0)
 replace hx785_0 := (HB.out.cell (World.block_lt_of_cell? w _ hx785_0)).trans hx785_0
 replace p785 := eq_true p785
 replace q785 := eq_true q785
 refine start_ (n := 22) (S := fun w' => w'.cell? ⟨gb779, 0, none⟩ = some (.slice (some ad781) l0_0.length c0_0) ∧ w'.cell? ad781 = some (.int .i64 (rd l0_0 0)) ∧ w'.cell? ad781 = some (.int .i64 (rd l0_0 0))) (ds := []) (fl_ 22 0) (by kernel_rfl) rfl rfl ⟨(blk_cell BK779.out 0).trans rfl, ((HB.out.cell (World.block_lt_of_cell? w _ hw781_0)).trans hw781_0), ((HB.out.cell (World.block_lt_of_cell? w _ hw785_0)).trans hw785_0)⟩ (fun hHeld => ?_); refine with_tabW impl_Contains.tab3 impl_Contains.bits3 (fun HT_ HW_ => ?_)
 generalize w20.drew = w21 at BK779 HB hx781_0 hx785_0 hHeld ⊢
 refine pu_ 0 12 (fl_ 22 1) ?_
 refine pu_ 1 13 (fl_ 22 2) ?_
 refine pu_ 2 14 (fl_ 22 3) ?_
 refine pu_ 3 15 (fl_ 22 4) ?_
 refine pu_ 5 17 (fm_ 22 47) ?_
 refine pu_ 10 22 (fm_ 22 1071) ?_
 refine pu_ 11 23 (fm_ 22 3119) ?_
 refine pu_ 18 30 (fm_ 22 265263) ?_
 refine ta_ 4 16 (fm_ 22 265279) ?_
 refine ta_ 6 18 (fm_ 22 265343) ?_
 refine pu_ 7 19 (fm_ 22 265471) ?_
 refine ta_ 8 20 (fm_ 22 265727) ?_
 refine ta_ 12 24 (fm_ 22 269823) ?_
 refine pu_ 13 25 (fm_ 22 278015) ?_
 refine ta_ 14 26 (fm_ 22 294399) ?_
 refine pu_ 15 27 (fm_ 22 327167) ?_
 refine on_ 9 21 (fm_ 22 327679) fun K hK => ?_
 refine go_ Try.func90 #[.slice (some ad781) l0_0.length c0_0, .int .i64 (rd l0_0 0)] ?_
 with_reducible refine (impl_leasts.calls k _ _ l0_0 (rd l0_0 0) t782 _ ?side1 ?side2 A13.out).mono ?_
 (case side1 => exact cs_ HR0_0 HB)
 (case side2 => exact HC0_0.out)
 rintro e w22 ⟨v783, rfl, ho0, hb⟩
 refine ⟨_, rfl, ?_⟩
 have HO784 := rl_ ho0 HB
 replace BK779 := bb_ BK779 hb
 replace HB := bs_ HB hb
 (try clear hb)
 (try clear hb2)
 (try clear hk)
 (try clear hi)
 (try clear ho0)
 obtain ⟨Ao23, co23, eo23⟩ := Kd.R_slice HO784.out
 (first | subst eo23 | (injection eo23 with f1_ f2_ f3_; have f4_ := f1_.symm; have f5_ := f3_.symm; clear f1_ f2_ f3_; subst f4_; subst f5_))
 obtain ⟨p786, q786, ad786, e786, hx786_0⟩ := ri_ (Kd.at_int (Kd.R_reads' HO784.out).2.2 (ji15))
 cases e786
 refine hK.out _ _ ⟨(blk_cell BK779.out 0).trans rfl, ((HB.out.cell (World.block_lt_of_cell? w _ hw781_0)).trans hw781_0), ((HB.out.cell (World.block_lt_of_cell? w _ hw785_0)).trans hw785_0)⟩ (fun hHeld => ?_)
 clear hK K
 refine no_ 21 ?_
 refine pu_ 16 28 (fm_ 22 393215) ?_
 have HSall_ := hHeld
 refine on_ 17 29 (fl_ 22 19) fun K hK => ?_
 refine value_ (w1 := ?_) (v := ?_) (by rfl) rfl ?_ ?_
 rotate_left 2
 ·go_simp
  constructor
  ·rfl
  rfl
 refine hK.out _ _ HSall_ (fun hHeld => ?_)
 clear hK K HSall_
 refine no_ 29 ?_
 refine pu_ 19 31 (fl_ 22 20) ?_
 refine pu_ 20 32 (fl_ 22 21) ?_
 refine pu_ 21 4 (fl_ 22 22) ?_
 refine done_ (done_of HT_.out (by kernel_rfl)) ?_
 try go_wp2
 go_ret
 exact ⟨by first | rfl | (simp [errW_none, errW_some] <;> rfl) | (simp only [← hji15]; first | rfl | (simp [errW_none, errW_some] <;> rfl)) | (simp [*, errW_none, errW_some] <;> rfl), bl_ HB.out⟩
mutual
def impl_IsWithin.j0 : Nat → Bool → List Int → List Int → Option (Bool)
 | 0, _, _, _ => none
 | k + 1, x14, x788000, x789000 => if x14 = true then (some false) else (impl_IsWithin.l0 k x788000 (x788000.length : Int) 0 x789000)
def impl_IsWithin.l0 : Nat → List Int → Int → Int → List Int → Option (Bool)
 | 0, _, _, _, _ => none
 | k + 1, x16, x17, x18, x789000 => if x18 < x17 then (if 0 ≤ x18 then (if x18 < (x16.length : Int) then ((impl_Contains.f k x789000 (rd x16 x18)).bind fun t792 => (if t792 = true then (impl_IsWithin.l0 k x16 x17 (wrap64 (x18 + 1)) x789000) else (some false))) else (none)) else (none)) else (some true)
end
def impl_IsWithin.f (k : Nat) (l0_0 : List Int) (l1_0 : List Int) : Option (Bool) := (impl_IsSemigroup.f k l0_0).bind fun t789 => (if t789 = true then ((impl_IsSemigroup.f k l1_0).bind fun t790 => (impl_IsWithin.j0 k (!t790) l0_0 l1_0)) else (impl_IsWithin.j0 k true l0_0 l1_0))
theorem impl_IsWithin.calls (k : Nat) (A0_0 : Option Addr) (c0_0 : Nat) (l0_0 : List Int) (A1_0 : Option Addr) (c1_0 : Nat) (l1_0 : List Int) (r : Bool) (w : World) (hr0_0 : Kd.C (Kd.int .i64) w A0_0 l0_0.length l0_0) (hc0_0 : l0_0.length ≤ c0_0) (hr1_0 : Kd.C (Kd.int .i64) w A1_0 l1_0.length l1_0) (hc1_0 : l1_0.length ≤ c1_0) (h : impl_IsWithin.f k l0_0 l1_0 = some r) :
 Calls Try.prog 32 #[.agg #[.slice A0_0 l0_0.length c0_0], .agg #[.slice A1_0 l1_0.length c1_0]] w fun e w' => e = .returned (.bool r) ∧ Below w.heap.size w w' := by
 have hu29 := Try.underlying29
 have HR0_0 := am_ hr0_0
 have HC0_0 := am_ hc0_0
 clear hr0_0 hc0_0
 have HR1_0 := am_ hr1_0
 have HC1_0 := am_ hc1_0
 clear hr1_0 hc1_0
 have HB := am_ (Below.refl w.heap.size w)
 have H := h
 clear h
 unfold impl_IsWithin.f at H
 have HC3 := am_ H
 clear H
 go_enter Try.func32, Try.ntmps32
 go_upto_region 1 with (first | ((with_reducible refine gate_dst (N := 2) rfl ?_); refine be_ 2 #[.slice A0_0 l0_0.length c0_0] 29 fun gb787 hg w4 hbox hb => ?_; have BK787 := am_ (hbox); have GW787 := ge_ hg HB; have GE787 := ge_ hg HB; replace HB := bs_ HB hb; clear hb hbox hg) | ((with_reducible refine gate_dst (N := 3) rfl ?_); refine be_ 3 #[.slice A1_0 l1_0.length c1_0] 29 fun gb788 hg w5 hbox hb => ?_; have BK788 := am_ (hbox); have GW788 := ge_ hg HB; have GE788 := ge_ hg HB; replace HB := bs_ HB hb; have NB787_788 := nl_ hg BK787; have NB788_787 := ng_ hg BK787; replace BK787 := bb_ BK787 hb; clear hb hbox hg))
 (try simp only [Act.put, List.setIfInBounds_toArray, List.set_cons_zero, List.set_cons_succ])
 go_cut [14] (fun v14 wc => ∃ (kq : Nat) (x14_2 : Bool), v14 = .bool x14_2 ∧ Aside0 (impl_IsWithin.j0 kq x14_2 l0_0 l1_0 = some r) ∧ Aside0 (kq ≤ k) ∧ Aside0 (wc.heap[gb787]? = some (.cells #[(.slice A0_0 l0_0.length c0_0)] 29 (0, 0))) ∧ Aside0 (wc.heap[gb788]? = some (.cells #[(.slice A1_0 l1_0.length c1_0)] 29 (0, 0))) ∧ Aside0 (Below w.heap.size w wc))
 case first =>
  have H := HC3.out
  clear HC3
  obtain ⟨t789, A6, H⟩ := ob_ H
  (try dsimp only at H)
  by_cases c7 : t789 = true
  ·subst c7
   rw [if_pos rfl] at H
   obtain ⟨t790, A8, H⟩ := ob_ H
   (try dsimp only at H)
   have H' := am_ H
   clear H
   have hnb9 := NB787_788.out
   have hnc9 := NB788_787.out
   have hcz10_0 := bc_ BK787
   have hfz10_0 := blk_frozen BK787.out 0
   go_wp2_with (first | ((with_reducible refine gate_callee (f := 49) rfl ?_); refine gl_ 8 Try.func49 #[.agg #[.slice A0_0 l0_0.length c0_0]] ?_; (with_reducible refine (impl_IsSemigroup.calls k _ _ l0_0 true _ ?side1 ?side2 A6.out).mono ?_); (case side1 => exact cs_ HR0_0 HB); (case side2 => exact HC0_0.out); rintro e w11 ⟨rfl, hb⟩; refine ⟨_, rfl, ?_⟩; replace BK787 := bb_ BK787 hb; replace BK788 := bb_ BK788 hb; replace HB := bs_ HB hb; (try clear hb); (try clear hb2); (try clear hk); (try clear hi); have hcz12_0 := bc_ BK788; have hfz12_0 := blk_frozen BK788.out 0) | (go_at_call 49; (with_reducible refine (impl_IsSemigroup.calls k _ _ l1_0 t790 _ ?side1 ?side2 A8.out).mono ?_); (case side1 => exact cs_ HR1_0 HB); (case side2 => exact HC1_0.out); rintro e w13 ⟨rfl, hb⟩; replace BK787 := bb_ BK787 hb; replace BK788 := bb_ BK788 hb; replace HB := bs_ HB hb; (try clear hb); (try clear hb2); (try clear hk); (try clear hi)))
   go_meet
   case rel => exact ⟨_, (!t790), sd_, H', ⟨le_⟩, ⟨bk_ BK787.out⟩, ⟨bk_ BK788.out⟩, ⟨bl_ HB.out⟩⟩
  obtain rfl := Bool.eq_false_iff.mpr c7
  rw [if_neg nf_] at H
  have H' := am_ H
  clear H
  have hnb14 := NB787_788.out
  have hnc14 := NB788_787.out
  have hcz15_0 := bc_ BK787
  have hfz15_0 := blk_frozen BK787.out 0
  go_wp2_with (first | ((with_reducible refine gate_callee (f := 49) rfl ?_); refine gl_ 8 Try.func49 #[.agg #[.slice A0_0 l0_0.length c0_0]] ?_; (with_reducible refine (impl_IsSemigroup.calls k _ _ l0_0 false _ ?side1 ?side2 A6.out).mono ?_); (case side1 => exact cs_ HR0_0 HB); (case side2 => exact HC0_0.out); rintro e w16 ⟨rfl, hb⟩; refine ⟨_, rfl, ?_⟩; replace BK787 := bb_ BK787 hb; replace BK788 := bb_ BK788 hb; replace HB := bs_ HB hb; (try clear hb); (try clear hb2); (try clear hk); (try clear hi)))
  go_meet
  case rel => exact ⟨_, (true), sd_, H', ⟨le_⟩, ⟨bk_ BK787.out⟩, ⟨bk_ BK788.out⟩, ⟨bl_ HB.out⟩⟩
 case rest =>
  clear HC3
  try clear c1
  try clear p2
  try clear c3
  try clear c4
  try clear c7
  try clear c9
  try clear c14
  try clear hcz10_0
  try clear hcz12_0
  try clear hcz15_0
  try clear hfz10_0
  try clear hfz12_0
  try clear hfz15_0
  obtain ⟨kq, x14_2, rfl, HA, HJ2, BK787, BK788, HB⟩ := hcut
  cases kq with
  | zero => exact absurd HA.out (by simp [impl_IsWithin.j0])
  | succ kj2 =>
   have H := HA.out
   clear HA
   simp only [impl_IsWithin.j0] at H
   by_cases c17 : x14_2 = true
   ·subst c17
    rw [if_pos rfl] at H
    obtain rfl := Option.some.inj H
    go_wp2
    go_ret
    exact ⟨er_, bl_ HB.out⟩
   obtain rfl := Bool.eq_false_iff.mpr c17
   rw [if_neg nf_] at H
   have H' := am_ H
   clear H
   have hnb18 := NB787_788.out
   have hnc18 := NB788_787.out
   have hcz19_0 := bc_ BK787
   have hfz19_0 := blk_frozen BK787.out 0
   go_wp2
   go_loopg [18] kj2 (fun kq v18 w' => ∃ (x18_2 : Int), v18 = .int .i64 x18_2 ∧ Aside0 (impl_IsWithin.l0 kq l0_0 (l0_0.length : Int) x18_2 l1_0 = some r) ∧ Aside0 (kq ≤ kj2) ∧ Aside0 (w'.heap[gb787]? = some (.cells #[(.slice A0_0 l0_0.length c0_0)] 29 (0, 0))) ∧ Aside0 (w'.heap[gb788]? = some (.cells #[(.slice A1_0 l1_0.length c1_0)] 29 (0, 0))) ∧ Aside0 (Below w.heap.size w w'))
   case atStart => exact ⟨(0), sd_, H', ⟨Nat.le_refl _⟩, ⟨bk_ BK787.out⟩, ⟨bk_ BK788.out⟩, ⟨bl_ HB.out⟩⟩
   case round =>
    clear H'
    try clear c1
    try clear p2
    try clear c3
    try clear c4
    try clear c7
    try clear c9
    try clear c14
    try clear c17
    try clear c18
    try clear hcz10_0
    try clear hcz12_0
    try clear hcz15_0
    try clear hcz19_0
    try clear hfz10_0
    try clear hfz12_0
    try clear hfz15_0
    try clear hfz19_0
    obtain ⟨x18_2, rfl, HA, HK2, BK787, BK788, HB⟩ := hrel
    cases gk with
    | zero => exact absurd HA.out (by simp [impl_IsWithin.l0])
    | succ k2 =>
     have H := HA.out
     clear HA
     simp only [impl_IsWithin.l0] at H
     by_cases c20 : x18_2 < (l0_0.length : Int)
     rotate_left
     ·rw [if_neg c20] at H
      have c20b0 : decide (x18_2 < (l0_0.length : Int)) = false := decide_eq_false c20
      clear c20
      obtain rfl := Option.some.inj H
      go_wp2
      go_ret
      exact ⟨er_, bl_ HB.out⟩
     rw [if_pos c20] at H
     have c20b0 := decide_eq_true c20
     clear c20
     obtain ⟨c21, H⟩ := in_ H
     have c21b0 := decide_eq_true c21
     clear c21
     obtain ⟨c22, H⟩ := in_ H
     have c22b0 := decide_eq_true c22
     clear c22
     obtain ⟨t792, A23, H⟩ := ob_ H
     (try dsimp only at H)
     by_cases c24 : t792 = true
     ·subst c24
      rw [if_pos rfl] at H
      have H' := am_ H
      clear H
      obtain ⟨p791, q791, ad791, e791, hx791_0⟩ := ri_ (Kd.at_int HR0_0.out x18_2)
      cases e791
      replace hx791_0 := (HB.out.cell (World.block_lt_of_cell? w _ hx791_0)).trans hx791_0
      have hnb25 := NB788_787.out
      have hnc25 := NB787_788.out
      have hcz26_0 := bc_ BK788
      have hfz26_0 := blk_frozen BK788.out 0
      go_wp2_with (first | ((with_reducible refine gate_callee (f := 66) rfl ?_); refine gl_ 24 Try.func66 #[.agg #[.slice A1_0 l1_0.length c1_0], .int .i64 (rd l0_0 x18_2)] ?_; (with_reducible refine (impl_Contains.calls k2 _ _ l1_0 (rd l0_0 x18_2) true _ ?side1 ?side2 A23.out).mono ?_); (case side1 => exact cs_ HR1_0 HB); (case side2 => exact HC1_0.out); rintro e w27 ⟨rfl, hb⟩; refine ⟨_, rfl, ?_⟩; replace BK787 := bb_ BK787 hb; replace BK788 := bb_ BK788 hb; replace HB := bs_ HB hb; (try clear hb); (try clear hb2); (try clear hk); (try clear hi)))
      go_roundg k2
      case measure => have := HJ2.out; have := HK2.out; omega
      case rel => exact ⟨(wrap64 (x18_2 + 1)), sd_, H', ⟨by have := HJ2.out; have := HK2.out; omega⟩, ⟨bk_ BK787.out⟩, ⟨bk_ BK788.out⟩, ⟨bl_ HB.out⟩⟩
     obtain rfl := Bool.eq_false_iff.mpr c24
     rw [if_neg nf_] at H
     obtain rfl := Option.some.inj H
     obtain ⟨p791, q791, ad791, e791, hx791_0⟩ := ri_ (Kd.at_int HR0_0.out x18_2)
     cases e791
     replace hx791_0 := (HB.out.cell (World.block_lt_of_cell? w _ hx791_0)).trans hx791_0
     have hnb28 := NB788_787.out
     have hnc28 := NB787_788.out
     have hcz29_0 := bc_ BK788
     have hfz29_0 := blk_frozen BK788.out 0
     go_wp2_with (first | ((with_reducible refine gate_callee (f := 66) rfl ?_); refine gl_ 24 Try.func66 #[.agg #[.slice A1_0 l1_0.length c1_0], .int .i64 (rd l0_0 x18_2)] ?_; (with_reducible refine (impl_Contains.calls k2 _ _ l1_0 (rd l0_0 x18_2) false _ ?side1 ?side2 A23.out).mono ?_); (case side1 => exact cs_ HR1_0 HB); (case side2 => exact HC1_0.out); rintro e w30 ⟨rfl, hb⟩; refine ⟨_, rfl, ?_⟩; replace BK787 := bb_ BK787 hb; replace BK788 := bb_ BK788 hb; replace HB := bs_ HB hb; (try clear hb); (try clear hb2); (try clear hk); (try clear hi)))
     go_ret
     exact ⟨er_, bl_ HB.out⟩
mutual
def impl_ElementAt.j0 : Nat → Int → Bool → List Int → Option (Int)
 | 0, _, _, _ => none
 | k + 1, x1, x14, x794000 => if x14 = true then (some (-1)) else ((impl_table.f k x794000 600).bind fun t796 => (impl_ElementAt.l0 k x1 t796 (t796.length : Int) 0))
def impl_ElementAt.l0 : Nat → Int → List Bool → Int → Int → Option (Int)
 | 0, _, _, _, _ => none
 | k + 1, x1, x16, x17, x18 => if x18 < x17 then (if 0 ≤ x18 then (if x18 < (x16.length : Int) then (if rdOf false x16 x18 = true then (if x1 = 0 then (some x18) else (impl_ElementAt.l0 k (wrap64 (x1 - 1)) x16 x17 (wrap64 (x18 + 1)))) else (impl_ElementAt.l0 k x1 x16 x17 (wrap64 (x18 + 1)))) else (none)) else (none)) else (some (-1))
end
def impl_ElementAt.f (k : Nat) (l0_0 : List Int) (a1 : Int) : Option (Int) := (impl_IsSemigroup.f k l0_0).bind fun t794 => (if t794 = true then ((impl_within.f a1 0 200).bind fun t795 => (impl_ElementAt.j0 k a1 (!t795) l0_0)) else (impl_ElementAt.j0 k a1 true l0_0))
theorem impl_ElementAt.calls (k : Nat) (A0_0 : Option Addr) (c0_0 : Nat) (l0_0 : List Int) (a1 : Int) (r : Int) (w : World) (hr0_0 : Kd.C (Kd.int .i64) w A0_0 l0_0.length l0_0) (hc0_0 : l0_0.length ≤ c0_0) (h : impl_ElementAt.f k l0_0 a1 = some r) :
 Calls Try.prog 33 #[.agg #[.slice A0_0 l0_0.length c0_0], .int .i64 a1] w fun e w' => e = .returned (.int .i64 r) ∧ Below w.heap.size w w' := by
 have hu29 := Try.underlying29
 have HR0_0 := am_ hr0_0
 have HC0_0 := am_ hc0_0
 clear hr0_0 hc0_0
 have HB := am_ (Below.refl w.heap.size w)
 have H := h
 clear h
 unfold impl_ElementAt.f at H
 have HC3 := am_ H
 clear H
 go_enter Try.func33, Try.ntmps33
 go_upto_region 1 with (first | ((with_reducible refine gate_dst (N := 2) rfl ?_); refine be_ 2 #[.slice A0_0 l0_0.length c0_0] 29 fun gb793 hg w4 hbox hb => ?_; have BK793 := am_ (hbox); have GW793 := ge_ hg HB; have GE793 := ge_ hg HB; replace HB := bs_ HB hb; clear hb hbox hg))
 (try simp only [Act.put, List.setIfInBounds_toArray, List.set_cons_zero, List.set_cons_succ])
 go_cut [14] (fun v14 wc => ∃ (kq : Nat) (x14_2 : Bool), v14 = .bool x14_2 ∧ Aside0 (impl_ElementAt.j0 kq a1 x14_2 l0_0 = some r) ∧ Aside0 (kq ≤ k) ∧ Aside0 (wc.heap[gb793]? = some (.cells #[(.slice A0_0 l0_0.length c0_0)] 29 (0, 0))) ∧ Aside0 (Below w.heap.size w wc))
 case first =>
  have H := HC3.out
  clear HC3
  obtain ⟨t794, A5, H⟩ := ob_ H
  (try dsimp only at H)
  by_cases c6 : t794 = true
  ·subst c6
   rw [if_pos rfl] at H
   obtain ⟨t795, A7, H⟩ := ob_ H
   (try dsimp only at H)
   have H' := am_ H
   clear H
   have hcz8_0 := bc_ BK793
   have hfz8_0 := blk_frozen BK793.out 0
   go_wp2_with (first | ((with_reducible refine gate_callee (f := 49) rfl ?_); refine gl_ 8 Try.func49 #[.agg #[.slice A0_0 l0_0.length c0_0]] ?_; (with_reducible refine (impl_IsSemigroup.calls k _ _ l0_0 true _ ?side1 ?side2 A5.out).mono ?_); (case side1 => exact cs_ HR0_0 HB); (case side2 => exact HC0_0.out); rintro e w9 ⟨rfl, hb⟩; refine ⟨_, rfl, ?_⟩; replace BK793 := bb_ BK793 hb; replace HB := bs_ HB hb; (try clear hb); (try clear hb2); (try clear hk); (try clear hi)) | (go_at_call 67; (with_reducible refine (impl_within.calls a1 0 200 t795 _ A7.out).mono ?_); rintro e w' ⟨rfl, ⟨nd, rfl⟩⟩))
   go_meet
   case rel => exact ⟨_, (!t795), sd_, H', ⟨le_⟩, ⟨bk_ BK793.out⟩, ⟨bl_ HB.out⟩⟩
  obtain rfl := Bool.eq_false_iff.mpr c6
  rw [if_neg nf_] at H
  have H' := am_ H
  clear H
  have hcz10_0 := bc_ BK793
  have hfz10_0 := blk_frozen BK793.out 0
  go_wp2_with (first | ((with_reducible refine gate_callee (f := 49) rfl ?_); refine gl_ 8 Try.func49 #[.agg #[.slice A0_0 l0_0.length c0_0]] ?_; (with_reducible refine (impl_IsSemigroup.calls k _ _ l0_0 false _ ?side1 ?side2 A5.out).mono ?_); (case side1 => exact cs_ HR0_0 HB); (case side2 => exact HC0_0.out); rintro e w11 ⟨rfl, hb⟩; refine ⟨_, rfl, ?_⟩; replace BK793 := bb_ BK793 hb; replace HB := bs_ HB hb; (try clear hb); (try clear hb2); (try clear hk); (try clear hi)))
  go_meet
  case rel => exact ⟨_, (true), sd_, H', ⟨le_⟩, ⟨bk_ BK793.out⟩, ⟨bl_ HB.out⟩⟩
 case rest =>
  clear HC3
  try clear p2
  try clear c3
  try clear c4
  try clear c6
  try clear hcz10_0
  try clear hcz8_0
  try clear hfz10_0
  try clear hfz8_0
  obtain ⟨kq, x14_2, rfl, HA, HJ2, BK793, HB⟩ := hcut
  cases kq with
  | zero => exact absurd HA.out (by simp [impl_ElementAt.j0])
  | succ kj2 =>
   have H := HA.out
   clear HA
   simp only [impl_ElementAt.j0] at H
   by_cases c12 : x14_2 = true
   ·subst c12
    rw [if_pos rfl] at H
    obtain rfl := Option.some.inj H
    go_wp2
    go_ret
    exact ⟨er_, bl_ HB.out⟩
   obtain rfl := Bool.eq_false_iff.mpr c12
   rw [if_neg nf_] at H
   obtain ⟨t796, A13, H⟩ := ob_ H
   (try dsimp only at H)
   have H' := am_ H
   clear H
   have hcz14_0 := bc_ BK793
   have hfz14_0 := blk_frozen BK793.out 0
   go_wp2_with (first | ((with_reducible refine gate_callee (f := 50) rfl ?_); refine gl_ 16 Try.func50 #[.agg #[.slice A0_0 l0_0.length c0_0], .int .i64 600] ?_; (with_reducible refine (impl_table.calls kj2 _ _ l0_0 600 t796 _ ?side1 ?side2 A13.out).mono ?_); (case side1 => exact cs_ HR0_0 HB); (case side2 => exact HC0_0.out); rintro e w15 ⟨v797, rfl, ho0, hb⟩; refine ⟨_, rfl, ?_⟩; have HO798 := rl_ ho0 HB; replace BK793 := bb_ BK793 hb; replace HB := bs_ HB hb; (try clear hb); (try clear hb2); (try clear hk); (try clear hi); (try clear ho0); obtain ⟨Ao16, co16, eo16⟩ := Kd.R_slice HO798.out; subst eo16))
   go_loopg [1, 18] kj2 (fun kq v1 v18 w' => ∃ (x1_2 : Int) (x18_2 : Int), v1 = .int .i64 x1_2 ∧ v18 = .int .i64 x18_2 ∧ Aside0 (impl_ElementAt.l0 kq x1_2 t796 (t796.length : Int) x18_2 = some r) ∧ Aside0 (kq ≤ kj2) ∧ Aside0 (Kd.R Kd.bool 4 w' w.heap.size (fun _ => True) (.slice Ao16 t796.length co16) t796) ∧ Aside0 (w'.heap[gb793]? = some (.cells #[(.slice A0_0 l0_0.length c0_0)] 29 (0, 0))) ∧ Aside0 (Below w.heap.size w w'))
   case atStart => exact ⟨(a1), (0), sd_, sd_, H', ⟨Nat.le_refl _⟩, ⟨kr_ HO798.out⟩, ⟨bk_ BK793.out⟩, ⟨bl_ HB.out⟩⟩
   case round =>
    clear H'
    try clear c1
    try clear p2
    try clear c3
    try clear c4
    try clear c5
    try clear c6
    try clear c12
    try clear hcz10_0
    try clear hcz14_0
    try clear hcz8_0
    try clear hfz10_0
    try clear hfz14_0
    try clear hfz8_0
    obtain ⟨x1_2, x18_2, rfl, rfl, HA, HK2, HO_16, BK793, HB⟩ := hrel
    cases gk with
    | zero => exact absurd HA.out (by simp [impl_ElementAt.l0])
    | succ k2 =>
     have H := HA.out
     clear HA
     simp only [impl_ElementAt.l0] at H
     by_cases c17 : x18_2 < (t796.length : Int)
     rotate_left
     ·rw [if_neg c17] at H
      have c17b0 : decide (x18_2 < (t796.length : Int)) = false := decide_eq_false c17
      clear c17
      obtain rfl := Option.some.inj H
      go_wp2
      go_ret
      exact ⟨er_, bl_ HB.out⟩
     rw [if_pos c17] at H
     have c17b0 := decide_eq_true c17
     clear c17
     obtain ⟨c18, H⟩ := in_ H
     have c18b0 := decide_eq_true c18
     clear c18
     obtain ⟨c19, H⟩ := in_ H
     have c19b0 := decide_eq_true c19
     clear c19
     obtain ⟨bq20, hbq20⟩ : ∃ b_ : Bool, b_ = (rdOf false t796 x18_2) := ⟨_, rfl⟩
     replace H : (if bq20 = true then (if x1_2 = 0 then (some x18_2) else (impl_ElementAt.l0 k2 (wrap64 (x1_2 - 1)) t796 (t796.length : Int) (wrap64 (x18_2 + 1)))) else (impl_ElementAt.l0 k2 x1_2 t796 (t796.length : Int) (wrap64 (x18_2 + 1)))) = some r := by rw [← hbq20] at H; exact H
     have Nbq20 := am_ hbq20
     clear hbq20
     by_cases c21 : bq20 = true
     rotate_left
     ·obtain rfl := Bool.eq_false_iff.mpr c21
      rw [if_neg nf_] at H
      have H' := am_ H
      clear H
      obtain ⟨p799, q799, ad799, e799, hx799_0⟩ := ri_ (Kd.at_bool (Kd.R_reads' HO_16.out).2.2 x18_2)
      (try rw [← Nbq20.out] at hx799_0)
      cases e799
      go_wp2
      go_roundg k2
      case measure => have := HJ2.out; have := HK2.out; omega
      case rel => exact ⟨(x1_2), (wrap64 (x18_2 + 1)), sd_, sd_, H', ⟨by have := HJ2.out; have := HK2.out; omega⟩, ⟨kr_ HO_16.out⟩, ⟨bk_ BK793.out⟩, ⟨bl_ HB.out⟩⟩
     subst c21
     rw [if_pos rfl] at H
     by_cases c22 : x1_2 = 0
     ·rw [if_pos c22] at H
      have c22b0 : (x1_2 == 0) = true := beq_iff_eq.mpr c22
      have c22b1 : (x1_2 != 0) = false := bne_eq_false_iff_eq.mpr c22
      clear c22
      obtain rfl := Option.some.inj H
      obtain ⟨p799, q799, ad799, e799, hx799_0⟩ := ri_ (Kd.at_bool (Kd.R_reads' HO_16.out).2.2 x18_2)
      (try rw [← Nbq20.out] at hx799_0)
      cases e799
      go_wp2
      go_ret
      exact ⟨er_, bl_ HB.out⟩
     rw [if_neg c22] at H
     have c22b0 : (x1_2 == 0) = false := beq_eq_false_iff_ne.mpr c22
     have c22b1 : (x1_2 != 0) = true := bne_iff_ne.mpr c22
     have H' := am_ H
     clear H
     obtain ⟨p799, q799, ad799, e799, hx799_0⟩ := ri_ (Kd.at_bool (Kd.R_reads' HO_16.out).2.2 x18_2)
     (try rw [← Nbq20.out] at hx799_0)
     cases e799
     go_wp2
     go_roundg k2
     case measure => have := HJ2.out; have := HK2.out; omega
     case rel => exact ⟨(wrap64 (x1_2 - 1)), (wrap64 (x18_2 + 1)), sd_, sd_, H', ⟨by have := HJ2.out; have := HK2.out; omega⟩, ⟨kr_ HO_16.out⟩, ⟨bk_ BK793.out⟩, ⟨bl_ HB.out⟩⟩
end Go.Proofs.Ytddgegejeoihaaa.PFnArf
end
