/- Part 13 of the claim for FnArf, of the chain from the printed contracts and the plain laws to the row. It has no condition of its own. -/
import Derived.Test.YtddgegejeoihaaaG1ZFnArf
import Derived.Test.YtddgegejeoihaaaG2ZFnArf
import Derived.Test.YtddgegejeoihaaaG5ZFnArf
import Derived.Test.YtddgegejeoihaaaG7ZFnArf
import Derived.Test.YtddgegejeoihaaaG9ZFnArf
import Derived.Test.YtddgegejeoihaaaG10ZFnArf
import Derived.Test.YtddgegejeoihaaaG11ZFnArf
import Derived.Test.YtddgegejeoihaaaG12ZFnArf
import Derived.Test.YtddgegejeoihaaaG0ZFnArf
section
namespace Go.Proofs.Ytddgegejeoihaaa.PFnArf
open Go.RowKit Go.Proofs.YtddgegejeoihaaaW.PrintWords Go.Proofs.YtddgegejeoihaaaW.PrintLast Go.Proofs.YtddgegejeoihaaaW.PrintMore
open Go.Proofs.Ytddgegejeoihaaa.SortW (bk_ kr_ t_ f_)
open Go.Proofs.Ytddgegejeoihaaa.SqW
attribute [local go_sem] max2_int min2_int max_two min_two max_three min_three max_four min_four
set_option maxHeartbeats 8000000
set_option maxRecDepth 100000
set_option linter.unusedVariables false
set_option linter.unusedSimpArgs false
mutual
def laws_FnArf.j0 : Nat → Bool → Bool → List Int → Bool → Bool → List Int → List Int → List Int → Option (Bool)
 | 0, _, _, _, _, _, _, _, _ => none
 | k + 1, x5, x9, x22, x23, x151, x805000, x810000, x819000 => if x151 = true then (none) else (if x5 = true then ((impl_ArfClosure.f k x810000).bind fun bt851 => ((impl_IsArf.f k x810000).bind fun t856 => (if t856 = true then ((impl_IsWithin.f k x805000 x810000).bind fun t857 => (if t857 = true then (if bt851.2 = true then ((spec_EqualSemigroup.f k bt851.1 x810000).bind fun t858 => (if t858 = true then (laws_FnArf.j1 k x9 x22 x23 x819000) else (none))) else (none)) else (none))) else (none)))) else (laws_FnArf.j1 k x9 x22 x23 x819000))
def laws_FnArf.j1 : Nat → Bool → List Int → Bool → List Int → Option (Bool)
 | 0, _, _, _, _ => none
 | k + 1, x9, x22, x23, x819000 => laws_FnArf.l0 k x9 x22 x23 0 0 x819000
def laws_FnArf.l0 : Nat → Bool → List Int → Bool → Int → Int → List Int → Option (Bool)
 | 0, _, _, _, _, _, _ => none
 | k + 1, x9, x22, x23, x28, x29, x819000 => if x29 < (x22.length : Int) then (if x9 = true then (laws_FnArf.j3 k x9 x22 x23 x28 x29 x23 x819000) else (laws_FnArf.j3 k x9 x22 x23 x28 x29 false x819000)) else (laws_FnArf.j3 k x9 x22 x23 x28 x29 false x819000)
def laws_FnArf.j3 : Nat → Bool → List Int → Bool → Int → Int → Bool → List Int → Option (Bool)
 | 0, _, _, _, _, _, _, _ => none
 | k + 1, x9, x22, x23, x28, x29, x186, x819000 => if x186 = true then (if 0 ≤ x29 then (if x29 < (x22.length : Int) then ((impl_ElementAt.f k x819000 (wrap64 (x29 + 1))).bind fun t860 => (if t860 = (wrap64 (x28 + (rd x22 x29))) then (laws_FnArf.l0 k x9 x22 x23 (wrap64 (x28 + (rd x22 x29))) (wrap64 (x29 + 1)) x819000) else (none))) else (none)) else (none)) else (some true)
end
def laws_FnArf.f (k : Nat) (l0 : List Int) : Option (Bool) := (laws_big.f l0).bind fun t800 => (if t800 = true then (some true) else ((spec_DrawArfClosure.f k l0).bind fun t801 => ((impl_ArfClosure.f k t801).bind fun bt805 => ((spec_ArfClosure.f k t801).bind fun bt810 => ((spec_DrawIsArf.f k l0).bind fun t815 => ((impl_IsArf.f k t815).bind fun t819 => ((impl_ArfFailure.f k t815).bind fun bt820 => ((spec_ArfFailure.f k t815).bind fun bt824 => ((impl_BlowUp.f k t815).bind fun bt828 => ((spec_BlowUp.f k t815).bind fun bt833 => ((impl_MultiplicitySequence.f k t815).bind fun bt838 => ((spec_MultiplicitySequence.f k t815).bind fun bt842 => (if (bt805.2 != bt810.2) = true then (none) else ((spec_EqualSemigroup.f k bt805.1 bt810.1).bind fun t846 => (if t846 = true then ((spec_IsArf.f k t815).bind fun t847 => (if (t819 != t847) = true then (none) else (if bt820.1 = bt824.1 then (if bt820.2.1 = bt824.2.1 then (if bt820.2.2.1 = bt824.2.2.1 then (if (bt820.2.2.2 != bt824.2.2.2) = true then (none) else (if (bt828.2 != bt833.2) = true then (none) else ((spec_EqualSemigroup.f k bt828.1 bt833.1).bind fun t848 => (if t848 = true then (if (bt838.2 != bt842.2) = true then (none) else ((laws_sameInts.f k bt838.1 bt842.1).bind fun t849 => (if t849 = true then (if bt820.2.2.2 = true then (if t819 = true then (none) else ((spec_Contains.f k t815 (wrap64 ((wrap64 (bt820.1 + bt820.2.1)) - bt820.2.2.1))).bind fun t850 => (laws_FnArf.j0 k bt805.2 t819 bt838.1 bt838.2 t850 t801 bt805.1 t815))) else (laws_FnArf.j0 k bt805.2 t819 bt838.1 bt838.2 false t801 bt805.1 t815)) else (none)))) else (none))))) else (none)) else (none)) else (none)))) else (none))))))))))))))))
theorem laws_FnArf.calls (k : Nat) (A0 : Option Addr) (c0 : Nat) (l0 : List Int) (r : Bool) (w : World) (hr0 : Kd.C (Kd.int .u8) w A0 l0.length l0) (hc0 : l0.length ≤ c0) (h : laws_FnArf.f k l0 = some r) :
 Calls Try.prog 4 #[.slice A0 l0.length c0] w fun e w' => e = .returned (.bool r) ∧ Below w.heap.size w w' := by
 have hu29 := Try.underlying29
 have HR0 := am_ hr0
 have HC0 := am_ hc0
 clear hr0 hc0
 have HB := am_ (Below.refl w.heap.size w)
 have H := h
 clear h
 unfold laws_FnArf.f at H
 obtain ⟨t800, A2, H⟩ := ob_ H
 (try dsimp only at H)
 by_cases c3 : t800 = true
 ·subst c3
  rw [if_pos rfl] at H
  obtain rfl := Option.some.inj H
  go_enter Try.func4, Try.ntmps4
  go_wp2_with (first | ((with_reducible refine gate_callee (f := 16) rfl ?_); refine gl_ 31 Try.func16 #[.slice A0 l0.length c0] ?_; (with_reducible refine (laws_big.calls _ _ l0 true _ ?side1 ?side2 A2.out).mono ?_); (case side1 => repeat (first | exact HR0.out | (with_reducible refine Kd.C_alloc ?_ _) | (with_reducible refine Kd.C_drewN ?_ _) | (with_reducible refine Kd.C_drew ?_))); (case side2 => exact HC0.out); rintro e w' ⟨rfl, ⟨nd, rfl⟩⟩; refine ⟨_, rfl, ?_⟩))
  go_ret
  exact ⟨er_, bl_ HB.out⟩
 obtain rfl := Bool.eq_false_iff.mpr c3
 rw [if_neg nf_] at H
 obtain ⟨t801, A4, H⟩ := ob_ H
 (try dsimp only at H)
 replace H := Option.bind_eq_some_iff.mp H
 obtain ⟨⟨t805, t808⟩, A50, H⟩ := H
 (try dsimp only at H)
 have A5 := am_ A50
 clear A50
 replace H := Option.bind_eq_some_iff.mp H
 obtain ⟨⟨t810, t813⟩, A60, H⟩ := H
 (try dsimp only at H)
 have A6 := am_ A60
 clear A60
 obtain ⟨t815, A7, H⟩ := ob_ H
 (try dsimp only at H)
 obtain ⟨t819, A8, H⟩ := ob_ H
 (try dsimp only at H)
 replace H := Option.bind_eq_some_iff.mp H
 obtain ⟨⟨t820, t821, t822, t823⟩, A90, H⟩ := H
 (try dsimp only at H)
 have A9 := am_ A90
 clear A90
 replace H := Option.bind_eq_some_iff.mp H
 obtain ⟨⟨t824, t825, t826, t827⟩, A100, H⟩ := H
 (try dsimp only at H)
 have A10 := am_ A100
 clear A100
 replace H := Option.bind_eq_some_iff.mp H
 obtain ⟨⟨t828, t831⟩, A110, H⟩ := H
 (try dsimp only at H)
 have A11 := am_ A110
 clear A110
 replace H := Option.bind_eq_some_iff.mp H
 obtain ⟨⟨t833, t836⟩, A120, H⟩ := H
 (try dsimp only at H)
 have A12 := am_ A120
 clear A120
 replace H := Option.bind_eq_some_iff.mp H
 obtain ⟨⟨t838, t841⟩, A130, H⟩ := H
 (try dsimp only at H)
 have A13 := am_ A130
 clear A130
 replace H := Option.bind_eq_some_iff.mp H
 obtain ⟨⟨t842, t845⟩, A140, H⟩ := H
 (try dsimp only at H)
 have A14 := am_ A140
 clear A140
 obtain ⟨c15, H⟩ := ip_ H
 have c15b0 : (t808 != t813) = false := by simpa using c15
 (try (have c15b1 : decide (t808 = t813) = true := by simpa using c15))
 (try (have c15b2 : (t808 == t813) = true := by simpa using c15))
 clear c15
 obtain ⟨t846, A16, H⟩ := ob_ H
 (try dsimp only at H)
 by_cases c17 : t846 = true
 rotate_left
 ·obtain rfl := Bool.eq_false_iff.mpr c17
  rw [if_neg nf_] at H
  exact absurd H (by simp)
 subst c17
 rw [if_pos rfl] at H
 obtain ⟨t847, A18, H⟩ := ob_ H
 (try dsimp only at H)
 obtain ⟨c19, H⟩ := ip_ H
 have c19b0 : (t819 != t847) = false := by simpa using c19
 (try (have c19b1 : decide (t819 = t847) = true := by simpa using c19))
 (try (have c19b2 : (t819 == t847) = true := by simpa using c19))
 clear c19
 obtain ⟨c20, H⟩ := in_ H
 have c20b0 : (t820 == t824) = true := beq_iff_eq.mpr c20
 have c20b1 : (t820 != t824) = false := bne_eq_false_iff_eq.mpr c20
 clear c20
 obtain ⟨c21, H⟩ := in_ H
 have c21b0 : (t821 == t825) = true := beq_iff_eq.mpr c21
 have c21b1 : (t821 != t825) = false := bne_eq_false_iff_eq.mpr c21
 clear c21
 obtain ⟨c22, H⟩ := in_ H
 have c22b0 : (t822 == t826) = true := beq_iff_eq.mpr c22
 have c22b1 : (t822 != t826) = false := bne_eq_false_iff_eq.mpr c22
 clear c22
 obtain ⟨c23, H⟩ := ip_ H
 have c23b0 : (t823 != t827) = false := by simpa using c23
 (try (have c23b1 : decide (t823 = t827) = true := by simpa using c23))
 (try (have c23b2 : (t823 == t827) = true := by simpa using c23))
 clear c23
 obtain ⟨c24, H⟩ := ip_ H
 have c24b0 : (t831 != t836) = false := by simpa using c24
 (try (have c24b1 : decide (t831 = t836) = true := by simpa using c24))
 (try (have c24b2 : (t831 == t836) = true := by simpa using c24))
 clear c24
 obtain ⟨t848, A25, H⟩ := ob_ H
 (try dsimp only at H)
 by_cases c26 : t848 = true
 rotate_left
 ·obtain rfl := Bool.eq_false_iff.mpr c26
  rw [if_neg nf_] at H
  exact absurd H (by simp)
 subst c26
 rw [if_pos rfl] at H
 obtain ⟨c27, H⟩ := ip_ H
 have c27b0 : (t841 != t845) = false := by simpa using c27
 (try (have c27b1 : decide (t841 = t845) = true := by simpa using c27))
 (try (have c27b2 : (t841 == t845) = true := by simpa using c27))
 clear c27
 obtain ⟨t849, A28, H⟩ := ob_ H
 (try dsimp only at H)
 by_cases c29 : t849 = true
 rotate_left
 ·obtain rfl := Bool.eq_false_iff.mpr c29
  rw [if_neg nf_] at H
  exact absurd H (by simp)
 subst c29
 rw [if_pos rfl] at H
 have HC30 := am_ H
 clear H
 go_enter Try.func4, Try.ntmps4
 go_upto_region 16 with (first | ((with_reducible refine gate_callee (f := 16) rfl ?_); refine gl_ 31 Try.func16 #[.slice A0 l0.length c0] ?_; (with_reducible refine (laws_big.calls _ _ l0 false _ ?side1 ?side2 A2.out).mono ?_); (case side1 => repeat (first | exact HR0.out | (with_reducible refine Kd.C_alloc ?_ _) | (with_reducible refine Kd.C_drewN ?_ _) | (with_reducible refine Kd.C_drew ?_))); (case side2 => exact HC0.out); rintro e w' ⟨rfl, ⟨nd, rfl⟩⟩; refine ⟨_, rfl, ?_⟩) | ((with_reducible refine gate_callee (f := 17) rfl ?_); refine gl_ 33 Try.func17 #[.slice A0 l0.length c0] ?_; (with_reducible refine (spec_DrawArfClosure.calls k _ _ l0 t801 _ ?side1 ?side2 A4.out).mono ?_); (case side1 => repeat (first | exact HR0.out | (with_reducible refine Kd.C_alloc ?_ _) | (with_reducible refine Kd.C_drewN ?_ _) | (with_reducible refine Kd.C_drew ?_))); (case side2 => exact HC0.out); rintro e w31 ⟨v802, rfl, ho0, hb⟩; refine ⟨_, rfl, ?_⟩; have HO803 := am_ (Kd.Q_lower ho0 (below_size (bl_ HB.out))); replace HB := bs_ HB hb; (try clear hb); (try clear hb2); (try clear hk); (try clear hi); (try clear ho0)) | ((with_reducible refine gate_dst (N := 3) rfl ?_); refine be_ 3 #[.slice none 0 0] 29 fun gb804 hg w32 hbox hb => ?_; replace HO803 := qb_ HO803 hb; have BK804 := am_ (hbox); have GW804 := ge_ hg HB; have GE804 := ge_ hg HB; replace HB := bs_ HB hb; clear hb hbox hg; obtain ⟨Ao33, co33, eo33, _⟩ := Kd.Q_slice HO803.out; subst eo33; have hcz34_0 := bc_ BK804; have hfz34_0 := blk_frozen BK804.out 0) | ((with_reducible refine gate_callee (f := 18) rfl ?_); refine gl_ 36 Try.func18 #[.agg #[.slice Ao33 t801.length co33]] ?_; (with_reducible refine (impl_ArfClosure.calls k _ _ t801 t805 t808 _ ?side1 ?side2 A5.out).mono ?_); (case side1 => refine (Kd.Q_reads' (e := 3) (base := w.heap.size) (ok := fun k_ => True) (n := t801.length) (c := co33) ?_).2.2; exact (kq_ ((Kd.Q_mono (Kd.Q_far (p := ⟨gb804, 0, none⟩) (Kd.Q_types HO803.out BK804.out (by decide)) (fun _ hk => hk.2) (.slice Ao33 t801.length co33)) (fun _ h_ => h_.1))))); (case side2 => exact (Kd.Q_reads' HO803.out).2.1); rintro e w35 ⟨v806, rfl, ho0, hb⟩; refine ⟨_, rfl, ?_⟩; have HO807 := am_ (Kd.R_lower (Kd.R_new' ho0 (Kd.Q_lt (kq_ ((Kd.Q_mono (Kd.Q_far (p := ⟨gb804, 0, none⟩) (Kd.Q_types HO803.out BK804.out (by decide)) (fun _ hk => hk.2) (.slice Ao33 t801.length co33)) (fun _ h_ => h_.1)))))) (below_size (bl_ HB.out))); replace HO803 := am_ (Kd.Q_elder' (kq_ ((Kd.Q_mono (Kd.Q_far (p := ⟨gb804, 0, none⟩) (Kd.Q_types HO803.out BK804.out (by decide)) (fun _ hk => hk.2) (.slice Ao33 t801.length co33)) (fun _ h_ => h_.1)))) (Kd.R_base ho0) hb); replace BK804 := am_ (blk_below (g := gb804) (o := .cells #[.slice Ao33 t801.length co33] 29 (0, 0)) (by (with_reducible repeat (first | refine blk_drewN ?_ _ | refine blk_drew ?_ | refine blk_alloc ?_ _)); refine blk_put (cs := #[.slice none 0 0]) ?_ 0 _ rfl; (with_reducible repeat (first | refine blk_drewN ?_ _ | refine blk_drew ?_ | refine blk_alloc ?_ _)); exact BK804.out) hb); replace HB := bs_ HB hb; (try clear hb); (try clear hb2); (try clear hk); (try clear hi); (try clear ho0)) | ((with_reducible refine gate_dst (N := 4) rfl ?_); refine be_ 4 #[.slice none 0 0] 29 fun gb809 hg w36 hbox hb => ?_; replace HO803 := qb_ HO803 hb; replace HO807 := rb_ HO807 hb; have BK809 := am_ (hbox); have GW809 := ge_ hg HB; have GE809 := ge_ hg HB; replace HB := bs_ HB hb; have NB804_809 := nl_ hg BK804; have NB809_804 := ng_ hg BK804; replace BK804 := bb_ BK804 hb; clear hb hbox hg; obtain ⟨Ao37, co37, eo37⟩ := Kd.R_slice HO807.out; subst eo37; have hnb38 := NB809_804.out; have hnc38 := NB804_809.out; have hcz39_0 := bc_ BK809; have hfz39_0 := blk_frozen BK809.out 0; have hcz40_0 := bc_ BK804; have hfz40_0 := blk_frozen BK804.out 0) | ((with_reducible refine gate_callee (f := 19) rfl ?_); refine gl_ 41 Try.func19 #[.agg #[.slice Ao33 t801.length co33]] ?_; (with_reducible refine (spec_ArfClosure.calls k _ _ t801 t810 t813 _ ?side1 ?side2 A6.out).mono ?_); (case side1 => refine (Kd.Q_reads' (e := 3) (base := w.heap.size) (ok := fun k_ => (True ∧ some k_ ≠ (.slice Ao37 t805.length co37 : Value).ownBlock)) (n := t801.length) (c := co33) ?_).2.2; exact (kq_ ((Kd.Q_mono (Kd.Q_far (p := ⟨gb809, 0, none⟩) (Kd.Q_types HO803.out BK809.out (by decide)) (fun _ hk => hk.2) (.slice Ao37 t805.length co37)) (fun _ h_ => h_.1))))); (case side2 => exact (Kd.Q_reads' HO803.out).2.1); rintro e w41 ⟨v811, rfl, ho0, hb⟩; refine ⟨_, rfl, ?_⟩; have HO812 := am_ (Kd.R_lower (Kd.R_new' (Kd.R_new' ho0 (Kd.Q_lt (kq_ ((Kd.Q_mono (Kd.Q_far (p := ⟨gb809, 0, none⟩) (Kd.Q_types HO803.out BK809.out (by decide)) (fun _ hk => hk.2) (.slice Ao37 t805.length co37)) (fun _ h_ => h_.1)))))) (Kd.R_lt (kr_ ((Kd.R_mono (Kd.R_far (p := ⟨gb809, 0, none⟩) (Kd.R_types HO807.out BK809.out (by decide)) (fun _ hk => hk.2) (.slice Ao37 t805.length co37)) (fun _ h_ => h_.1)))))) (below_size (bl_ HB.out))); replace HO803 := am_ (Kd.Q_elder' (kq_ ((Kd.Q_mono (Kd.Q_far (p := ⟨gb809, 0, none⟩) (Kd.Q_types HO803.out BK809.out (by decide)) (fun _ hk => hk.2) (.slice Ao37 t805.length co37)) (fun _ h_ => h_.1)))) (Kd.R_base ho0) hb); replace HO807 := am_ (Kd.R_elder' (kr_ ((Kd.R_mono (Kd.R_far (p := ⟨gb809, 0, none⟩) (Kd.R_types HO807.out BK809.out (by decide)) (fun _ hk => hk.2) (.slice Ao37 t805.length co37)) (fun _ h_ => h_.1)))) (Kd.R_base ho0) hb); replace BK804 := am_ (blk_below (g := gb804) (o := .cells #[.slice Ao33 t801.length co33] 29 (0, 0)) (bf_ BK804.out) hb); replace BK809 := am_ (blk_below (g := gb809) (o := .cells #[.slice Ao37 t805.length co37] 29 (0, 0)) (by (with_reducible repeat (first | refine blk_drewN ?_ _ | refine blk_drew ?_ | refine blk_alloc ?_ _)); refine blk_put (cs := #[.slice none 0 0]) ?_ 0 _ rfl; (with_reducible repeat (first | refine blk_drewN ?_ _ | refine blk_drew ?_ | refine blk_alloc ?_ _)); exact BK809.out) hb); replace HB := bs_ HB hb; (try clear hb); (try clear hb2); (try clear hk); (try clear hi); (try clear ho0)) | ((with_reducible refine gate_dst (N := 6) rfl ?_); refine be_ 6 #[.slice none 0 0] 29 fun gb814 hg w42 hbox hb => ?_; replace HO803 := qb_ HO803 hb; replace HO807 := rb_ HO807 hb; replace HO812 := rb_ HO812 hb; have BK814 := am_ (hbox); have GW814 := ge_ hg HB; have GE814 := ge_ hg HB; replace HB := bs_ HB hb; have NB804_814 := nl_ hg BK804; have NB814_804 := ng_ hg BK804; replace BK804 := bb_ BK804 hb; have NB809_814 := nl_ hg BK809; have NB814_809 := ng_ hg BK809; replace BK809 := bb_ BK809 hb; clear hb hbox hg; obtain ⟨Ao43, co43, eo43⟩ := Kd.R_slice HO812.out; subst eo43; have hnb44 := NB814_804.out; have hnc44 := NB804_814.out; have hnb45 := NB814_809.out; have hnc45 := NB809_814.out; have hcz46_0 := bc_ BK814; have hfz46_0 := blk_frozen BK814.out 0) | ((with_reducible refine gate_callee (f := 20) rfl ?_); refine gl_ 45 Try.func20 #[.slice A0 l0.length c0] ?_; (with_reducible refine (spec_DrawIsArf.calls k _ _ l0 t815 _ ?side1 ?side2 A7.out).mono ?_); (case side1 => exact Kd.C_below HR0.out (bl_ HB.out)); (case side2 => exact HC0.out); rintro e w47 ⟨v816, rfl, ho0, hb⟩; refine ⟨_, rfl, ?_⟩; have HO817 := am_ (Kd.Q_lower (Kd.Q_new' (Kd.Q_new' (Kd.Q_new' ho0 (Kd.Q_lt (kq_ ((Kd.Q_mono (Kd.Q_far (p := ⟨gb814, 0, none⟩) (Kd.Q_types HO803.out BK814.out (by decide)) (fun _ hk => hk.2) (.slice Ao43 t810.length co43)) (fun _ h_ => h_.1)))))) (Kd.R_lt (kr_ ((Kd.R_mono (Kd.R_far (p := ⟨gb814, 0, none⟩) (Kd.R_types HO807.out BK814.out (by decide)) (fun _ hk => hk.2) (.slice Ao43 t810.length co43)) (fun _ h_ => h_.1)))))) (Kd.R_lt (kr_ ((Kd.R_mono (Kd.R_far (p := ⟨gb814, 0, none⟩) (Kd.R_types HO812.out BK814.out (by decide)) (fun _ hk => hk.2) (.slice Ao43 t810.length co43)) (fun _ h_ => h_.1)))))) (below_size (bl_ HB.out))); replace HO803 := am_ (Kd.Q_elder' (kq_ ((Kd.Q_mono (Kd.Q_far (p := ⟨gb814, 0, none⟩) (Kd.Q_types HO803.out BK814.out (by decide)) (fun _ hk => hk.2) (.slice Ao43 t810.length co43)) (fun _ h_ => h_.1)))) (Kd.Q_base ho0) hb); replace HO807 := am_ (Kd.R_elder' (kr_ ((Kd.R_mono (Kd.R_far (p := ⟨gb814, 0, none⟩) (Kd.R_types HO807.out BK814.out (by decide)) (fun _ hk => hk.2) (.slice Ao43 t810.length co43)) (fun _ h_ => h_.1)))) (Kd.Q_base ho0) hb); replace HO812 := am_ (Kd.R_elder' (kr_ ((Kd.R_mono (Kd.R_far (p := ⟨gb814, 0, none⟩) (Kd.R_types HO812.out BK814.out (by decide)) (fun _ hk => hk.2) (.slice Ao43 t810.length co43)) (fun _ h_ => h_.1)))) (Kd.Q_base ho0) hb); replace BK804 := am_ (blk_below (g := gb804) (o := .cells #[.slice Ao33 t801.length co33] 29 (0, 0)) (bf_ BK804.out) hb); replace BK809 := am_ (blk_below (g := gb809) (o := .cells #[.slice Ao37 t805.length co37] 29 (0, 0)) (bf_ BK809.out) hb); replace BK814 := am_ (blk_below (g := gb814) (o := .cells #[.slice Ao43 t810.length co43] 29 (0, 0)) (by (with_reducible repeat (first | refine blk_drewN ?_ _ | refine blk_drew ?_ | refine blk_alloc ?_ _)); refine blk_put (cs := #[.slice none 0 0]) ?_ 0 _ rfl; (with_reducible repeat (first | refine blk_drewN ?_ _ | refine blk_drew ?_ | refine blk_alloc ?_ _)); exact BK814.out) hb); replace HB := bs_ HB hb; (try clear hb); (try clear hb2); (try clear hk); (try clear hi); (try clear ho0)) | ((with_reducible refine gate_dst (N := 8) rfl ?_); refine be_ 8 #[.slice none 0 0] 29 fun gb818 hg w48 hbox hb => ?_; replace HO803 := qb_ HO803 hb; replace HO807 := rb_ HO807 hb; replace HO812 := rb_ HO812 hb; replace HO817 := qb_ HO817 hb; have BK818 := am_ (hbox); have GW818 := ge_ hg HB; have GE818 := ge_ hg HB; replace HB := bs_ HB hb; have NB804_818 := nl_ hg BK804; have NB818_804 := ng_ hg BK804; replace BK804 := bb_ BK804 hb; have NB809_818 := nl_ hg BK809; have NB818_809 := ng_ hg BK809; replace BK809 := bb_ BK809 hb; have NB814_818 := nl_ hg BK814; have NB818_814 := ng_ hg BK814; replace BK814 := bb_ BK814 hb; clear hb hbox hg; obtain ⟨Ao49, co49, eo49, _⟩ := Kd.Q_slice HO817.out; subst eo49; have hnb50 := NB818_804.out; have hnc50 := NB804_818.out; have hnb51 := NB818_809.out; have hnc51 := NB809_818.out; have hnb52 := NB818_814.out; have hnc52 := NB814_818.out; have hcz53_0 := bc_ BK818; have hfz53_0 := blk_frozen BK818.out 0) | ((with_reducible refine gate_callee (f := 21) rfl ?_); refine gl_ 47 Try.func21 #[.agg #[.slice Ao49 t815.length co49]] ?_; (with_reducible refine (impl_IsArf.calls k _ _ t815 t819 _ ?side1 ?side2 A8.out).mono ?_); (case side1 => refine (Kd.Q_reads' (e := 3) (base := w.heap.size) (ok := fun k_ => (((True ∧ some k_ ≠ (.slice Ao33 t801.length co33 : Value).ownBlock) ∧ some k_ ≠ (.slice Ao37 t805.length co37 : Value).ownBlock) ∧ some k_ ≠ (.slice Ao43 t810.length co43 : Value).ownBlock)) (n := t815.length) (c := co49) ?_).2.2; exact (kq_ ((Kd.Q_mono (Kd.Q_far (p := ⟨gb818, 0, none⟩) (Kd.Q_types HO817.out BK818.out (by decide)) (fun _ hk => hk.2) (.slice Ao49 t815.length co49)) (fun _ h_ => h_.1))))); (case side2 => exact (Kd.Q_reads' HO817.out).2.1); rintro e w54 ⟨rfl, hb⟩; refine ⟨_, rfl, ?_⟩; replace HO803 := am_ (Kd.Q_below (kq_ ((Kd.Q_mono (Kd.Q_far (p := ⟨gb818, 0, none⟩) (Kd.Q_types HO803.out BK818.out (by decide)) (fun _ hk => hk.2) (.slice Ao49 t815.length co49)) (fun _ h_ => h_.1)))) hb); replace HO807 := am_ (Kd.R_below (kr_ ((Kd.R_mono (Kd.R_far (p := ⟨gb818, 0, none⟩) (Kd.R_types HO807.out BK818.out (by decide)) (fun _ hk => hk.2) (.slice Ao49 t815.length co49)) (fun _ h_ => h_.1)))) hb); replace HO812 := am_ (Kd.R_below (kr_ ((Kd.R_mono (Kd.R_far (p := ⟨gb818, 0, none⟩) (Kd.R_types HO812.out BK818.out (by decide)) (fun _ hk => hk.2) (.slice Ao49 t815.length co49)) (fun _ h_ => h_.1)))) hb); replace HO817 := am_ (Kd.Q_below (kq_ ((Kd.Q_mono (Kd.Q_far (p := ⟨gb818, 0, none⟩) (Kd.Q_types HO817.out BK818.out (by decide)) (fun _ hk => hk.2) (.slice Ao49 t815.length co49)) (fun _ h_ => h_.1)))) hb); replace BK804 := am_ (blk_below (g := gb804) (o := .cells #[.slice Ao33 t801.length co33] 29 (0, 0)) (bf_ BK804.out) hb); replace BK809 := am_ (blk_below (g := gb809) (o := .cells #[.slice Ao37 t805.length co37] 29 (0, 0)) (bf_ BK809.out) hb); replace BK814 := am_ (blk_below (g := gb814) (o := .cells #[.slice Ao43 t810.length co43] 29 (0, 0)) (bf_ BK814.out) hb); replace BK818 := am_ (blk_below (g := gb818) (o := .cells #[.slice Ao49 t815.length co49] 29 (0, 0)) (by (with_reducible repeat (first | refine blk_drewN ?_ _ | refine blk_drew ?_ | refine blk_alloc ?_ _)); refine blk_put (cs := #[.slice none 0 0]) ?_ 0 _ rfl; (with_reducible repeat (first | refine blk_drewN ?_ _ | refine blk_drew ?_ | refine blk_alloc ?_ _)); exact BK818.out) hb); replace HB := bs_ HB hb; (try clear hb); (try clear hb2); (try clear hk); (try clear hi); have hcz55_0 := bc_ BK818; have hfz55_0 := blk_frozen BK818.out 0) | ((with_reducible refine gate_callee (f := 22) rfl ?_); refine gl_ 50 Try.func22 #[.agg #[.slice Ao49 t815.length co49]] ?_; (with_reducible refine (impl_ArfFailure.calls k _ _ t815 t820 t821 t822 t823 _ ?side1 ?side2 A9.out).mono ?_); (case side1 => exact qs_ HO817); (case side2 => exact (Kd.Q_reads' HO817.out).2.1); rintro e w56 ⟨rfl, hb⟩; refine ⟨_, rfl, ?_⟩; replace HO803 := qb_ HO803 hb; replace HO807 := rb_ HO807 hb; replace HO812 := rb_ HO812 hb; replace HO817 := qb_ HO817 hb; replace BK804 := bb_ BK804 hb; replace BK809 := bb_ BK809 hb; replace BK814 := bb_ BK814 hb; replace BK818 := bb_ BK818 hb; replace HB := bs_ HB hb; (try clear hb); (try clear hb2); (try clear hk); (try clear hi); have hcz57_0 := bc_ BK818; have hfz57_0 := blk_frozen BK818.out 0) | ((with_reducible refine gate_callee (f := 23) rfl ?_); refine gl_ 57 Try.func23 #[.agg #[.slice Ao49 t815.length co49]] ?_; (with_reducible refine (spec_ArfFailure.calls k _ _ t815 t824 t825 t826 t827 _ ?side1 ?side2 A10.out).mono ?_); (case side1 => exact qs_ HO817); (case side2 => exact (Kd.Q_reads' HO817.out).2.1); rintro e w58 ⟨rfl, hb⟩; refine ⟨_, rfl, ?_⟩; replace HO803 := qb_ HO803 hb; replace HO807 := rb_ HO807 hb; replace HO812 := rb_ HO812 hb; replace HO817 := qb_ HO817 hb; replace BK804 := bb_ BK804 hb; replace BK809 := bb_ BK809 hb; replace BK814 := bb_ BK814 hb; replace BK818 := bb_ BK818 hb; replace HB := bs_ HB hb; (try clear hb); (try clear hb2); (try clear hk); (try clear hi); have hcz59_0 := bc_ BK818; have hfz59_0 := blk_frozen BK818.out 0) | ((with_reducible refine gate_callee (f := 24) rfl ?_); refine gl_ 64 Try.func24 #[.agg #[.slice Ao49 t815.length co49]] ?_; (with_reducible refine (impl_BlowUp.calls k _ _ t815 t828 t831 _ ?side1 ?side2 A11.out).mono ?_); (case side1 => exact qs_ HO817); (case side2 => exact (Kd.Q_reads' HO817.out).2.1); rintro e w60 ⟨v829, rfl, ho0, hb⟩; refine ⟨_, rfl, ?_⟩; have HO830 := am_ (Kd.R_lower (Kd.R_new' (Kd.R_new' (Kd.R_new' (Kd.R_new' ho0 (Kd.Q_lt (kq_ HO803.out))) (Kd.R_lt (kr_ HO807.out))) (Kd.R_lt (kr_ HO812.out))) (Kd.Q_lt (kq_ HO817.out))) (below_size (bl_ HB.out))); replace HO803 := am_ (Kd.Q_elder' (kq_ HO803.out) (Kd.R_base ho0) hb); replace HO807 := am_ (Kd.R_elder' (kr_ HO807.out) (Kd.R_base ho0) hb); replace HO812 := am_ (Kd.R_elder' (kr_ HO812.out) (Kd.R_base ho0) hb); replace HO817 := am_ (Kd.Q_elder' (kq_ HO817.out) (Kd.R_base ho0) hb); replace BK804 := bb_ BK804 hb; replace BK809 := bb_ BK809 hb; replace BK814 := bb_ BK814 hb; replace BK818 := bb_ BK818 hb; replace HB := bs_ HB hb; (try clear hb); (try clear hb2); (try clear hk); (try clear hi); (try clear ho0)) | ((with_reducible refine gate_dst (N := 18) rfl ?_); refine be_ 18 #[.slice none 0 0] 29 fun gb832 hg w61 hbox hb => ?_; replace HO803 := qb_ HO803 hb; replace HO807 := rb_ HO807 hb; replace HO812 := rb_ HO812 hb; replace HO817 := qb_ HO817 hb; replace HO830 := rb_ HO830 hb; have BK832 := am_ (hbox); have GW832 := ge_ hg HB; have GE832 := ge_ hg HB; replace HB := bs_ HB hb; have NB804_832 := nl_ hg BK804; have NB832_804 := ng_ hg BK804; replace BK804 := bb_ BK804 hb; have NB809_832 := nl_ hg BK809; have NB832_809 := ng_ hg BK809; replace BK809 := bb_ BK809 hb; have NB814_832 := nl_ hg BK814; have NB832_814 := ng_ hg BK814; replace BK814 := bb_ BK814 hb; have NB818_832 := nl_ hg BK818; have NB832_818 := ng_ hg BK818; replace BK818 := bb_ BK818 hb; clear hb hbox hg; obtain ⟨Ao62, co62, eo62⟩ := Kd.R_slice HO830.out; subst eo62; have hnb63 := NB832_804.out; have hnc63 := NB804_832.out; have hnb64 := NB832_809.out; have hnc64 := NB809_832.out; have hnb65 := NB832_814.out; have hnc65 := NB814_832.out; have hnb66 := NB832_818.out; have hnc66 := NB818_832.out; have hcz67_0 := bc_ BK832; have hfz67_0 := blk_frozen BK832.out 0; have hcz68_0 := bc_ BK818; have hfz68_0 := blk_frozen BK818.out 0) | ((with_reducible refine gate_callee (f := 25) rfl ?_); refine gl_ 69 Try.func25 #[.agg #[.slice Ao49 t815.length co49]] ?_; (with_reducible refine (spec_BlowUp.calls k _ _ t815 t833 t836 _ ?side1 ?side2 A12.out).mono ?_); (case side1 => refine (Kd.Q_reads' (e := 3) (base := w.heap.size) (ok := fun k_ => ((((True ∧ some k_ ≠ (.slice Ao33 t801.length co33 : Value).ownBlock) ∧ some k_ ≠ (.slice Ao37 t805.length co37 : Value).ownBlock) ∧ some k_ ≠ (.slice Ao43 t810.length co43 : Value).ownBlock) ∧ some k_ ≠ (.slice Ao62 t828.length co62 : Value).ownBlock)) (n := t815.length) (c := co49) ?_).2.2; exact (kq_ ((Kd.Q_mono (Kd.Q_far (p := ⟨gb832, 0, none⟩) (Kd.Q_types HO817.out BK832.out (by decide)) (fun _ hk => hk.2) (.slice Ao62 t828.length co62)) (fun _ h_ => h_.1))))); (case side2 => exact (Kd.Q_reads' HO817.out).2.1); rintro e w69 ⟨v834, rfl, ho0, hb⟩; refine ⟨_, rfl, ?_⟩; have HO835 := am_ (Kd.R_lower (Kd.R_new' (Kd.R_new' (Kd.R_new' (Kd.R_new' (Kd.R_new' ho0 (Kd.Q_lt (kq_ ((Kd.Q_mono (Kd.Q_far (p := ⟨gb832, 0, none⟩) (Kd.Q_types HO803.out BK832.out (by decide)) (fun _ hk => hk.2) (.slice Ao62 t828.length co62)) (fun _ h_ => h_.1)))))) (Kd.R_lt (kr_ ((Kd.R_mono (Kd.R_far (p := ⟨gb832, 0, none⟩) (Kd.R_types HO807.out BK832.out (by decide)) (fun _ hk => hk.2) (.slice Ao62 t828.length co62)) (fun _ h_ => h_.1)))))) (Kd.R_lt (kr_ ((Kd.R_mono (Kd.R_far (p := ⟨gb832, 0, none⟩) (Kd.R_types HO812.out BK832.out (by decide)) (fun _ hk => hk.2) (.slice Ao62 t828.length co62)) (fun _ h_ => h_.1)))))) (Kd.Q_lt (kq_ ((Kd.Q_mono (Kd.Q_far (p := ⟨gb832, 0, none⟩) (Kd.Q_types HO817.out BK832.out (by decide)) (fun _ hk => hk.2) (.slice Ao62 t828.length co62)) (fun _ h_ => h_.1)))))) (Kd.R_lt (kr_ ((Kd.R_mono (Kd.R_far (p := ⟨gb832, 0, none⟩) (Kd.R_types HO830.out BK832.out (by decide)) (fun _ hk => hk.2) (.slice Ao62 t828.length co62)) (fun _ h_ => h_.1)))))) (below_size (bl_ HB.out))); replace HO803 := am_ (Kd.Q_elder' (kq_ ((Kd.Q_mono (Kd.Q_far (p := ⟨gb832, 0, none⟩) (Kd.Q_types HO803.out BK832.out (by decide)) (fun _ hk => hk.2) (.slice Ao62 t828.length co62)) (fun _ h_ => h_.1)))) (Kd.R_base ho0) hb); replace HO807 := am_ (Kd.R_elder' (kr_ ((Kd.R_mono (Kd.R_far (p := ⟨gb832, 0, none⟩) (Kd.R_types HO807.out BK832.out (by decide)) (fun _ hk => hk.2) (.slice Ao62 t828.length co62)) (fun _ h_ => h_.1)))) (Kd.R_base ho0) hb); replace HO812 := am_ (Kd.R_elder' (kr_ ((Kd.R_mono (Kd.R_far (p := ⟨gb832, 0, none⟩) (Kd.R_types HO812.out BK832.out (by decide)) (fun _ hk => hk.2) (.slice Ao62 t828.length co62)) (fun _ h_ => h_.1)))) (Kd.R_base ho0) hb); replace HO817 := am_ (Kd.Q_elder' (kq_ ((Kd.Q_mono (Kd.Q_far (p := ⟨gb832, 0, none⟩) (Kd.Q_types HO817.out BK832.out (by decide)) (fun _ hk => hk.2) (.slice Ao62 t828.length co62)) (fun _ h_ => h_.1)))) (Kd.R_base ho0) hb); replace HO830 := am_ (Kd.R_elder' (kr_ ((Kd.R_mono (Kd.R_far (p := ⟨gb832, 0, none⟩) (Kd.R_types HO830.out BK832.out (by decide)) (fun _ hk => hk.2) (.slice Ao62 t828.length co62)) (fun _ h_ => h_.1)))) (Kd.R_base ho0) hb); replace BK804 := am_ (blk_below (g := gb804) (o := .cells #[.slice Ao33 t801.length co33] 29 (0, 0)) (bf_ BK804.out) hb); replace BK809 := am_ (blk_below (g := gb809) (o := .cells #[.slice Ao37 t805.length co37] 29 (0, 0)) (bf_ BK809.out) hb); replace BK814 := am_ (blk_below (g := gb814) (o := .cells #[.slice Ao43 t810.length co43] 29 (0, 0)) (bf_ BK814.out) hb); replace BK818 := am_ (blk_below (g := gb818) (o := .cells #[.slice Ao49 t815.length co49] 29 (0, 0)) (bf_ BK818.out) hb); replace BK832 := am_ (blk_below (g := gb832) (o := .cells #[.slice Ao62 t828.length co62] 29 (0, 0)) (by (with_reducible repeat (first | refine blk_drewN ?_ _ | refine blk_drew ?_ | refine blk_alloc ?_ _)); refine blk_put (cs := #[.slice none 0 0]) ?_ 0 _ rfl; (with_reducible repeat (first | refine blk_drewN ?_ _ | refine blk_drew ?_ | refine blk_alloc ?_ _)); exact BK832.out) hb); replace HB := bs_ HB hb; (try clear hb); (try clear hb2); (try clear hk); (try clear hi); (try clear ho0)) | ((with_reducible refine gate_dst (N := 20) rfl ?_); refine be_ 20 #[.slice none 0 0] 29 fun gb837 hg w70 hbox hb => ?_; replace HO803 := qb_ HO803 hb; replace HO807 := rb_ HO807 hb; replace HO812 := rb_ HO812 hb; replace HO817 := qb_ HO817 hb; replace HO830 := rb_ HO830 hb; replace HO835 := rb_ HO835 hb; have BK837 := am_ (hbox); have GW837 := ge_ hg HB; have GE837 := ge_ hg HB; replace HB := bs_ HB hb; have NB804_837 := nl_ hg BK804; have NB837_804 := ng_ hg BK804; replace BK804 := bb_ BK804 hb; have NB809_837 := nl_ hg BK809; have NB837_809 := ng_ hg BK809; replace BK809 := bb_ BK809 hb; have NB814_837 := nl_ hg BK814; have NB837_814 := ng_ hg BK814; replace BK814 := bb_ BK814 hb; have NB818_837 := nl_ hg BK818; have NB837_818 := ng_ hg BK818; replace BK818 := bb_ BK818 hb; have NB832_837 := nl_ hg BK832; have NB837_832 := ng_ hg BK832; replace BK832 := bb_ BK832 hb; clear hb hbox hg; obtain ⟨Ao71, co71, eo71⟩ := Kd.R_slice HO835.out; subst eo71; have hnb72 := NB837_804.out; have hnc72 := NB804_837.out; have hnb73 := NB837_809.out; have hnc73 := NB809_837.out; have hnb74 := NB837_814.out; have hnc74 := NB814_837.out; have hnb75 := NB837_818.out; have hnc75 := NB818_837.out; have hnb76 := NB837_832.out; have hnc76 := NB832_837.out; have hcz77_0 := bc_ BK837; have hfz77_0 := blk_frozen BK837.out 0) | ((with_reducible refine gate_store (t := 29) (p := 20) rfl ?_); refine store_event (t := 29) (p := 20) (v := ?vo_w78) (w1 := (w70.setCell ⟨gb837, 0, none⟩ (.slice Ao71 t833.length co71))) ?hg ?ho ?hn ?hr ?_; (case ho => rfl); (case hg => rfl); (case hn => rfl); (case hr => first | (go_simp; done) | (go_simp; rfl)); intro w78 hw; have n0_ : Aside0 (Kd.Q (Kd.int .i64) 3 w78 w.heap.size (fun k_ => some k_ ≠ (.slice Ao37 t805.length co37 : Value).ownBlock ∧ some k_ ≠ (.slice Ao43 t810.length co43 : Value).ownBlock ∧ some k_ ≠ (.slice Ao49 t815.length co49 : Value).ownBlock ∧ some k_ ≠ (.slice Ao62 t828.length co62 : Value).ownBlock ∧ some k_ ≠ (.slice Ao71 t833.length co71 : Value).ownBlock) (.slice Ao33 t801.length co33) t801) := ⟨(by rw [hw]; exact (kq_ (Kd.Q_mono (Kd.Q_far (p := ⟨gb837, 0, none⟩) (Kd.Q_types HO803.out BK837.out (by decide)) (fun _ hk => hk.2) (.slice Ao71 t833.length co71)) (fun _ hk => ⟨hk.1.1.1.1.1.2, ⟨hk.1.1.1.1.2, ⟨hk.1.1.1.2, ⟨hk.1.1.2, hk.1.2⟩⟩⟩⟩))))⟩; have n1_ : Aside0 (Kd.R (Kd.int .i64) 3 w78 w.heap.size (fun k_ => some k_ ≠ (.slice Ao33 t801.length co33 : Value).ownBlock ∧ some k_ ≠ (.slice Ao43 t810.length co43 : Value).ownBlock ∧ some k_ ≠ (.slice Ao49 t815.length co49 : Value).ownBlock ∧ some k_ ≠ (.slice Ao62 t828.length co62 : Value).ownBlock ∧ some k_ ≠ (.slice Ao71 t833.length co71 : Value).ownBlock) (.slice Ao37 t805.length co37) t805) := ⟨(by rw [hw]; exact (kr_ (Kd.R_mono (Kd.R_far (p := ⟨gb837, 0, none⟩) (Kd.R_types HO807.out BK837.out (by decide)) (fun _ hk => hk.2) (.slice Ao71 t833.length co71)) (fun _ hk => ⟨hk.1.1.1.1.1.2, ⟨hk.1.1.1.1.2, ⟨hk.1.1.1.2, ⟨hk.1.1.2, hk.1.2⟩⟩⟩⟩))))⟩; have n2_ : Aside0 (Kd.R (Kd.int .i64) 3 w78 w.heap.size (fun k_ => some k_ ≠ (.slice Ao33 t801.length co33 : Value).ownBlock ∧ some k_ ≠ (.slice Ao37 t805.length co37 : Value).ownBlock ∧ some k_ ≠ (.slice Ao49 t815.length co49 : Value).ownBlock ∧ some k_ ≠ (.slice Ao62 t828.length co62 : Value).ownBlock ∧ some k_ ≠ (.slice Ao71 t833.length co71 : Value).ownBlock) (.slice Ao43 t810.length co43) t810) := ⟨(by rw [hw]; exact (kr_ (Kd.R_mono (Kd.R_far (p := ⟨gb837, 0, none⟩) (Kd.R_types HO812.out BK837.out (by decide)) (fun _ hk => hk.2) (.slice Ao71 t833.length co71)) (fun _ hk => ⟨hk.1.1.1.1.1.2, ⟨hk.1.1.1.1.2, ⟨hk.1.1.1.2, ⟨hk.1.1.2, hk.1.2⟩⟩⟩⟩))))⟩; have n3_ : Aside0 (Kd.Q (Kd.int .i64) 3 w78 w.heap.size (fun k_ => some k_ ≠ (.slice Ao33 t801.length co33 : Value).ownBlock ∧ some k_ ≠ (.slice Ao37 t805.length co37 : Value).ownBlock ∧ some k_ ≠ (.slice Ao43 t810.length co43 : Value).ownBlock ∧ some k_ ≠ (.slice Ao62 t828.length co62 : Value).ownBlock ∧ some k_ ≠ (.slice Ao71 t833.length co71 : Value).ownBlock) (.slice Ao49 t815.length co49) t815) := ⟨(by rw [hw]; exact (kq_ (Kd.Q_mono (Kd.Q_far (p := ⟨gb837, 0, none⟩) (Kd.Q_types HO817.out BK837.out (by decide)) (fun _ hk => hk.2) (.slice Ao71 t833.length co71)) (fun _ hk => ⟨hk.1.1.1.1.1.2, ⟨hk.1.1.1.1.2, ⟨hk.1.1.1.2, ⟨hk.1.1.2, hk.1.2⟩⟩⟩⟩))))⟩; have n4_ : Aside0 (Kd.R (Kd.int .i64) 3 w78 w.heap.size (fun k_ => some k_ ≠ (.slice Ao33 t801.length co33 : Value).ownBlock ∧ some k_ ≠ (.slice Ao37 t805.length co37 : Value).ownBlock ∧ some k_ ≠ (.slice Ao43 t810.length co43 : Value).ownBlock ∧ some k_ ≠ (.slice Ao49 t815.length co49 : Value).ownBlock ∧ some k_ ≠ (.slice Ao71 t833.length co71 : Value).ownBlock) (.slice Ao62 t828.length co62) t828) := ⟨(by rw [hw]; exact (kr_ (Kd.R_mono (Kd.R_far (p := ⟨gb837, 0, none⟩) (Kd.R_types HO830.out BK837.out (by decide)) (fun _ hk => hk.2) (.slice Ao71 t833.length co71)) (fun _ hk => ⟨hk.1.1.1.1.1.2, ⟨hk.1.1.1.1.2, ⟨hk.1.1.1.2, ⟨hk.1.1.2, hk.1.2⟩⟩⟩⟩))))⟩; have n5_ : Aside0 (Kd.R (Kd.int .i64) 3 w78 w.heap.size (fun k_ => some k_ ≠ (.slice Ao33 t801.length co33 : Value).ownBlock ∧ some k_ ≠ (.slice Ao37 t805.length co37 : Value).ownBlock ∧ some k_ ≠ (.slice Ao43 t810.length co43 : Value).ownBlock ∧ some k_ ≠ (.slice Ao49 t815.length co49 : Value).ownBlock ∧ some k_ ≠ (.slice Ao62 t828.length co62 : Value).ownBlock) (.slice Ao71 t833.length co71) t833) := ⟨(by rw [hw]; exact (kr_ (Kd.R_mono (Kd.R_far (p := ⟨gb837, 0, none⟩) (Kd.R_types HO835.out BK837.out (by decide)) (fun _ hk => hk.2) (.slice Ao71 t833.length co71)) (fun _ hk => ⟨hk.1.1.1.1.1.2, ⟨hk.1.1.1.1.2, ⟨hk.1.1.1.2, ⟨hk.1.1.2, hk.1.2⟩⟩⟩⟩))))⟩; have n6_ : Aside0 (w78.heap[gb804]? = some (.cells #[.slice Ao33 t801.length co33] 29 (0, 0))) := ⟨(by rw [hw]; exact (bf_ BK804.out))⟩; have n7_ : Aside0 (w78.heap[gb809]? = some (.cells #[.slice Ao37 t805.length co37] 29 (0, 0))) := ⟨(by rw [hw]; exact (bf_ BK809.out))⟩; have n8_ : Aside0 (w78.heap[gb814]? = some (.cells #[.slice Ao43 t810.length co43] 29 (0, 0))) := ⟨(by rw [hw]; exact (bf_ BK814.out))⟩; have n9_ : Aside0 (w78.heap[gb818]? = some (.cells #[.slice Ao49 t815.length co49] 29 (0, 0))) := ⟨(by rw [hw]; exact (bf_ BK818.out))⟩; have n10_ : Aside0 (w78.heap[gb832]? = some (.cells #[.slice Ao62 t828.length co62] 29 (0, 0))) := ⟨(by rw [hw]; exact (bf_ BK832.out))⟩; have n11_ : Aside0 (w78.heap[gb837]? = some (.cells #[.slice Ao71 t833.length co71] 29 (0, 0))) := ⟨(by rw [hw]; exact (by (with_reducible repeat (first | refine blk_drewN ?_ _ | refine blk_drew ?_ | refine blk_alloc ?_ _)); refine blk_put (cs := #[.slice none 0 0]) ?_ 0 _ rfl; (with_reducible repeat (first | refine blk_drewN ?_ _ | refine blk_drew ?_ | refine blk_alloc ?_ _)); exact BK837.out))⟩; have n12_ : Aside0 (Below w.heap.size w w78) := ⟨(by rw [hw]; exact (bl_ HB.out))⟩; clear hw; clear HO803; clear HO807; clear HO812; clear HO817; clear HO830; clear HO835; clear BK804; clear BK809; clear BK814; clear BK818; clear BK832; clear BK837; clear HB; have HO803 := n0_; have HO807 := n1_; have HO812 := n2_; have HO817 := n3_; have HO830 := n4_; have HO835 := n5_; have BK804 := n6_; have BK809 := n7_; have BK814 := n8_; have BK818 := n9_; have BK832 := n10_; have BK837 := n11_; have HB := n12_; clear n0_ n1_ n2_ n3_ n4_ n5_ n6_ n7_ n8_ n9_ n10_ n11_ n12_; have hcz79_0 := bc_ BK818; have hfz79_0 := blk_frozen BK818.out 0) | ((with_reducible refine gate_callee (f := 26) rfl ?_); refine gl_ 74 Try.func26 #[.agg #[.slice Ao49 t815.length co49]] ?_; (with_reducible refine (impl_MultiplicitySequence.calls k (fun k_ => some k_ = (.slice Ao49 t815.length co49 : Value).ownBlock) _ _ t815 t838 t841 _ ?side1 A13.out).mono ?_); (case side1 => exact Kd.Q_V (Kd.Q_tight rfl (Kd.Q_types (Kd.Q_types (Kd.Q_types (Kd.Q_types (Kd.Q_types (Kd.Q_types (HO817.out) BK804.out (by decide)) BK809.out (by decide)) BK814.out (by decide)) BK818.out (by decide)) BK832.out (by decide)) BK837.out (by decide)))); rintro e w80 ⟨v839, rfl, ho0, hb⟩; refine ⟨_, rfl, ?_⟩; have HO840 := am_ (Kd.R_lower (Kd.R_new' (Kd.R_new' (Kd.R_new' (Kd.R_new' (Kd.R_new' (Kd.R_new' (Kd.R_mono (ok' := fun k_ => True) ho0 (fun _ hk_ => trivial)) (Kd.Q_lt (kq_ HO803.out))) (Kd.R_lt (kr_ HO807.out))) (Kd.R_lt (kr_ HO812.out))) (Kd.Q_lt (kq_ HO817.out))) (Kd.R_lt (kr_ HO830.out))) (Kd.R_lt (kr_ HO835.out))) (below_size (bl_ HB.out))); replace HO803 := am_ (Kd.Q_elder' (kq_ HO803.out) (Kd.R_base ho0) hb); replace HO807 := am_ (Kd.R_elder' (kr_ HO807.out) (Kd.R_base ho0) hb); replace HO812 := am_ (Kd.R_elder' (kr_ HO812.out) (Kd.R_base ho0) hb); replace HO817 := am_ (Kd.Q_elder' (kq_ HO817.out) (Kd.R_base ho0) hb); replace HO830 := am_ (Kd.R_elder' (kr_ HO830.out) (Kd.R_base ho0) hb); replace HO835 := am_ (Kd.R_elder' (kr_ HO835.out) (Kd.R_base ho0) hb); replace BK804 := bb_ BK804 hb; replace BK809 := bb_ BK809 hb; replace BK814 := bb_ BK814 hb; replace BK818 := bb_ BK818 hb; replace BK832 := bb_ BK832 hb; replace BK837 := bb_ BK837 hb; replace HB := bs_ HB hb; (try clear hb); (try clear hb2); (try clear hk); (try clear hi); (try clear ho0); have hcz81_0 := bc_ BK818; have hfz81_0 := blk_frozen BK818.out 0) | ((with_reducible refine gate_callee (f := 27) rfl ?_); refine gl_ 79 Try.func27 #[.agg #[.slice Ao49 t815.length co49]] ?_; (with_reducible refine (spec_MultiplicitySequence.calls k (fun k_ => some k_ = (.slice Ao49 t815.length co49 : Value).ownBlock) _ _ t815 t842 t845 _ ?side1 A14.out).mono ?_); (case side1 => exact Kd.Q_V (Kd.Q_tight rfl (Kd.Q_types (Kd.Q_types (Kd.Q_types (Kd.Q_types (Kd.Q_types (Kd.Q_types (HO817.out) BK804.out (by decide)) BK809.out (by decide)) BK814.out (by decide)) BK818.out (by decide)) BK832.out (by decide)) BK837.out (by decide)))); rintro e w82 ⟨v843, rfl, ho0, hb⟩; refine ⟨_, rfl, ?_⟩; have HO844 := am_ (Kd.R_lower (Kd.R_new' (Kd.R_new' (Kd.R_new' (Kd.R_new' (Kd.R_new' (Kd.R_new' (Kd.R_new' (Kd.R_mono (ok' := fun k_ => True) ho0 (fun _ hk_ => trivial)) (Kd.Q_lt (kq_ HO803.out))) (Kd.R_lt (kr_ HO807.out))) (Kd.R_lt (kr_ HO812.out))) (Kd.Q_lt (kq_ HO817.out))) (Kd.R_lt (kr_ HO830.out))) (Kd.R_lt (kr_ HO835.out))) (Kd.R_lt (kr_ HO840.out))) (below_size (bl_ HB.out))); replace HO803 := am_ (Kd.Q_elder' (kq_ HO803.out) (Kd.R_base ho0) hb); replace HO807 := am_ (Kd.R_elder' (kr_ HO807.out) (Kd.R_base ho0) hb); replace HO812 := am_ (Kd.R_elder' (kr_ HO812.out) (Kd.R_base ho0) hb); replace HO817 := am_ (Kd.Q_elder' (kq_ HO817.out) (Kd.R_base ho0) hb); replace HO830 := am_ (Kd.R_elder' (kr_ HO830.out) (Kd.R_base ho0) hb); replace HO835 := am_ (Kd.R_elder' (kr_ HO835.out) (Kd.R_base ho0) hb); replace HO840 := am_ (Kd.R_elder' (kr_ HO840.out) (Kd.R_base ho0) hb); replace BK804 := bb_ BK804 hb; replace BK809 := bb_ BK809 hb; replace BK814 := bb_ BK814 hb; replace BK818 := bb_ BK818 hb; replace BK832 := bb_ BK832 hb; replace BK837 := bb_ BK837 hb; replace HB := bs_ HB hb; (try clear hb); (try clear hb2); (try clear hk); (try clear hi); (try clear ho0); have hcz83_0 := bc_ BK809; have hfz83_0 := blk_frozen BK809.out 0; have hcz84_0 := bc_ BK814; have hfz84_0 := blk_frozen BK814.out 0) | (go_at_call 28; (with_reducible refine (spec_EqualSemigroup.calls k _ _ t805 _ _ t810 true _ ?side1 ?side2 ?side3 ?side4 A16.out).mono ?_); (case side1 => exact rs_ HO807); (case side2 => exact (Kd.R_reads' HO807.out).2.1); (case side3 => exact rs_ HO812); (case side4 => exact (Kd.R_reads' HO812.out).2.1); rintro e w85 ⟨rfl, hb⟩; replace HO803 := qb_ HO803 hb; replace HO807 := rb_ HO807 hb; replace HO812 := rb_ HO812 hb; replace HO817 := qb_ HO817 hb; replace HO830 := rb_ HO830 hb; replace HO835 := rb_ HO835 hb; replace HO840 := rb_ HO840 hb; replace HO844 := rb_ HO844 hb; replace BK804 := bb_ BK804 hb; replace BK809 := bb_ BK809 hb; replace BK814 := bb_ BK814 hb; replace BK818 := bb_ BK818 hb; replace BK832 := bb_ BK832 hb; replace BK837 := bb_ BK837 hb; replace HB := bs_ HB hb; (try clear hb); (try clear hb2); (try clear hk); (try clear hi); have hcz86_0 := bc_ BK818; have hfz86_0 := blk_frozen BK818.out 0) | (go_at_call 29; (with_reducible refine (spec_IsArf.calls k _ _ t815 t847 _ ?side1 ?side2 A18.out).mono ?_); (case side1 => exact qs_ HO817); (case side2 => exact (Kd.Q_reads' HO817.out).2.1); rintro e w87 ⟨rfl, hb⟩; replace HO803 := qb_ HO803 hb; replace HO807 := rb_ HO807 hb; replace HO812 := rb_ HO812 hb; replace HO817 := qb_ HO817 hb; replace HO830 := rb_ HO830 hb; replace HO835 := rb_ HO835 hb; replace HO840 := rb_ HO840 hb; replace HO844 := rb_ HO844 hb; replace BK804 := bb_ BK804 hb; replace BK809 := bb_ BK809 hb; replace BK814 := bb_ BK814 hb; replace BK818 := bb_ BK818 hb; replace BK832 := bb_ BK832 hb; replace BK837 := bb_ BK837 hb; replace HB := bs_ HB hb; (try clear hb); (try clear hb2); (try clear hk); (try clear hi); have hcz88_0 := bc_ BK832; have hfz88_0 := blk_frozen BK832.out 0; have hcz89_0 := bc_ BK837; have hfz89_0 := blk_frozen BK837.out 0) | (go_at_call 28; (with_reducible refine (spec_EqualSemigroup.calls k _ _ t828 _ _ t833 true _ ?side1 ?side2 ?side3 ?side4 A25.out).mono ?_); (case side1 => exact rs_ HO830); (case side2 => exact (Kd.R_reads' HO830.out).2.1); (case side3 => exact rs_ HO835); (case side4 => exact (Kd.R_reads' HO835.out).2.1); rintro e w90 ⟨rfl, hb⟩; replace HO803 := qb_ HO803 hb; replace HO807 := rb_ HO807 hb; replace HO812 := rb_ HO812 hb; replace HO817 := qb_ HO817 hb; replace HO830 := rb_ HO830 hb; replace HO835 := rb_ HO835 hb; replace HO840 := rb_ HO840 hb; replace HO844 := rb_ HO844 hb; replace BK804 := bb_ BK804 hb; replace BK809 := bb_ BK809 hb; replace BK814 := bb_ BK814 hb; replace BK818 := bb_ BK818 hb; replace BK832 := bb_ BK832 hb; replace BK837 := bb_ BK837 hb; replace HB := bs_ HB hb; (try clear hb); (try clear hb2); (try clear hk); (try clear hi); obtain ⟨Ao91, co91, eo91⟩ := Kd.R_slice HO840.out; subst eo91; obtain ⟨Ao92, co92, eo92⟩ := Kd.R_slice HO844.out; subst eo92) | (go_at_call 30; (with_reducible refine (laws_sameInts.calls k _ _ t838 _ _ t842 true _ ?side1 ?side2 ?side3 ?side4 A28.out).mono ?_); (case side1 => exact rs_ HO840); (case side2 => exact (Kd.R_reads' HO840.out).2.1); (case side3 => exact rs_ HO844); (case side4 => exact (Kd.R_reads' HO844.out).2.1); rintro e w' ⟨rfl, ⟨nd, rfl⟩⟩))
 (try simp only [Act.put, List.setIfInBounds_toArray, List.set_cons_zero, List.set_cons_succ])
 go_cut [151] (fun v151 wc => ∃ (kq : Nat) (x151_29 : Bool), v151 = .bool x151_29 ∧ Aside0 (laws_FnArf.j0 kq t808 t819 t838 t841 x151_29 t801 t805 t815 = some r) ∧ Aside0 (kq ≤ k) ∧ Aside0 (Kd.R (Kd.int .i64) 3 wc w.heap.size (fun k_ => some k_ ≠ ((.slice Ao33 t801.length co33) : Value).ownBlock ∧ some k_ ≠ ((.slice Ao37 t805.length co37) : Value).ownBlock ∧ some k_ ≠ ((.slice Ao43 t810.length co43) : Value).ownBlock ∧ some k_ ≠ ((.slice Ao49 t815.length co49) : Value).ownBlock ∧ some k_ ≠ ((.slice Ao62 t828.length co62) : Value).ownBlock ∧ some k_ ≠ ((.slice Ao71 t833.length co71) : Value).ownBlock) (.slice Ao91 t838.length co91) t838) ∧ Aside0 (Kd.Q (Kd.int .i64) 3 wc w.heap.size (fun k_ => some k_ ≠ ((.slice Ao91 t838.length co91) : Value).ownBlock ∧ some k_ ≠ ((.slice Ao37 t805.length co37) : Value).ownBlock ∧ some k_ ≠ ((.slice Ao43 t810.length co43) : Value).ownBlock ∧ some k_ ≠ ((.slice Ao49 t815.length co49) : Value).ownBlock ∧ some k_ ≠ ((.slice Ao62 t828.length co62) : Value).ownBlock ∧ some k_ ≠ ((.slice Ao71 t833.length co71) : Value).ownBlock) (.slice Ao33 t801.length co33) t801) ∧ Aside0 (Kd.Q (Kd.int .i64) 3 wc w.heap.size (fun k_ => some k_ ≠ ((.slice Ao91 t838.length co91) : Value).ownBlock ∧ some k_ ≠ ((.slice Ao33 t801.length co33) : Value).ownBlock ∧ some k_ ≠ ((.slice Ao43 t810.length co43) : Value).ownBlock ∧ some k_ ≠ ((.slice Ao49 t815.length co49) : Value).ownBlock ∧ some k_ ≠ ((.slice Ao62 t828.length co62) : Value).ownBlock ∧ some k_ ≠ ((.slice Ao71 t833.length co71) : Value).ownBlock) (.slice Ao37 t805.length co37) t805) ∧ Aside0 (Kd.Q (Kd.int .i64) 3 wc w.heap.size (fun k_ => some k_ ≠ ((.slice Ao91 t838.length co91) : Value).ownBlock ∧ some k_ ≠ ((.slice Ao33 t801.length co33) : Value).ownBlock ∧ some k_ ≠ ((.slice Ao37 t805.length co37) : Value).ownBlock ∧ some k_ ≠ ((.slice Ao49 t815.length co49) : Value).ownBlock ∧ some k_ ≠ ((.slice Ao62 t828.length co62) : Value).ownBlock ∧ some k_ ≠ ((.slice Ao71 t833.length co71) : Value).ownBlock) (.slice Ao43 t810.length co43) t810) ∧ Aside0 (Kd.Q (Kd.int .i64) 3 wc w.heap.size (fun k_ => some k_ ≠ ((.slice Ao91 t838.length co91) : Value).ownBlock ∧ some k_ ≠ ((.slice Ao33 t801.length co33) : Value).ownBlock ∧ some k_ ≠ ((.slice Ao37 t805.length co37) : Value).ownBlock ∧ some k_ ≠ ((.slice Ao43 t810.length co43) : Value).ownBlock ∧ some k_ ≠ ((.slice Ao62 t828.length co62) : Value).ownBlock ∧ some k_ ≠ ((.slice Ao71 t833.length co71) : Value).ownBlock) (.slice Ao49 t815.length co49) t815) ∧ Aside0 (Kd.Q (Kd.int .i64) 3 wc w.heap.size (fun k_ => some k_ ≠ ((.slice Ao91 t838.length co91) : Value).ownBlock ∧ some k_ ≠ ((.slice Ao33 t801.length co33) : Value).ownBlock ∧ some k_ ≠ ((.slice Ao37 t805.length co37) : Value).ownBlock ∧ some k_ ≠ ((.slice Ao43 t810.length co43) : Value).ownBlock ∧ some k_ ≠ ((.slice Ao49 t815.length co49) : Value).ownBlock ∧ some k_ ≠ ((.slice Ao71 t833.length co71) : Value).ownBlock) (.slice Ao62 t828.length co62) t828) ∧ Aside0 (Kd.Q (Kd.int .i64) 3 wc w.heap.size (fun k_ => some k_ ≠ ((.slice Ao91 t838.length co91) : Value).ownBlock ∧ some k_ ≠ ((.slice Ao33 t801.length co33) : Value).ownBlock ∧ some k_ ≠ ((.slice Ao37 t805.length co37) : Value).ownBlock ∧ some k_ ≠ ((.slice Ao43 t810.length co43) : Value).ownBlock ∧ some k_ ≠ ((.slice Ao49 t815.length co49) : Value).ownBlock ∧ some k_ ≠ ((.slice Ao62 t828.length co62) : Value).ownBlock) (.slice Ao71 t833.length co71) t833) ∧ Aside0 (wc.heap[gb804]? = some (.cells #[(.slice Ao33 t801.length co33)] 29 (0, 0))) ∧ Aside0 (wc.heap[gb809]? = some (.cells #[(.slice Ao37 t805.length co37)] 29 (0, 0))) ∧ Aside0 (wc.heap[gb814]? = some (.cells #[(.slice Ao43 t810.length co43)] 29 (0, 0))) ∧ Aside0 (wc.heap[gb818]? = some (.cells #[(.slice Ao49 t815.length co49)] 29 (0, 0))) ∧ Aside0 (wc.heap[gb832]? = some (.cells #[(.slice Ao62 t828.length co62)] 29 (0, 0))) ∧ Aside0 (wc.heap[gb837]? = some (.cells #[(.slice Ao71 t833.length co71)] 29 (0, 0))) ∧ Aside0 (Below w.heap.size w wc))
 case first =>
  have H := HC30.out
  clear HC30
  by_cases c93 : t823 = true
  rotate_left
  ·obtain rfl := Bool.eq_false_iff.mpr c93
   rw [if_neg nf_] at H
   have H' := am_ H
   clear H
   go_wp2
   go_meet
   case rel => exact ⟨_, (false), sd_, H', ⟨le_⟩, ⟨kr_ (Kd.R_mono HO840.out (fun _ hk => ⟨hk.1.1.1.1.1.1.2, ⟨hk.1.1.1.1.1.2, ⟨hk.1.1.1.1.2, ⟨hk.1.1.1.2, ⟨hk.1.1.2, hk.1.2⟩⟩⟩⟩⟩))⟩, ⟨kq_ (Kd.Q_mono HO803.out (fun _ hk => ⟨hk.1.2, ⟨hk.1.1.1, ⟨hk.1.1.2.1, ⟨hk.1.1.2.2.1, ⟨hk.1.1.2.2.2.1, hk.1.1.2.2.2.2⟩⟩⟩⟩⟩))⟩, ⟨Kd.Q_of_R (kr_ (Kd.R_mono HO807.out (fun _ hk => ⟨hk.1.2, ⟨hk.1.1.1, ⟨hk.1.1.2.1, ⟨hk.1.1.2.2.1, ⟨hk.1.1.2.2.2.1, hk.1.1.2.2.2.2⟩⟩⟩⟩⟩)))⟩, ⟨Kd.Q_of_R (kr_ (Kd.R_mono HO812.out (fun _ hk => ⟨hk.1.2, ⟨hk.1.1.1, ⟨hk.1.1.2.1, ⟨hk.1.1.2.2.1, ⟨hk.1.1.2.2.2.1, hk.1.1.2.2.2.2⟩⟩⟩⟩⟩)))⟩, ⟨kq_ (Kd.Q_mono HO817.out (fun _ hk => ⟨hk.1.2, ⟨hk.1.1.1, ⟨hk.1.1.2.1, ⟨hk.1.1.2.2.1, ⟨hk.1.1.2.2.2.1, hk.1.1.2.2.2.2⟩⟩⟩⟩⟩))⟩, ⟨Kd.Q_of_R (kr_ (Kd.R_mono HO830.out (fun _ hk => ⟨hk.1.2, ⟨hk.1.1.1, ⟨hk.1.1.2.1, ⟨hk.1.1.2.2.1, ⟨hk.1.1.2.2.2.1, hk.1.1.2.2.2.2⟩⟩⟩⟩⟩)))⟩, ⟨Kd.Q_of_R (kr_ (Kd.R_mono HO835.out (fun _ hk => ⟨hk.1.2, ⟨hk.1.1.1, ⟨hk.1.1.2.1, ⟨hk.1.1.2.2.1, ⟨hk.1.1.2.2.2.1, hk.1.1.2.2.2.2⟩⟩⟩⟩⟩)))⟩, ⟨bk_ BK804.out⟩, ⟨bk_ BK809.out⟩, ⟨bk_ BK814.out⟩, ⟨bk_ BK818.out⟩, ⟨bk_ BK832.out⟩, ⟨bk_ BK837.out⟩, ⟨bl_ HB.out⟩⟩
  subst c93
  rw [if_pos rfl] at H
  by_cases c94 : t819 = true
  ·subst c94
   rw [if_pos rfl] at H
   exact absurd H (by simp)
  obtain rfl := Bool.eq_false_iff.mpr c94
  rw [if_neg nf_] at H
  obtain ⟨t850, A95, H⟩ := ob_ H
  (try dsimp only at H)
  have H' := am_ H
  clear H
  have hnb96 := NB818_804.out
  have hnc96 := NB804_818.out
  have hnb97 := NB818_809.out
  have hnc97 := NB809_818.out
  have hnb98 := NB818_814.out
  have hnc98 := NB814_818.out
  have hnb99 := NB818_832.out
  have hnc99 := NB832_818.out
  have hnb100 := NB818_837.out
  have hnc100 := NB837_818.out
  have hcz101_0 := bc_ BK818
  have hfz101_0 := blk_frozen BK818.out 0
  go_wp2_with (first | (go_at_call 31; (with_reducible refine (spec_Contains.calls k _ _ t815 (wrap64 ((wrap64 (t820 + t821)) - t822)) t850 _ ?side1 ?side2 A95.out).mono ?_); (case side1 => exact qs_ HO817); (case side2 => exact (Kd.Q_reads' HO817.out).2.1); rintro e w102 ⟨rfl, hb⟩; replace HO803 := qb_ HO803 hb; replace HO807 := rb_ HO807 hb; replace HO812 := rb_ HO812 hb; replace HO817 := qb_ HO817 hb; replace HO830 := rb_ HO830 hb; replace HO835 := rb_ HO835 hb; replace HO840 := rb_ HO840 hb; replace HO844 := rb_ HO844 hb; replace BK804 := bb_ BK804 hb; replace BK809 := bb_ BK809 hb; replace BK814 := bb_ BK814 hb; replace BK818 := bb_ BK818 hb; replace BK832 := bb_ BK832 hb; replace BK837 := bb_ BK837 hb; replace HB := bs_ HB hb; (try clear hb); (try clear hb2); (try clear hk); (try clear hi)))
  go_meet
  case rel => exact ⟨_, (t850), sd_, H', ⟨le_⟩, ⟨kr_ (Kd.R_mono HO840.out (fun _ hk => ⟨hk.1.1.1.1.1.1.2, ⟨hk.1.1.1.1.1.2, ⟨hk.1.1.1.1.2, ⟨hk.1.1.1.2, ⟨hk.1.1.2, hk.1.2⟩⟩⟩⟩⟩))⟩, ⟨kq_ (Kd.Q_mono HO803.out (fun _ hk => ⟨hk.1.2, ⟨hk.1.1.1, ⟨hk.1.1.2.1, ⟨hk.1.1.2.2.1, ⟨hk.1.1.2.2.2.1, hk.1.1.2.2.2.2⟩⟩⟩⟩⟩))⟩, ⟨Kd.Q_of_R (kr_ (Kd.R_mono HO807.out (fun _ hk => ⟨hk.1.2, ⟨hk.1.1.1, ⟨hk.1.1.2.1, ⟨hk.1.1.2.2.1, ⟨hk.1.1.2.2.2.1, hk.1.1.2.2.2.2⟩⟩⟩⟩⟩)))⟩, ⟨Kd.Q_of_R (kr_ (Kd.R_mono HO812.out (fun _ hk => ⟨hk.1.2, ⟨hk.1.1.1, ⟨hk.1.1.2.1, ⟨hk.1.1.2.2.1, ⟨hk.1.1.2.2.2.1, hk.1.1.2.2.2.2⟩⟩⟩⟩⟩)))⟩, ⟨kq_ (Kd.Q_mono HO817.out (fun _ hk => ⟨hk.1.2, ⟨hk.1.1.1, ⟨hk.1.1.2.1, ⟨hk.1.1.2.2.1, ⟨hk.1.1.2.2.2.1, hk.1.1.2.2.2.2⟩⟩⟩⟩⟩))⟩, ⟨Kd.Q_of_R (kr_ (Kd.R_mono HO830.out (fun _ hk => ⟨hk.1.2, ⟨hk.1.1.1, ⟨hk.1.1.2.1, ⟨hk.1.1.2.2.1, ⟨hk.1.1.2.2.2.1, hk.1.1.2.2.2.2⟩⟩⟩⟩⟩)))⟩, ⟨Kd.Q_of_R (kr_ (Kd.R_mono HO835.out (fun _ hk => ⟨hk.1.2, ⟨hk.1.1.1, ⟨hk.1.1.2.1, ⟨hk.1.1.2.2.1, ⟨hk.1.1.2.2.2.1, hk.1.1.2.2.2.2⟩⟩⟩⟩⟩)))⟩, ⟨bk_ BK804.out⟩, ⟨bk_ BK809.out⟩, ⟨bk_ BK814.out⟩, ⟨bk_ BK818.out⟩, ⟨bk_ BK832.out⟩, ⟨bk_ BK837.out⟩, ⟨bl_ HB.out⟩⟩
 case rest =>
  clear HC30
  try clear c1
  try clear c2
  try clear p2
  try clear c3
  try clear c4
  try clear c5
  try clear c6
  try clear p6
  try clear c7
  try clear c9
  try clear c10
  try clear c16
  try clear c17
  try clear c18
  try clear c25
  try clear c26
  try clear c29
  try clear c38
  try clear c44
  try clear c45
  try clear c50
  try clear c51
  try clear c52
  try clear c63
  try clear c64
  try clear p64
  try clear c65
  try clear c66
  try clear c72
  try clear c73
  try clear c74
  try clear c75
  try clear c76
  try clear c93
  try clear c94
  try clear c96
  try clear c97
  try clear c98
  try clear c99
  try clear c100
  try clear hcz101_0
  try clear hcz34_0
  try clear hcz39_0
  try clear hcz40_0
  try clear hcz46_0
  try clear hcz53_0
  try clear hcz55_0
  try clear hcz57_0
  try clear hcz59_0
  try clear hcz67_0
  try clear hcz68_0
  try clear hcz77_0
  try clear hcz79_0
  try clear hcz81_0
  try clear hcz83_0
  try clear hcz84_0
  try clear hcz86_0
  try clear hcz88_0
  try clear hcz89_0
  try clear hfz101_0
  try clear hfz34_0
  try clear hfz39_0
  try clear hfz40_0
  try clear hfz46_0
  try clear hfz53_0
  try clear hfz55_0
  try clear hfz57_0
  try clear hfz59_0
  try clear hfz67_0
  try clear hfz68_0
  try clear hfz77_0
  try clear hfz79_0
  try clear hfz81_0
  try clear hfz83_0
  try clear hfz84_0
  try clear hfz86_0
  try clear hfz88_0
  try clear hfz89_0
  obtain ⟨kq, x151_29, rfl, HA, HJ29, HO_22, HO_805000, HO_810000, HO_815000, HO_819000, HO_833000, HO_838000, BK804, BK809, BK814, BK818, BK832, BK837, HB⟩ := hcut
  cases kq with
  | zero => exact absurd HA.out (by simp [laws_FnArf.j0])
  | succ kj29 =>
   have H := HA.out
   clear HA
   simp only [laws_FnArf.j0] at H
   by_cases c103 : x151_29 = true
   ·subst c103
    rw [if_pos rfl] at H
    exact absurd H (by simp)
   obtain rfl := Bool.eq_false_iff.mpr c103
   rw [if_neg nf_] at H
   have HC104 := am_ H
   clear H
   go_upto_if 152 with (fail)
   go_cut [] (fun wc => ∃ (kq : Nat), Aside0 (laws_FnArf.j1 kq t819 t838 t841 t815 = some r) ∧ Aside0 (kq ≤ kj29) ∧ Aside0 (Kd.R (Kd.int .i64) 3 wc w.heap.size (fun k_ => some k_ ≠ ((.slice Ao33 t801.length co33) : Value).ownBlock ∧ some k_ ≠ ((.slice Ao37 t805.length co37) : Value).ownBlock ∧ some k_ ≠ ((.slice Ao43 t810.length co43) : Value).ownBlock ∧ some k_ ≠ ((.slice Ao49 t815.length co49) : Value).ownBlock ∧ some k_ ≠ ((.slice Ao62 t828.length co62) : Value).ownBlock ∧ some k_ ≠ ((.slice Ao71 t833.length co71) : Value).ownBlock) (.slice Ao91 t838.length co91) t838) ∧ Aside0 (Kd.Q (Kd.int .i64) 3 wc w.heap.size (fun k_ => some k_ ≠ ((.slice Ao91 t838.length co91) : Value).ownBlock ∧ some k_ ≠ ((.slice Ao37 t805.length co37) : Value).ownBlock ∧ some k_ ≠ ((.slice Ao43 t810.length co43) : Value).ownBlock ∧ some k_ ≠ ((.slice Ao49 t815.length co49) : Value).ownBlock ∧ some k_ ≠ ((.slice Ao62 t828.length co62) : Value).ownBlock ∧ some k_ ≠ ((.slice Ao71 t833.length co71) : Value).ownBlock) (.slice Ao33 t801.length co33) t801) ∧ Aside0 (Kd.Q (Kd.int .i64) 3 wc w.heap.size (fun k_ => some k_ ≠ ((.slice Ao91 t838.length co91) : Value).ownBlock ∧ some k_ ≠ ((.slice Ao33 t801.length co33) : Value).ownBlock ∧ some k_ ≠ ((.slice Ao43 t810.length co43) : Value).ownBlock ∧ some k_ ≠ ((.slice Ao49 t815.length co49) : Value).ownBlock ∧ some k_ ≠ ((.slice Ao62 t828.length co62) : Value).ownBlock ∧ some k_ ≠ ((.slice Ao71 t833.length co71) : Value).ownBlock) (.slice Ao37 t805.length co37) t805) ∧ Aside0 (Kd.Q (Kd.int .i64) 3 wc w.heap.size (fun k_ => some k_ ≠ ((.slice Ao91 t838.length co91) : Value).ownBlock ∧ some k_ ≠ ((.slice Ao33 t801.length co33) : Value).ownBlock ∧ some k_ ≠ ((.slice Ao37 t805.length co37) : Value).ownBlock ∧ some k_ ≠ ((.slice Ao49 t815.length co49) : Value).ownBlock ∧ some k_ ≠ ((.slice Ao62 t828.length co62) : Value).ownBlock ∧ some k_ ≠ ((.slice Ao71 t833.length co71) : Value).ownBlock) (.slice Ao43 t810.length co43) t810) ∧ Aside0 (Kd.Q (Kd.int .i64) 3 wc w.heap.size (fun k_ => some k_ ≠ ((.slice Ao91 t838.length co91) : Value).ownBlock ∧ some k_ ≠ ((.slice Ao33 t801.length co33) : Value).ownBlock ∧ some k_ ≠ ((.slice Ao37 t805.length co37) : Value).ownBlock ∧ some k_ ≠ ((.slice Ao43 t810.length co43) : Value).ownBlock ∧ some k_ ≠ ((.slice Ao62 t828.length co62) : Value).ownBlock ∧ some k_ ≠ ((.slice Ao71 t833.length co71) : Value).ownBlock) (.slice Ao49 t815.length co49) t815) ∧ Aside0 (Kd.Q (Kd.int .i64) 3 wc w.heap.size (fun k_ => some k_ ≠ ((.slice Ao91 t838.length co91) : Value).ownBlock ∧ some k_ ≠ ((.slice Ao33 t801.length co33) : Value).ownBlock ∧ some k_ ≠ ((.slice Ao37 t805.length co37) : Value).ownBlock ∧ some k_ ≠ ((.slice Ao43 t810.length co43) : Value).ownBlock ∧ some k_ ≠ ((.slice Ao49 t815.length co49) : Value).ownBlock ∧ some k_ ≠ ((.slice Ao71 t833.length co71) : Value).ownBlock) (.slice Ao62 t828.length co62) t828) ∧ Aside0 (Kd.Q (Kd.int .i64) 3 wc w.heap.size (fun k_ => some k_ ≠ ((.slice Ao91 t838.length co91) : Value).ownBlock ∧ some k_ ≠ ((.slice Ao33 t801.length co33) : Value).ownBlock ∧ some k_ ≠ ((.slice Ao37 t805.length co37) : Value).ownBlock ∧ some k_ ≠ ((.slice Ao43 t810.length co43) : Value).ownBlock ∧ some k_ ≠ ((.slice Ao49 t815.length co49) : Value).ownBlock ∧ some k_ ≠ ((.slice Ao62 t828.length co62) : Value).ownBlock) (.slice Ao71 t833.length co71) t833) ∧ Aside0 (wc.heap[gb804]? = some (.cells #[(.slice Ao33 t801.length co33)] 29 (0, 0))) ∧ Aside0 (wc.heap[gb809]? = some (.cells #[(.slice Ao37 t805.length co37)] 29 (0, 0))) ∧ Aside0 (wc.heap[gb814]? = some (.cells #[(.slice Ao43 t810.length co43)] 29 (0, 0))) ∧ Aside0 (wc.heap[gb818]? = some (.cells #[(.slice Ao49 t815.length co49)] 29 (0, 0))) ∧ Aside0 (wc.heap[gb832]? = some (.cells #[(.slice Ao62 t828.length co62)] 29 (0, 0))) ∧ Aside0 (wc.heap[gb837]? = some (.cells #[(.slice Ao71 t833.length co71)] 29 (0, 0))) ∧ Aside0 (Below w.heap.size w wc))
   case first =>
    have H := HC104.out
    clear HC104
    by_cases c105 : t808 = true
    rotate_left
    ·obtain rfl := Bool.eq_false_iff.mpr c105
     rw [if_neg nf_] at H
     have H' := am_ H
     clear H
     go_wp2
     go_meet
     case rel => exact ⟨_, H', ⟨by have := HJ29.out; first | omega | exact Nat.le_refl _⟩, ⟨kr_ HO_22.out⟩, ⟨kq_ HO_805000.out⟩, ⟨kq_ HO_810000.out⟩, ⟨kq_ HO_815000.out⟩, ⟨kq_ HO_819000.out⟩, ⟨kq_ HO_833000.out⟩, ⟨kq_ HO_838000.out⟩, ⟨bk_ BK804.out⟩, ⟨bk_ BK809.out⟩, ⟨bk_ BK814.out⟩, ⟨bk_ BK818.out⟩, ⟨bk_ BK832.out⟩, ⟨bk_ BK837.out⟩, ⟨bl_ HB.out⟩⟩
    subst c105
    rw [if_pos rfl] at H
    replace H := Option.bind_eq_some_iff.mp H
    obtain ⟨⟨t851, t854⟩, A1060, H⟩ := H
    (try dsimp only at H)
    have A106 := am_ A1060
    clear A1060
    obtain ⟨t856, A107, H⟩ := ob_ H
    (try dsimp only at H)
    by_cases c108 : t856 = true
    rotate_left
    ·obtain rfl := Bool.eq_false_iff.mpr c108
     rw [if_neg nf_] at H
     exact absurd H (by simp)
    subst c108
    rw [if_pos rfl] at H
    obtain ⟨t857, A109, H⟩ := ob_ H
    (try dsimp only at H)
    by_cases c110 : t857 = true
    rotate_left
    ·obtain rfl := Bool.eq_false_iff.mpr c110
     rw [if_neg nf_] at H
     exact absurd H (by simp)
    subst c110
    rw [if_pos rfl] at H
    by_cases c111 : t854 = true
    rotate_left
    ·obtain rfl := Bool.eq_false_iff.mpr c111
     rw [if_neg nf_] at H
     exact absurd H (by simp)
    subst c111
    rw [if_pos rfl] at H
    obtain ⟨t858, A112, H⟩ := ob_ H
    (try dsimp only at H)
    by_cases c113 : t858 = true
    rotate_left
    ·obtain rfl := Bool.eq_false_iff.mpr c113
     rw [if_neg nf_] at H
     exact absurd H (by simp)
    subst c113
    rw [if_pos rfl] at H
    have H' := am_ H
    clear H
    have hnb114 := NB809_804.out
    have hnc114 := NB804_809.out
    have hnb115 := NB809_814.out
    have hnc115 := NB814_809.out
    have hnb116 := NB809_818.out
    have hnc116 := NB818_809.out
    have hnb117 := NB809_832.out
    have hnc117 := NB832_809.out
    have hnb118 := NB809_837.out
    have hnc118 := NB837_809.out
    have hcz119_0 := bc_ BK809
    have hfz119_0 := blk_frozen BK809.out 0
    go_wp2_with (first | ((with_reducible refine gate_callee (f := 18) rfl ?_); refine gl_ 155 Try.func18 #[.agg #[.slice Ao37 t805.length co37]] ?_; (with_reducible refine (impl_ArfClosure.calls kj29 _ _ t805 t851 true _ ?side1 ?side2 A106.out).mono ?_); (case side1 => exact qs_ HO_810000); (case side2 => exact (Kd.Q_reads' HO_810000.out).2.1); rintro e w120 ⟨v852, rfl, ho0, hb⟩; refine ⟨_, rfl, ?_⟩; have HO853 := am_ (Kd.R_lower (Kd.R_new' (Kd.R_new' (Kd.R_new' (Kd.R_new' (Kd.R_new' (Kd.R_new' (Kd.R_new' ho0 (Kd.R_lt (kr_ HO_22.out))) (Kd.Q_lt (kq_ HO_805000.out))) (Kd.Q_lt (kq_ HO_810000.out))) (Kd.Q_lt (kq_ HO_815000.out))) (Kd.Q_lt (kq_ HO_819000.out))) (Kd.Q_lt (kq_ HO_833000.out))) (Kd.Q_lt (kq_ HO_838000.out))) (below_size (bl_ HB.out))); replace HO_22 := am_ (Kd.R_elder' (kr_ HO_22.out) (Kd.R_base ho0) hb); replace HO_805000 := am_ (Kd.Q_elder' (kq_ HO_805000.out) (Kd.R_base ho0) hb); replace HO_810000 := am_ (Kd.Q_elder' (kq_ HO_810000.out) (Kd.R_base ho0) hb); replace HO_815000 := am_ (Kd.Q_elder' (kq_ HO_815000.out) (Kd.R_base ho0) hb); replace HO_819000 := am_ (Kd.Q_elder' (kq_ HO_819000.out) (Kd.R_base ho0) hb); replace HO_833000 := am_ (Kd.Q_elder' (kq_ HO_833000.out) (Kd.R_base ho0) hb); replace HO_838000 := am_ (Kd.Q_elder' (kq_ HO_838000.out) (Kd.R_base ho0) hb); replace BK804 := bb_ BK804 hb; replace BK809 := bb_ BK809 hb; replace BK814 := bb_ BK814 hb; replace BK818 := bb_ BK818 hb; replace BK832 := bb_ BK832 hb; replace BK837 := bb_ BK837 hb; replace HB := bs_ HB hb; (try clear hb); (try clear hb2); (try clear hk); (try clear hi); (try clear ho0)) | ((with_reducible refine gate_dst (N := 26) rfl ?_); refine be_ 26 #[.slice none 0 0] 29 fun gb855 hg w121 hbox hb => ?_; replace HO_22 := rb_ HO_22 hb; replace HO_805000 := qb_ HO_805000 hb; replace HO_810000 := qb_ HO_810000 hb; replace HO_815000 := qb_ HO_815000 hb; replace HO_819000 := qb_ HO_819000 hb; replace HO_833000 := qb_ HO_833000 hb; replace HO_838000 := qb_ HO_838000 hb; replace HO853 := rb_ HO853 hb; have BK855 := am_ (hbox); have GW855 := ge_ hg HB; have GE855 := ge_ hg HB; replace HB := bs_ HB hb; have NB804_855 := nl_ hg BK804; have NB855_804 := ng_ hg BK804; replace BK804 := bb_ BK804 hb; have NB809_855 := nl_ hg BK809; have NB855_809 := ng_ hg BK809; replace BK809 := bb_ BK809 hb; have NB814_855 := nl_ hg BK814; have NB855_814 := ng_ hg BK814; replace BK814 := bb_ BK814 hb; have NB818_855 := nl_ hg BK818; have NB855_818 := ng_ hg BK818; replace BK818 := bb_ BK818 hb; have NB832_855 := nl_ hg BK832; have NB855_832 := ng_ hg BK832; replace BK832 := bb_ BK832 hb; have NB837_855 := nl_ hg BK837; have NB855_837 := ng_ hg BK837; replace BK837 := bb_ BK837 hb; clear hb hbox hg; obtain ⟨Ao122, co122, eo122⟩ := Kd.R_slice HO853.out; subst eo122; have hnb123 := NB855_804.out; have hnc123 := NB804_855.out; have hnb124 := NB855_809.out; have hnc124 := NB809_855.out; have hnb125 := NB855_814.out; have hnc125 := NB814_855.out; have hnb126 := NB855_818.out; have hnc126 := NB818_855.out; have hnb127 := NB855_832.out; have hnc127 := NB832_855.out; have hnb128 := NB855_837.out; have hnc128 := NB837_855.out; have hcz129_0 := bc_ BK855; have hfz129_0 := blk_frozen BK855.out 0; have hcz130_0 := bc_ BK809; have hfz130_0 := blk_frozen BK809.out 0) | ((with_reducible refine gate_callee (f := 21) rfl ?_); refine gl_ 159 Try.func21 #[.agg #[.slice Ao37 t805.length co37]] ?_; (with_reducible refine (impl_IsArf.calls kj29 _ _ t805 true _ ?side1 ?side2 A107.out).mono ?_); (case side1 => refine (Kd.Q_reads' (e := 3) (base := w.heap.size) (ok := fun k_ => ((some k_ ≠ (.slice Ao91 t838.length co91 : Value).ownBlock ∧ (some k_ ≠ (.slice Ao33 t801.length co33 : Value).ownBlock ∧ (some k_ ≠ (.slice Ao43 t810.length co43 : Value).ownBlock ∧ (some k_ ≠ (.slice Ao49 t815.length co49 : Value).ownBlock ∧ (some k_ ≠ (.slice Ao62 t828.length co62 : Value).ownBlock ∧ some k_ ≠ (.slice Ao71 t833.length co71 : Value).ownBlock))))) ∧ some k_ ≠ (.slice Ao122 t851.length co122 : Value).ownBlock)) (n := t805.length) (c := co37) ?_).2.2; exact (kq_ ((Kd.Q_mono (Kd.Q_far (p := ⟨gb855, 0, none⟩) (Kd.Q_types HO_810000.out BK855.out (by decide)) (fun _ hk => hk.2) (.slice Ao122 t851.length co122)) (fun _ h_ => h_.1))))); (case side2 => exact (Kd.Q_reads' HO_810000.out).2.1); rintro e w131 ⟨rfl, hb⟩; refine ⟨_, rfl, ?_⟩; replace HO_22 := am_ (Kd.R_below (kr_ ((Kd.R_mono (Kd.R_far (p := ⟨gb855, 0, none⟩) (Kd.R_types HO_22.out BK855.out (by decide)) (fun _ hk => hk.2) (.slice Ao122 t851.length co122)) (fun _ h_ => h_.1)))) hb); replace HO_805000 := am_ (Kd.Q_below (kq_ ((Kd.Q_mono (Kd.Q_far (p := ⟨gb855, 0, none⟩) (Kd.Q_types HO_805000.out BK855.out (by decide)) (fun _ hk => hk.2) (.slice Ao122 t851.length co122)) (fun _ h_ => h_.1)))) hb); replace HO_810000 := am_ (Kd.Q_below (kq_ ((Kd.Q_mono (Kd.Q_far (p := ⟨gb855, 0, none⟩) (Kd.Q_types HO_810000.out BK855.out (by decide)) (fun _ hk => hk.2) (.slice Ao122 t851.length co122)) (fun _ h_ => h_.1)))) hb); replace HO_815000 := am_ (Kd.Q_below (kq_ ((Kd.Q_mono (Kd.Q_far (p := ⟨gb855, 0, none⟩) (Kd.Q_types HO_815000.out BK855.out (by decide)) (fun _ hk => hk.2) (.slice Ao122 t851.length co122)) (fun _ h_ => h_.1)))) hb); replace HO_819000 := am_ (Kd.Q_below (kq_ ((Kd.Q_mono (Kd.Q_far (p := ⟨gb855, 0, none⟩) (Kd.Q_types HO_819000.out BK855.out (by decide)) (fun _ hk => hk.2) (.slice Ao122 t851.length co122)) (fun _ h_ => h_.1)))) hb); replace HO_833000 := am_ (Kd.Q_below (kq_ ((Kd.Q_mono (Kd.Q_far (p := ⟨gb855, 0, none⟩) (Kd.Q_types HO_833000.out BK855.out (by decide)) (fun _ hk => hk.2) (.slice Ao122 t851.length co122)) (fun _ h_ => h_.1)))) hb); replace HO_838000 := am_ (Kd.Q_below (kq_ ((Kd.Q_mono (Kd.Q_far (p := ⟨gb855, 0, none⟩) (Kd.Q_types HO_838000.out BK855.out (by decide)) (fun _ hk => hk.2) (.slice Ao122 t851.length co122)) (fun _ h_ => h_.1)))) hb); replace HO853 := am_ (Kd.R_below (kr_ ((Kd.R_mono (Kd.R_far (p := ⟨gb855, 0, none⟩) (Kd.R_types HO853.out BK855.out (by decide)) (fun _ hk => hk.2) (.slice Ao122 t851.length co122)) (fun _ h_ => h_.1)))) hb); replace BK804 := am_ (blk_below (g := gb804) (o := .cells #[.slice Ao33 t801.length co33] 29 (0, 0)) (bf_ BK804.out) hb); replace BK809 := am_ (blk_below (g := gb809) (o := .cells #[.slice Ao37 t805.length co37] 29 (0, 0)) (bf_ BK809.out) hb); replace BK814 := am_ (blk_below (g := gb814) (o := .cells #[.slice Ao43 t810.length co43] 29 (0, 0)) (bf_ BK814.out) hb); replace BK818 := am_ (blk_below (g := gb818) (o := .cells #[.slice Ao49 t815.length co49] 29 (0, 0)) (bf_ BK818.out) hb); replace BK832 := am_ (blk_below (g := gb832) (o := .cells #[.slice Ao62 t828.length co62] 29 (0, 0)) (bf_ BK832.out) hb); replace BK837 := am_ (blk_below (g := gb837) (o := .cells #[.slice Ao71 t833.length co71] 29 (0, 0)) (bf_ BK837.out) hb); replace BK855 := am_ (blk_below (g := gb855) (o := .cells #[.slice Ao122 t851.length co122] 29 (0, 0)) (by (with_reducible repeat (first | refine blk_drewN ?_ _ | refine blk_drew ?_ | refine blk_alloc ?_ _)); refine blk_put (cs := #[.slice none 0 0]) ?_ 0 _ rfl; (with_reducible repeat (first | refine blk_drewN ?_ _ | refine blk_drew ?_ | refine blk_alloc ?_ _)); exact BK855.out) hb); replace HB := bs_ HB hb; (try clear hb); (try clear hb2); (try clear hk); (try clear hi); have hnb132 := NB804_814.out; have hnc132 := NB814_804.out; have hnb133 := NB804_818.out; have hnc133 := NB818_804.out; have hnb134 := NB804_832.out; have hnc134 := NB832_804.out; have hnb135 := NB804_837.out; have hnc135 := NB837_804.out; have hcz136_0 := bc_ BK804; have hfz136_0 := blk_frozen BK804.out 0; have hcz137_0 := bc_ BK809; have hfz137_0 := blk_frozen BK809.out 0) | (go_at_call 32; (with_reducible refine (impl_IsWithin.calls kj29 _ _ t801 _ _ t805 true _ ?side1 ?side2 ?side3 ?side4 A109.out).mono ?_); (case side1 => exact qs_ HO_805000); (case side2 => exact (Kd.Q_reads' HO_805000.out).2.1); (case side3 => exact qs_ HO_810000); (case side4 => exact (Kd.Q_reads' HO_810000.out).2.1); rintro e w138 ⟨rfl, hb⟩; replace HO_22 := rb_ HO_22 hb; replace HO_805000 := qb_ HO_805000 hb; replace HO_810000 := qb_ HO_810000 hb; replace HO_815000 := qb_ HO_815000 hb; replace HO_819000 := qb_ HO_819000 hb; replace HO_833000 := qb_ HO_833000 hb; replace HO_838000 := qb_ HO_838000 hb; replace HO853 := rb_ HO853 hb; replace BK804 := bb_ BK804 hb; replace BK809 := bb_ BK809 hb; replace BK814 := bb_ BK814 hb; replace BK818 := bb_ BK818 hb; replace BK832 := bb_ BK832 hb; replace BK837 := bb_ BK837 hb; replace BK855 := bb_ BK855 hb; replace HB := bs_ HB hb; (try clear hb); (try clear hb2); (try clear hk); (try clear hi); have hcz139_0 := bc_ BK855; have hfz139_0 := blk_frozen BK855.out 0; have hcz140_0 := bc_ BK809; have hfz140_0 := blk_frozen BK809.out 0) | (go_at_call 28; (with_reducible refine (spec_EqualSemigroup.calls kj29 _ _ t851 _ _ t805 true _ ?side1 ?side2 ?side3 ?side4 A112.out).mono ?_); (case side1 => exact rs_ HO853); (case side2 => exact (Kd.R_reads' HO853.out).2.1); (case side3 => exact qs_ HO_810000); (case side4 => exact (Kd.Q_reads' HO_810000.out).2.1); rintro e w141 ⟨rfl, hb⟩; replace HO_22 := rb_ HO_22 hb; replace HO_805000 := qb_ HO_805000 hb; replace HO_810000 := qb_ HO_810000 hb; replace HO_815000 := qb_ HO_815000 hb; replace HO_819000 := qb_ HO_819000 hb; replace HO_833000 := qb_ HO_833000 hb; replace HO_838000 := qb_ HO_838000 hb; replace HO853 := rb_ HO853 hb; replace BK804 := bb_ BK804 hb; replace BK809 := bb_ BK809 hb; replace BK814 := bb_ BK814 hb; replace BK818 := bb_ BK818 hb; replace BK832 := bb_ BK832 hb; replace BK837 := bb_ BK837 hb; replace BK855 := bb_ BK855 hb; replace HB := bs_ HB hb; (try clear hb); (try clear hb2); (try clear hk); (try clear hi)))
    go_meet
    case rel => exact ⟨_, H', ⟨by have := HJ29.out; first | omega | exact Nat.le_refl _⟩, ⟨kr_ (Kd.R_mono HO_22.out (fun _ hk => ⟨hk.1.1, ⟨hk.1.2.1, ⟨hk.1.2.2.1, ⟨hk.1.2.2.2.1, ⟨hk.1.2.2.2.2.1, hk.1.2.2.2.2.2⟩⟩⟩⟩⟩))⟩, ⟨kq_ (Kd.Q_mono HO_805000.out (fun _ hk => ⟨hk.1.1, ⟨hk.1.2.1, ⟨hk.1.2.2.1, ⟨hk.1.2.2.2.1, ⟨hk.1.2.2.2.2.1, hk.1.2.2.2.2.2⟩⟩⟩⟩⟩))⟩, ⟨kq_ (Kd.Q_mono HO_810000.out (fun _ hk => ⟨hk.1.1, ⟨hk.1.2.1, ⟨hk.1.2.2.1, ⟨hk.1.2.2.2.1, ⟨hk.1.2.2.2.2.1, hk.1.2.2.2.2.2⟩⟩⟩⟩⟩))⟩, ⟨kq_ (Kd.Q_mono HO_815000.out (fun _ hk => ⟨hk.1.1, ⟨hk.1.2.1, ⟨hk.1.2.2.1, ⟨hk.1.2.2.2.1, ⟨hk.1.2.2.2.2.1, hk.1.2.2.2.2.2⟩⟩⟩⟩⟩))⟩, ⟨kq_ (Kd.Q_mono HO_819000.out (fun _ hk => ⟨hk.1.1, ⟨hk.1.2.1, ⟨hk.1.2.2.1, ⟨hk.1.2.2.2.1, ⟨hk.1.2.2.2.2.1, hk.1.2.2.2.2.2⟩⟩⟩⟩⟩))⟩, ⟨kq_ (Kd.Q_mono HO_833000.out (fun _ hk => ⟨hk.1.1, ⟨hk.1.2.1, ⟨hk.1.2.2.1, ⟨hk.1.2.2.2.1, ⟨hk.1.2.2.2.2.1, hk.1.2.2.2.2.2⟩⟩⟩⟩⟩))⟩, ⟨kq_ (Kd.Q_mono HO_838000.out (fun _ hk => ⟨hk.1.1, ⟨hk.1.2.1, ⟨hk.1.2.2.1, ⟨hk.1.2.2.2.1, ⟨hk.1.2.2.2.2.1, hk.1.2.2.2.2.2⟩⟩⟩⟩⟩))⟩, ⟨bk_ BK804.out⟩, ⟨bk_ BK809.out⟩, ⟨bk_ BK814.out⟩, ⟨bk_ BK818.out⟩, ⟨bk_ BK832.out⟩, ⟨bk_ BK837.out⟩, ⟨bl_ HB.out⟩⟩
   case rest =>
    clear HC104
    try clear c1
    try clear c2
    try clear p2
    try clear c3
    try clear c4
    try clear c5
    try clear c6
    try clear p6
    try clear c7
    try clear c9
    try clear c10
    try clear c11
    try clear c12
    try clear c13
    try clear c16
    try clear c17
    try clear c18
    try clear c25
    try clear c26
    try clear c29
    try clear c38
    try clear c44
    try clear c45
    try clear c50
    try clear c51
    try clear c52
    try clear c63
    try clear c64
    try clear p64
    try clear c65
    try clear c66
    try clear c72
    try clear c73
    try clear c74
    try clear c75
    try clear c76
    try clear c93
    try clear c94
    try clear c96
    try clear c97
    try clear c98
    try clear c99
    try clear c100
    try clear c103
    try clear c105
    try clear c108
    try clear c110
    try clear c111
    try clear c113
    try clear c114
    try clear c115
    try clear c116
    try clear c117
    try clear c118
    try clear c123
    try clear c124
    try clear c125
    try clear c126
    try clear c127
    try clear c128
    try clear c132
    try clear c133
    try clear c134
    try clear c135
    try clear hcz101_0
    try clear hcz119_0
    try clear hcz129_0
    try clear hcz130_0
    try clear hcz136_0
    try clear hcz137_0
    try clear hcz139_0
    try clear hcz140_0
    try clear hcz34_0
    try clear hcz39_0
    try clear hcz40_0
    try clear hcz46_0
    try clear hcz53_0
    try clear hcz55_0
    try clear hcz57_0
    try clear hcz59_0
    try clear hcz67_0
    try clear hcz68_0
    try clear hcz77_0
    try clear hcz79_0
    try clear hcz81_0
    try clear hcz83_0
    try clear hcz84_0
    try clear hcz86_0
    try clear hcz88_0
    try clear hcz89_0
    try clear hfz101_0
    try clear hfz119_0
    try clear hfz129_0
    try clear hfz130_0
    try clear hfz136_0
    try clear hfz137_0
    try clear hfz139_0
    try clear hfz140_0
    try clear hfz34_0
    try clear hfz39_0
    try clear hfz40_0
    try clear hfz46_0
    try clear hfz53_0
    try clear hfz55_0
    try clear hfz57_0
    try clear hfz59_0
    try clear hfz67_0
    try clear hfz68_0
    try clear hfz77_0
    try clear hfz79_0
    try clear hfz81_0
    try clear hfz83_0
    try clear hfz84_0
    try clear hfz86_0
    try clear hfz88_0
    try clear hfz89_0
    obtain ⟨kq, HA, HJ103, HO_22, HO_805000, HO_810000, HO_815000, HO_819000, HO_833000, HO_838000, BK804, BK809, BK814, BK818, BK832, BK837, HB⟩ := hcut
    cases kq with
    | zero => exact absurd HA.out (by simp [laws_FnArf.j1])
    | succ kj103 =>
     have H := HA.out
     clear HA
     simp only [laws_FnArf.j1] at H
     have H' := am_ H
     clear H
     go_wp2
     go_loopg [28, 29] kj103 (fun kq v28 v29 w' => ∃ (x28_3 : Int) (x29_3 : Int), v28 = .int .i64 x28_3 ∧ v29 = .int .i64 x29_3 ∧ Aside0 (laws_FnArf.l0 kq t819 t838 t841 x28_3 x29_3 t815 = some r) ∧ Aside0 (kq ≤ kj103) ∧ Aside0 (Kd.R (Kd.int .i64) 3 w' w.heap.size (fun k_ => some k_ ≠ ((.slice Ao33 t801.length co33) : Value).ownBlock ∧ some k_ ≠ ((.slice Ao37 t805.length co37) : Value).ownBlock ∧ some k_ ≠ ((.slice Ao43 t810.length co43) : Value).ownBlock ∧ some k_ ≠ ((.slice Ao49 t815.length co49) : Value).ownBlock ∧ some k_ ≠ ((.slice Ao62 t828.length co62) : Value).ownBlock ∧ some k_ ≠ ((.slice Ao71 t833.length co71) : Value).ownBlock) (.slice Ao91 t838.length co91) t838) ∧ Aside0 (Kd.Q (Kd.int .i64) 3 w' w.heap.size (fun k_ => some k_ ≠ ((.slice Ao91 t838.length co91) : Value).ownBlock ∧ some k_ ≠ ((.slice Ao37 t805.length co37) : Value).ownBlock ∧ some k_ ≠ ((.slice Ao43 t810.length co43) : Value).ownBlock ∧ some k_ ≠ ((.slice Ao49 t815.length co49) : Value).ownBlock ∧ some k_ ≠ ((.slice Ao62 t828.length co62) : Value).ownBlock ∧ some k_ ≠ ((.slice Ao71 t833.length co71) : Value).ownBlock) (.slice Ao33 t801.length co33) t801) ∧ Aside0 (Kd.Q (Kd.int .i64) 3 w' w.heap.size (fun k_ => some k_ ≠ ((.slice Ao91 t838.length co91) : Value).ownBlock ∧ some k_ ≠ ((.slice Ao33 t801.length co33) : Value).ownBlock ∧ some k_ ≠ ((.slice Ao43 t810.length co43) : Value).ownBlock ∧ some k_ ≠ ((.slice Ao49 t815.length co49) : Value).ownBlock ∧ some k_ ≠ ((.slice Ao62 t828.length co62) : Value).ownBlock ∧ some k_ ≠ ((.slice Ao71 t833.length co71) : Value).ownBlock) (.slice Ao37 t805.length co37) t805) ∧ Aside0 (Kd.Q (Kd.int .i64) 3 w' w.heap.size (fun k_ => some k_ ≠ ((.slice Ao91 t838.length co91) : Value).ownBlock ∧ some k_ ≠ ((.slice Ao33 t801.length co33) : Value).ownBlock ∧ some k_ ≠ ((.slice Ao37 t805.length co37) : Value).ownBlock ∧ some k_ ≠ ((.slice Ao49 t815.length co49) : Value).ownBlock ∧ some k_ ≠ ((.slice Ao62 t828.length co62) : Value).ownBlock ∧ some k_ ≠ ((.slice Ao71 t833.length co71) : Value).ownBlock) (.slice Ao43 t810.length co43) t810) ∧ Aside0 (Kd.Q (Kd.int .i64) 3 w' w.heap.size (fun k_ => some k_ ≠ ((.slice Ao91 t838.length co91) : Value).ownBlock ∧ some k_ ≠ ((.slice Ao33 t801.length co33) : Value).ownBlock ∧ some k_ ≠ ((.slice Ao37 t805.length co37) : Value).ownBlock ∧ some k_ ≠ ((.slice Ao43 t810.length co43) : Value).ownBlock ∧ some k_ ≠ ((.slice Ao62 t828.length co62) : Value).ownBlock ∧ some k_ ≠ ((.slice Ao71 t833.length co71) : Value).ownBlock) (.slice Ao49 t815.length co49) t815) ∧ Aside0 (Kd.Q (Kd.int .i64) 3 w' w.heap.size (fun k_ => some k_ ≠ ((.slice Ao91 t838.length co91) : Value).ownBlock ∧ some k_ ≠ ((.slice Ao33 t801.length co33) : Value).ownBlock ∧ some k_ ≠ ((.slice Ao37 t805.length co37) : Value).ownBlock ∧ some k_ ≠ ((.slice Ao43 t810.length co43) : Value).ownBlock ∧ some k_ ≠ ((.slice Ao49 t815.length co49) : Value).ownBlock ∧ some k_ ≠ ((.slice Ao71 t833.length co71) : Value).ownBlock) (.slice Ao62 t828.length co62) t828) ∧ Aside0 (Kd.Q (Kd.int .i64) 3 w' w.heap.size (fun k_ => some k_ ≠ ((.slice Ao91 t838.length co91) : Value).ownBlock ∧ some k_ ≠ ((.slice Ao33 t801.length co33) : Value).ownBlock ∧ some k_ ≠ ((.slice Ao37 t805.length co37) : Value).ownBlock ∧ some k_ ≠ ((.slice Ao43 t810.length co43) : Value).ownBlock ∧ some k_ ≠ ((.slice Ao49 t815.length co49) : Value).ownBlock ∧ some k_ ≠ ((.slice Ao62 t828.length co62) : Value).ownBlock) (.slice Ao71 t833.length co71) t833) ∧ Aside0 (w'.heap[gb804]? = some (.cells #[(.slice Ao33 t801.length co33)] 29 (0, 0))) ∧ Aside0 (w'.heap[gb809]? = some (.cells #[(.slice Ao37 t805.length co37)] 29 (0, 0))) ∧ Aside0 (w'.heap[gb814]? = some (.cells #[(.slice Ao43 t810.length co43)] 29 (0, 0))) ∧ Aside0 (w'.heap[gb818]? = some (.cells #[(.slice Ao49 t815.length co49)] 29 (0, 0))) ∧ Aside0 (w'.heap[gb832]? = some (.cells #[(.slice Ao62 t828.length co62)] 29 (0, 0))) ∧ Aside0 (w'.heap[gb837]? = some (.cells #[(.slice Ao71 t833.length co71)] 29 (0, 0))) ∧ Aside0 (Below w.heap.size w w'))
     case atStart => exact ⟨(0), (0), sd_, sd_, H', ⟨Nat.le_refl _⟩, ⟨kr_ HO_22.out⟩, ⟨kq_ HO_805000.out⟩, ⟨kq_ HO_810000.out⟩, ⟨kq_ HO_815000.out⟩, ⟨kq_ HO_819000.out⟩, ⟨kq_ HO_833000.out⟩, ⟨kq_ HO_838000.out⟩, ⟨bk_ BK804.out⟩, ⟨bk_ BK809.out⟩, ⟨bk_ BK814.out⟩, ⟨bk_ BK818.out⟩, ⟨bk_ BK832.out⟩, ⟨bk_ BK837.out⟩, ⟨bl_ HB.out⟩⟩
     case round =>
      clear H'
      try clear c1
      try clear c2
      try clear p2
      try clear c3
      try clear c4
      try clear c5
      try clear c6
      try clear p6
      try clear c7
      try clear c9
      try clear c10
      try clear c11
      try clear c12
      try clear c13
      try clear c16
      try clear c17
      try clear c18
      try clear c25
      try clear c26
      try clear c29
      try clear c38
      try clear c44
      try clear c45
      try clear c50
      try clear c51
      try clear c52
      try clear c63
      try clear c64
      try clear p64
      try clear c65
      try clear c66
      try clear c72
      try clear c73
      try clear c74
      try clear c75
      try clear c76
      try clear c93
      try clear c94
      try clear c96
      try clear c97
      try clear c98
      try clear c99
      try clear c100
      try clear c103
      try clear c105
      try clear c108
      try clear c110
      try clear c111
      try clear c113
      try clear c114
      try clear c115
      try clear c116
      try clear c117
      try clear c118
      try clear c123
      try clear c124
      try clear c125
      try clear c126
      try clear c127
      try clear c128
      try clear c132
      try clear c133
      try clear c134
      try clear c135
      try clear hcz101_0
      try clear hcz119_0
      try clear hcz129_0
      try clear hcz130_0
      try clear hcz136_0
      try clear hcz137_0
      try clear hcz139_0
      try clear hcz140_0
      try clear hcz34_0
      try clear hcz39_0
      try clear hcz40_0
      try clear hcz46_0
      try clear hcz53_0
      try clear hcz55_0
      try clear hcz57_0
      try clear hcz59_0
      try clear hcz67_0
      try clear hcz68_0
      try clear hcz77_0
      try clear hcz79_0
      try clear hcz81_0
      try clear hcz83_0
      try clear hcz84_0
      try clear hcz86_0
      try clear hcz88_0
      try clear hcz89_0
      try clear hfz101_0
      try clear hfz119_0
      try clear hfz129_0
      try clear hfz130_0
      try clear hfz136_0
      try clear hfz137_0
      try clear hfz139_0
      try clear hfz140_0
      try clear hfz34_0
      try clear hfz39_0
      try clear hfz40_0
      try clear hfz46_0
      try clear hfz53_0
      try clear hfz55_0
      try clear hfz57_0
      try clear hfz59_0
      try clear hfz67_0
      try clear hfz68_0
      try clear hfz77_0
      try clear hfz79_0
      try clear hfz81_0
      try clear hfz83_0
      try clear hfz84_0
      try clear hfz86_0
      try clear hfz88_0
      try clear hfz89_0
      obtain ⟨x28_3, x29_3, rfl, rfl, HA, HK3, HO_22, HO_805000, HO_810000, HO_815000, HO_819000, HO_833000, HO_838000, BK804, BK809, BK814, BK818, BK832, BK837, HB⟩ := hrel
      cases gk with
      | zero => exact absurd HA.out (by simp [laws_FnArf.l0])
      | succ k3 =>
       have H := HA.out
       clear HA
       simp only [laws_FnArf.l0] at H
       have HC142 := am_ H
       clear H
       go_upto_region 24 with (fail)
       go_cut [186] (fun v186 wc => ∃ (kq : Nat) (x186_141 : Bool), v186 = .bool x186_141 ∧ Aside0 (laws_FnArf.j3 kq t819 t838 t841 x28_3 x29_3 x186_141 t815 = some r) ∧ Aside0 (kq ≤ k3) ∧ Aside0 (Kd.R (Kd.int .i64) 3 wc w.heap.size (fun k_ => some k_ ≠ ((.slice Ao33 t801.length co33) : Value).ownBlock ∧ some k_ ≠ ((.slice Ao37 t805.length co37) : Value).ownBlock ∧ some k_ ≠ ((.slice Ao43 t810.length co43) : Value).ownBlock ∧ some k_ ≠ ((.slice Ao49 t815.length co49) : Value).ownBlock ∧ some k_ ≠ ((.slice Ao62 t828.length co62) : Value).ownBlock ∧ some k_ ≠ ((.slice Ao71 t833.length co71) : Value).ownBlock) (.slice Ao91 t838.length co91) t838) ∧ Aside0 (Kd.Q (Kd.int .i64) 3 wc w.heap.size (fun k_ => some k_ ≠ ((.slice Ao91 t838.length co91) : Value).ownBlock ∧ some k_ ≠ ((.slice Ao37 t805.length co37) : Value).ownBlock ∧ some k_ ≠ ((.slice Ao43 t810.length co43) : Value).ownBlock ∧ some k_ ≠ ((.slice Ao49 t815.length co49) : Value).ownBlock ∧ some k_ ≠ ((.slice Ao62 t828.length co62) : Value).ownBlock ∧ some k_ ≠ ((.slice Ao71 t833.length co71) : Value).ownBlock) (.slice Ao33 t801.length co33) t801) ∧ Aside0 (Kd.Q (Kd.int .i64) 3 wc w.heap.size (fun k_ => some k_ ≠ ((.slice Ao91 t838.length co91) : Value).ownBlock ∧ some k_ ≠ ((.slice Ao33 t801.length co33) : Value).ownBlock ∧ some k_ ≠ ((.slice Ao43 t810.length co43) : Value).ownBlock ∧ some k_ ≠ ((.slice Ao49 t815.length co49) : Value).ownBlock ∧ some k_ ≠ ((.slice Ao62 t828.length co62) : Value).ownBlock ∧ some k_ ≠ ((.slice Ao71 t833.length co71) : Value).ownBlock) (.slice Ao37 t805.length co37) t805) ∧ Aside0 (Kd.Q (Kd.int .i64) 3 wc w.heap.size (fun k_ => some k_ ≠ ((.slice Ao91 t838.length co91) : Value).ownBlock ∧ some k_ ≠ ((.slice Ao33 t801.length co33) : Value).ownBlock ∧ some k_ ≠ ((.slice Ao37 t805.length co37) : Value).ownBlock ∧ some k_ ≠ ((.slice Ao49 t815.length co49) : Value).ownBlock ∧ some k_ ≠ ((.slice Ao62 t828.length co62) : Value).ownBlock ∧ some k_ ≠ ((.slice Ao71 t833.length co71) : Value).ownBlock) (.slice Ao43 t810.length co43) t810) ∧ Aside0 (Kd.Q (Kd.int .i64) 3 wc w.heap.size (fun k_ => some k_ ≠ ((.slice Ao91 t838.length co91) : Value).ownBlock ∧ some k_ ≠ ((.slice Ao33 t801.length co33) : Value).ownBlock ∧ some k_ ≠ ((.slice Ao37 t805.length co37) : Value).ownBlock ∧ some k_ ≠ ((.slice Ao43 t810.length co43) : Value).ownBlock ∧ some k_ ≠ ((.slice Ao62 t828.length co62) : Value).ownBlock ∧ some k_ ≠ ((.slice Ao71 t833.length co71) : Value).ownBlock) (.slice Ao49 t815.length co49) t815) ∧ Aside0 (Kd.Q (Kd.int .i64) 3 wc w.heap.size (fun k_ => some k_ ≠ ((.slice Ao91 t838.length co91) : Value).ownBlock ∧ some k_ ≠ ((.slice Ao33 t801.length co33) : Value).ownBlock ∧ some k_ ≠ ((.slice Ao37 t805.length co37) : Value).ownBlock ∧ some k_ ≠ ((.slice Ao43 t810.length co43) : Value).ownBlock ∧ some k_ ≠ ((.slice Ao49 t815.length co49) : Value).ownBlock ∧ some k_ ≠ ((.slice Ao71 t833.length co71) : Value).ownBlock) (.slice Ao62 t828.length co62) t828) ∧ Aside0 (Kd.Q (Kd.int .i64) 3 wc w.heap.size (fun k_ => some k_ ≠ ((.slice Ao91 t838.length co91) : Value).ownBlock ∧ some k_ ≠ ((.slice Ao33 t801.length co33) : Value).ownBlock ∧ some k_ ≠ ((.slice Ao37 t805.length co37) : Value).ownBlock ∧ some k_ ≠ ((.slice Ao43 t810.length co43) : Value).ownBlock ∧ some k_ ≠ ((.slice Ao49 t815.length co49) : Value).ownBlock ∧ some k_ ≠ ((.slice Ao62 t828.length co62) : Value).ownBlock) (.slice Ao71 t833.length co71) t833) ∧ Aside0 (wc.heap[gb804]? = some (.cells #[(.slice Ao33 t801.length co33)] 29 (0, 0))) ∧ Aside0 (wc.heap[gb809]? = some (.cells #[(.slice Ao37 t805.length co37)] 29 (0, 0))) ∧ Aside0 (wc.heap[gb814]? = some (.cells #[(.slice Ao43 t810.length co43)] 29 (0, 0))) ∧ Aside0 (wc.heap[gb818]? = some (.cells #[(.slice Ao49 t815.length co49)] 29 (0, 0))) ∧ Aside0 (wc.heap[gb832]? = some (.cells #[(.slice Ao62 t828.length co62)] 29 (0, 0))) ∧ Aside0 (wc.heap[gb837]? = some (.cells #[(.slice Ao71 t833.length co71)] 29 (0, 0))) ∧ Aside0 (Below w.heap.size w wc))
       case first =>
        have H := HC142.out
        clear HC142
        by_cases c143 : x29_3 < (t838.length : Int)
        ·rw [if_pos c143] at H
         have c143b0 := decide_eq_true c143
         clear c143
         (first | rw [c143b0] | (simp only [i64_w, i32_w]; rw [c143b0]) | skip)
         by_cases c144 : t819 = true
         ·subst c144
          rw [if_pos rfl] at H
          have H' := am_ H
          clear H
          go_wp2
          go_meet
          case rel => exact ⟨_, (t841), sd_, H', ⟨by have := HJ29.out; have := HJ103.out; have := HK3.out; first | omega | exact Nat.le_refl _⟩, ⟨kr_ HO_22.out⟩, ⟨kq_ HO_805000.out⟩, ⟨kq_ HO_810000.out⟩, ⟨kq_ HO_815000.out⟩, ⟨kq_ HO_819000.out⟩, ⟨kq_ HO_833000.out⟩, ⟨kq_ HO_838000.out⟩, ⟨bk_ BK804.out⟩, ⟨bk_ BK809.out⟩, ⟨bk_ BK814.out⟩, ⟨bk_ BK818.out⟩, ⟨bk_ BK832.out⟩, ⟨bk_ BK837.out⟩, ⟨bl_ HB.out⟩⟩
         obtain rfl := Bool.eq_false_iff.mpr c144
         rw [if_neg nf_] at H
         have H' := am_ H
         clear H
         go_wp2
         go_meet
         case rel => exact ⟨_, (false), sd_, H', ⟨by have := HJ29.out; have := HJ103.out; have := HK3.out; first | omega | exact Nat.le_refl _⟩, ⟨kr_ HO_22.out⟩, ⟨kq_ HO_805000.out⟩, ⟨kq_ HO_810000.out⟩, ⟨kq_ HO_815000.out⟩, ⟨kq_ HO_819000.out⟩, ⟨kq_ HO_833000.out⟩, ⟨kq_ HO_838000.out⟩, ⟨bk_ BK804.out⟩, ⟨bk_ BK809.out⟩, ⟨bk_ BK814.out⟩, ⟨bk_ BK818.out⟩, ⟨bk_ BK832.out⟩, ⟨bk_ BK837.out⟩, ⟨bl_ HB.out⟩⟩
        rw [if_neg c143] at H
        have c143b0 : decide (x29_3 < (t838.length : Int)) = false := decide_eq_false c143
        clear c143
        (first | rw [c143b0] | (simp only [i64_w, i32_w]; rw [c143b0]) | skip)
        have H' := am_ H
        clear H
        go_wp2
        go_meet
        case rel => exact ⟨_, (false), sd_, H', ⟨by have := HJ29.out; have := HJ103.out; have := HK3.out; first | omega | exact Nat.le_refl _⟩, ⟨kr_ HO_22.out⟩, ⟨kq_ HO_805000.out⟩, ⟨kq_ HO_810000.out⟩, ⟨kq_ HO_815000.out⟩, ⟨kq_ HO_819000.out⟩, ⟨kq_ HO_833000.out⟩, ⟨kq_ HO_838000.out⟩, ⟨bk_ BK804.out⟩, ⟨bk_ BK809.out⟩, ⟨bk_ BK814.out⟩, ⟨bk_ BK818.out⟩, ⟨bk_ BK832.out⟩, ⟨bk_ BK837.out⟩, ⟨bl_ HB.out⟩⟩
       case rest =>
        clear HC142
        try clear c1
        try clear c2
        try clear p2
        try clear c3
        try clear c4
        try clear c5
        try clear c6
        try clear p6
        try clear c7
        try clear c9
        try clear c10
        try clear c11
        try clear c12
        try clear c13
        try clear c14
        try clear c16
        try clear c17
        try clear c18
        try clear c25
        try clear c26
        try clear c29
        try clear c38
        try clear c44
        try clear c45
        try clear c50
        try clear c51
        try clear c52
        try clear c63
        try clear c64
        try clear p64
        try clear c65
        try clear c66
        try clear c72
        try clear c73
        try clear c74
        try clear c75
        try clear c76
        try clear c93
        try clear c94
        try clear c96
        try clear c97
        try clear c98
        try clear c99
        try clear c100
        try clear c103
        try clear c105
        try clear c108
        try clear c110
        try clear c111
        try clear c113
        try clear c114
        try clear c115
        try clear c116
        try clear c117
        try clear c118
        try clear c123
        try clear c124
        try clear c125
        try clear c126
        try clear c127
        try clear c128
        try clear c132
        try clear c133
        try clear c134
        try clear c135
        try clear c144
        try clear hcz101_0
        try clear hcz119_0
        try clear hcz129_0
        try clear hcz130_0
        try clear hcz136_0
        try clear hcz137_0
        try clear hcz139_0
        try clear hcz140_0
        try clear hcz34_0
        try clear hcz39_0
        try clear hcz40_0
        try clear hcz46_0
        try clear hcz53_0
        try clear hcz55_0
        try clear hcz57_0
        try clear hcz59_0
        try clear hcz67_0
        try clear hcz68_0
        try clear hcz77_0
        try clear hcz79_0
        try clear hcz81_0
        try clear hcz83_0
        try clear hcz84_0
        try clear hcz86_0
        try clear hcz88_0
        try clear hcz89_0
        try clear hfz101_0
        try clear hfz119_0
        try clear hfz129_0
        try clear hfz130_0
        try clear hfz136_0
        try clear hfz137_0
        try clear hfz139_0
        try clear hfz140_0
        try clear hfz34_0
        try clear hfz39_0
        try clear hfz40_0
        try clear hfz46_0
        try clear hfz53_0
        try clear hfz55_0
        try clear hfz57_0
        try clear hfz59_0
        try clear hfz67_0
        try clear hfz68_0
        try clear hfz77_0
        try clear hfz79_0
        try clear hfz81_0
        try clear hfz83_0
        try clear hfz84_0
        try clear hfz86_0
        try clear hfz88_0
        try clear hfz89_0
        obtain ⟨kq, x186_141, rfl, HA, HJ141, HO_22, HO_805000, HO_810000, HO_815000, HO_819000, HO_833000, HO_838000, BK804, BK809, BK814, BK818, BK832, BK837, HB⟩ := hcut
        cases kq with
        | zero => exact absurd HA.out (by simp [laws_FnArf.j3])
        | succ kj141 =>
         have H := HA.out
         clear HA
         simp only [laws_FnArf.j3] at H
         by_cases c145 : x186_141 = true
         rotate_left
         ·obtain rfl := Bool.eq_false_iff.mpr c145
          rw [if_neg nf_] at H
          obtain rfl := Option.some.inj H
          go_wp2
          go_ret
          exact ⟨er_, bl_ HB.out⟩
         subst c145
         rw [if_pos rfl] at H
         obtain ⟨c146, H⟩ := in_ H
         have c146b0 := decide_eq_true c146
         clear c146
         obtain ⟨c147, H⟩ := in_ H
         have c147b0 := decide_eq_true c147
         clear c147
         obtain ⟨t860, A148, H⟩ := ob_ H
         (try dsimp only at H)
         obtain ⟨c149, H⟩ := in_ H
         have c149b0 : (t860 == (wrap64 (x28_3 + (rd t838 x29_3)))) = true := beq_iff_eq.mpr c149
         have c149b1 : (t860 != (wrap64 (x28_3 + (rd t838 x29_3)))) = false := bne_eq_false_iff_eq.mpr c149
         clear c149
         have H' := am_ H
         clear H
         obtain ⟨p859, q859, ad859, e859, hx859_0⟩ := ri_ (Kd.at_int (Kd.R_reads' HO_22.out).2.2 x29_3)
         cases e859
         have hnb150 := NB818_804.out
         have hnc150 := NB804_818.out
         have hnb151 := NB818_809.out
         have hnc151 := NB809_818.out
         have hnb152 := NB818_814.out
         have hnc152 := NB814_818.out
         have hnb153 := NB818_832.out
         have hnc153 := NB832_818.out
         have hnb154 := NB818_837.out
         have hnc154 := NB837_818.out
         have hcz155_0 := bc_ BK818
         have hfz155_0 := blk_frozen BK818.out 0
         go_wp2_with (first | ((with_reducible refine gate_callee (f := 33) rfl ?_); refine gl_ 198 Try.func33 #[.agg #[.slice Ao49 t815.length co49], .int .i64 (wrap64 (x29_3 + 1))] ?_; (with_reducible refine (impl_ElementAt.calls kj141 _ _ t815 (wrap64 (x29_3 + 1)) t860 _ ?side1 ?side2 A148.out).mono ?_); (case side1 => exact qs_ HO_819000); (case side2 => exact (Kd.Q_reads' HO_819000.out).2.1); rintro e w156 ⟨rfl, hb⟩; refine ⟨_, rfl, ?_⟩; replace HO_22 := rb_ HO_22 hb; replace HO_805000 := qb_ HO_805000 hb; replace HO_810000 := qb_ HO_810000 hb; replace HO_815000 := qb_ HO_815000 hb; replace HO_819000 := qb_ HO_819000 hb; replace HO_833000 := qb_ HO_833000 hb; replace HO_838000 := qb_ HO_838000 hb; replace BK804 := bb_ BK804 hb; replace BK809 := bb_ BK809 hb; replace BK814 := bb_ BK814 hb; replace BK818 := bb_ BK818 hb; replace BK832 := bb_ BK832 hb; replace BK837 := bb_ BK837 hb; replace HB := bs_ HB hb; (try clear hb); (try clear hb2); (try clear hk); (try clear hi)))
         go_roundg kj141
         case measure => have := HJ29.out; have := HJ103.out; have := HK3.out; have := HJ141.out; omega
         case rel => exact ⟨(wrap64 (x28_3 + (rd t838 x29_3))), (wrap64 (x29_3 + 1)), sd_, sd_, H', ⟨by have := HJ29.out; have := HJ103.out; have := HK3.out; have := HJ141.out; omega⟩, ⟨kr_ HO_22.out⟩, ⟨kq_ HO_805000.out⟩, ⟨kq_ HO_810000.out⟩, ⟨kq_ HO_815000.out⟩, ⟨kq_ HO_819000.out⟩, ⟨kq_ HO_833000.out⟩, ⟨kq_ HO_838000.out⟩, ⟨bk_ BK804.out⟩, ⟨bk_ BK809.out⟩, ⟨bk_ BK814.out⟩, ⟨bk_ BK818.out⟩, ⟨bk_ BK832.out⟩, ⟨bk_ BK837.out⟩, ⟨bl_ HB.out⟩⟩
def laws_FnArf.Pure : Prop := ∀ (l0 : List Int), l0.length ≤ maxLen → l0.length * 1 ≤ 140737488351232 → (∀ x ∈ l0, (Lit.int .u8 x).wf = true) → ∃ k, laws_FnArf.f k l0 = some true
theorem laws_FnArf.walk (P : laws_FnArf.Pure) (a0 : Option Addr) (len0 cap0 : Nat) (z0 : List Int) (w : World) (w0 : (a0 = none ∧ len0 = 0 ∧ cap0 = 0 ∧ z0 = []) ∨ ∃ x, a0 = some x ∧ len0 ≤ cap0 ∧ cap0 ≤ maxLen ∧ z0.length = cap0 ∧ (∀ i, i < z0.length → w.cell? (x.add i) = some (.int .u8 (z0.getD i 0))) ∧ ∀ n ∈ z0, (Lit.int .u8 n).wf = true) (y0 : len0 * 1 ≤ 140737488351232) :
 Calls Try.prog 4 #[.slice a0 len0 cap0] w fun e w' => e = .returned (.bool true) ∧ Below w.heap.size w w' := by
 obtain ⟨l0, rfl, hr0, hm0, hw0, hc0⟩ := ReadsInt.ofRowC w0
 obtain ⟨k, h⟩ := P l0 hm0 y0 hw0
 refine (laws_FnArf.calls k _ _ l0 true w (Kd.C_of_reads (d := (0 : Int)) (h1 := fun _ => rfl) hr0) hc0 h).mono ?_
 rintro e w' ⟨rfl, hd⟩
 exact ⟨rfl, hd⟩
end Go.Proofs.Ytddgegejeoihaaa.PFnArf
end
section
namespace Go.Proofs.Ytddgegejeoihaaa.M
open Go Go.RowKit Go.Proofs.YtddgegejeoihaaaW.PrintWords
inductive Sums (g : List Int) : Int → Prop
 | zero : Sums g 0
 | add {n x : Int} : x ∈ g → Sums g n → Sums g (n + x)
theorem Sums.trans {g : List Int} {a b : Int} (ha : Sums g a) (hb : Sums g b) : Sums g (a + b) := by
 induction hb with
 | zero => simpa using ha
 | add hx _ ih => rw [← Int.add_assoc]; exact .add hx ih
theorem Sums.one {g : List Int} {x : Int} (h : x ∈ g) : Sums g x := by simpa using Sums.add h .zero
theorem Sums.sub {g g' : List Int} {n : Int} (h : ∀ x ∈ g, Sums g' x) (hn : Sums g n) : Sums g' n := by
 induction hn with
 | zero => exact .zero
 | add hx _ ih => exact ih.trans (h _ hx)
theorem Sums.mono {g g' : List Int} {n : Int} (h : ∀ x ∈ g, x ∈ g') (hn : Sums g n) : Sums g' n := hn.sub fun x hx => .one (h x hx)
theorem Sums.nonneg {g : List Int} {n : Int} (h : ∀ x ∈ g, 1 ≤ x) (hn : Sums g n) : 0 ≤ n := by
 induction hn with
 | zero => omega
 | add hx _ ih => have := h _ hx; omega
theorem Sums.step {g : List Int} {n : Int} (hn : Sums g n) (h0 : n ≠ 0) : ∃ x ∈ g, Sums g (n - x) := by
 cases hn with
 | zero => exact absurd rfl h0
 | add hx h => exact ⟨_, hx, by rw [Int.add_sub_cancel]; exact h⟩
theorem Sums.mul {g : List Int} {n : Int} (hn : Sums g n) (k : Nat) : Sums g (k * n) := by
 induction k with
 | zero => simpa using Sums.zero
 | succ k ih => rw [Int.natCast_succ, Int.add_mul, Int.one_mul]; exact ih.trans hn
theorem Sums.nil {n : Int} (h : Sums [] n) : n = 0 := by
 cases h with
 | zero => rfl
 | add hx _ => simp at hx
theorem Sums.step_le {g : List Int} (hg : ∀ x ∈ g, 1 ≤ x) {n : Int} : Sums g n ↔ n = 0 ∨ ∃ x ∈ g, x ≤ n ∧ Sums g (n - x) := by
 constructor
 ·intro h
  by_cases h0 : n = 0
  ·exact .inl h0
  ·obtain ⟨x, hx, h⟩ := h.step h0
   exact .inr ⟨x, hx, by have := h.nonneg hg; omega, h⟩
 ·rintro (rfl | ⟨x, hx, _, h⟩)
  ·exact .zero
  ·have := Sums.add hx h
   rwa [Int.sub_add_cancel] at this
theorem emod_add_congr {a b c d m : Int} (h1 : a % m = b % m) (h2 : c % m = d % m) : (a + c) % m = (b + d) % m := by
 rw [Int.add_emod, h1, h2, ← Int.add_emod]
theorem emod_mul_congr {a b m : Int} (k : Int) (h1 : a % m = b % m) : (k * a) % m = (k * b) % m := by
 rw [Int.mul_emod, h1, ← Int.mul_emod]
def Hits (g : List Int) (a d : Int) : Prop := ∃ n, Sums g n ∧ n % a = d % a
theorem Hits.add {g : List Int} {a d e : Int} : Hits g a d → Hits g a e → Hits g a (d + e) := by
 rintro ⟨n, hn, h1⟩ ⟨m, hm, h2⟩
 exact ⟨n + m, hn.trans hm, emod_add_congr h1 h2⟩
theorem Hits.mul {g : List Int} {a d : Int} (k : Nat) : Hits g a d → Hits g a (k * d) := by
 rintro ⟨n, hn, h1⟩
 exact ⟨k * n, hn.mul k, emod_mul_congr _ h1⟩
theorem Hits.congr {g : List Int} {a d e : Int} (h : Hits g a d) (he : d % a = e % a) : Hits g a e := by
 obtain ⟨n, hn, h1⟩ := h
 exact ⟨n, hn, h1.trans he⟩
theorem Hits.neg {g : List Int} {a d : Int} (ha : 1 ≤ a) (h : Hits g a d) : Hits g a (-d) := by
 have := Hits.mul (a - 1).toNat h
 refine this.congr ?_
 rw [Int.toNat_of_nonneg (by omega), Int.sub_mul, Int.one_mul, Int.sub_eq_add_neg, Int.add_comm, Int.add_mul_emod_self_left]
theorem Hits.sub {g : List Int} {a d e : Int} (ha : 1 ≤ a) (h : Hits g a d) (h' : Hits g a e) : Hits g a (d - e) := by
 rw [Int.sub_eq_add_neg]; exact h.add (h'.neg ha)
theorem Hits.zmul {g : List Int} {a d : Int} (ha : 1 ≤ a) (k : Int) (h : Hits g a d) : Hits g a (k * d) := by
 rcases Int.le_total 0 k with hk | hk
 ·have := h.mul k.toNat
  rwa [Int.toNat_of_nonneg hk] at this
 ·have := (h.mul (-k).toNat).neg ha
  rw [Int.toNat_of_nonneg (by omega), Int.neg_mul, Int.neg_neg] at this
  exact this
theorem Hits.gcd {g : List Int} {a : Int} (ha : 1 ≤ a) : ∀ (x y : Nat), Hits g a x → Hits g a y → Hits g a (Nat.gcd x y) := by
 intro x y
 induction x, y using Nat.gcd.induction with
 | H0 n => intro _ h; simpa using h
 | H1 m n hm ih =>
  intro h1 h2
  rw [Nat.gcd_rec]
  refine ih ?_ h1
  have e : ((n % m : Nat) : Int) = (n : Int) - ((n / m : Nat) : Int) * m := by
   have := Nat.mod_add_div n m
   have h3 : (n : Int) = ((n % m : Nat) : Int) + (m : Int) * ((n / m : Nat) : Int) := by exact_mod_cast this.symm
   rw [Int.mul_comm]; omega
  rw [e]
  exact h2.sub ha (h1.zmul ha _)
def gcdL (g : List Int) : Nat := g.foldl (fun d x => Nat.gcd d x.natAbs) 0
theorem gcdL_snoc (g : List Int) (x : Int) : gcdL (g ++ [x]) = Nat.gcd (gcdL g) x.natAbs := by simp [gcdL]
theorem hits_foldl {g0 : List Int} {a : Int} (ha : 1 ≤ a) (hpos : ∀ x ∈ g0, 0 ≤ x) (g : List Int) (hs : ∀ x ∈ g, x ∈ g0) : ∀ d : Nat, Hits g0 a d → Hits g0 a ((g.foldl (fun d x => Nat.gcd d x.natAbs) d : Nat) : Int) := by
 induction g with
 | nil => intro d h; exact h
 | cons y t ih =>
  intro d h
  simp only [List.foldl_cons]
  refine ih (fun x hx => hs x (List.mem_cons_of_mem _ hx)) _ (Hits.gcd ha _ _ h ?_)
  have hy := hs y List.mem_cons_self
  have := hpos y hy
  exact ⟨y, .one hy, by rw [Int.natAbs_of_nonneg this]⟩
theorem hits_gcdL {g : List Int} {a : Int} (ha : 1 ≤ a) (hpos : ∀ x ∈ g, 0 ≤ x) (k : Int) : Hits g a (k * gcdL g) :=
 (hits_foldl ha hpos g (fun _ h => h) 0 ⟨0, .zero, rfl⟩).zmul ha k
def InR (lo hi : Int) (g : List Int) : Prop := ∀ x ∈ g, lo ≤ x ∧ x ≤ hi
structure IsSG (g : List Int) : Prop where
 pos : 1 ≤ g.length
 le : g.length ≤ 12
 rng : InR 1 60 g
 asc : g.Pairwise (· < ·)
 gcd : gcdL g = 1
 minl : ∀ i : Nat, 1 ≤ i → i < g.length → ¬ Sums (g.take i) (g.getD i 0)
 ends : ∀ n : Int, 200 ≤ n → Sums g n
theorem ends_of {g : List Int} {a : Int} (ha : 1 ≤ a) (hag : a ∈ g) {B : Int} (h : ∀ n, B ≤ n → n < B + a → Sums g n) : ∀ n, B ≤ n → Sums g n := by
 intro n hn
 have e : n = B + (n - B) % a + ((n - B) / a) * a := by have := Int.emod_add_mul_ediv (n - B) a; rw [Int.mul_comm]; omega
 have h1 := Int.emod_nonneg (n - B) (show a ≠ 0 by omega)
 have h2 := Int.emod_lt_of_pos (n - B) (show 0 < a by omega)
 have h3 : 0 ≤ (n - B) / a := Int.ediv_nonneg (by omega) (by omega)
 rw [e]
 refine (h _ (by omega) (by omega)).trans ?_
 have := (Sums.one hag).mul ((n - B) / a).toNat
 rwa [Int.toNat_of_nonneg h3] at this
noncomputable def minOf : List Int → List Int → List Int
 | _, [] => []
 | seen, x :: t => open Classical in if Sums seen x then minOf (seen ++ [x]) t else x :: minOf (seen ++ [x]) t
end Go.Proofs.Ytddgegejeoihaaa.M
end
