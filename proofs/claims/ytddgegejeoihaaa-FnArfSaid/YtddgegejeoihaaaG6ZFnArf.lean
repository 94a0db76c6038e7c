/- Part 6 of the claim for FnArf, of the chain from the printed contracts and the plain laws to the row. It has no condition of its own. -/
import Derived.Test.YtddgegejeoihaaaG1ZFnArf
import Derived.Test.YtddgegejeoihaaaG5ZFnArf
section
namespace Go.Proofs.Ytddgegejeoihaaa.PFnArf
open Go.RowKit Go.Proofs.YtddgegejeoihaaaW.PrintWords Go.Proofs.YtddgegejeoihaaaW.PrintLast Go.Proofs.YtddgegejeoihaaaW.PrintMore
open Go.Proofs.Ytddgegejeoihaaa.SortW (bk_ kr_ t_ f_)
open Go.Proofs.Ytddgegejeoihaaa.SqW
attribute [local go_sem] max2_int min2_int max_two min_two max_three min_three max_four min_four
set_option maxHeartbeats 8000000
set_option maxRecDepth 100000
set_option linter.unusedVariables false
set_option linter.unusedSimpArgs false
def impl_Generates.f (k : Nat) (l0 : List Int) (a1 : Int) : Option (Bool) := (impl_usable.f k l0).bind fun t377 => (if t377 = true then ((impl_within.f a1 0 1000000).bind fun t378 => (if t378 = true then (if 0 < (l0.length : Int) then ((impl_leasts.f k l0 (rd l0 0)).bind fun t380 => (if (rd l0 0) = 0 then (none) else (if 0 ≤ (Int.tmod a1 (rd l0 0)) then (if (Int.tmod a1 (rd l0 0)) < (t380.length : Int) then (if (rd t380 (Int.tmod a1 (rd l0 0))) ≥ 0 then (some (decide ((rd t380 (Int.tmod a1 (rd l0 0))) ≤ a1))) else (some false)) else (none)) else (none)))) else (none)) else (some false))) else (some false))
def impl_Generates.T3 : Bool × List (List Nat × List Nat) := (true, [([], []), ([], []), ([1], [1]), ([2], [2]), ([0, 3], [0, 3]), ([], []), ([], []), ([6], [6]), ([7], [7]), ([5, 8], [5, 8]), ([4, 9], [4, 9]), ([10], [10]), ([11, 4, 0, 1, 2, 3, 4, 5, 6, 7, 8, 9, 10, 11], [11])])
def impl_Generates.B3 : List Nat := [0, 0, 2, 6, 15, 0, 0, 64, 192, 480, 1023, 2047, 4095]
theorem impl_Generates.tab3 : rtab .any (opsOf Try.f89 3) = impl_Generates.T3 := by kernel_rfl
theorem impl_Generates.bits3 : waitsOk impl_Generates.T3.2 impl_Generates.B3 = true := by kernel_rfl
theorem impl_Generates.calls (k : Nat) (A0 : Option Addr) (c0 : Nat) (l0 : List Int) (a1 : Int) (r : Bool) (w : World) (hr0 : Kd.C (Kd.int .i64) w A0 l0.length l0) (hc0 : l0.length ≤ c0) (h : impl_Generates.f k l0 a1 = some r) :
 Calls Try.prog 89 #[.slice A0 l0.length c0, .int .i64 a1] w fun e w' => e = .returned (.bool r) ∧ Below w.heap.size w w' := by
 have HR0 := am_ hr0
 have HC0 := am_ hc0
 clear hr0 hc0
 have HB := am_ (Below.refl w.heap.size w)
 have H := h
 clear h
 unfold impl_Generates.f at H
 obtain ⟨t377, A3, H⟩ := ob_ H
 (try dsimp only at H)
 by_cases c4 : t377 = true
 rotate_left
 ·obtain rfl := Bool.eq_false_iff.mpr c4
  rw [if_neg nf_] at H
  obtain rfl := Option.some.inj H
  go_enter Try.func89, Try.ntmps89
  go_wp2_with (first | ((with_reducible refine gate_callee (f := 107) rfl ?_); refine gl_ 7 Try.func107 #[.slice A0 l0.length c0] ?_; (with_reducible refine (impl_usable.calls k _ _ l0 false _ ?side1 ?side2 A3.out).mono ?_); (case side1 => repeat (first | exact HR0.out | (with_reducible refine Kd.C_alloc ?_ _) | (with_reducible refine Kd.C_drewN ?_ _) | (with_reducible refine Kd.C_drew ?_))); (case side2 => exact HC0.out); rintro e w' ⟨rfl, ⟨nd, rfl⟩⟩; refine ⟨_, rfl, ?_⟩))
  go_ret
  exact ⟨er_, bl_ HB.out⟩
 subst c4
 rw [if_pos rfl] at H
 obtain ⟨t378, A5, H⟩ := ob_ H
 (try dsimp only at H)
 by_cases c6 : t378 = true
 rotate_left
 ·obtain rfl := Bool.eq_false_iff.mpr c6
  rw [if_neg nf_] at H
  obtain rfl := Option.some.inj H
  go_enter Try.func89, Try.ntmps89
  go_wp2_with (first | ((with_reducible refine gate_callee (f := 107) rfl ?_); refine gl_ 7 Try.func107 #[.slice A0 l0.length c0] ?_; (with_reducible refine (impl_usable.calls k _ _ l0 true _ ?side1 ?side2 A3.out).mono ?_); (case side1 => repeat (first | exact HR0.out | (with_reducible refine Kd.C_alloc ?_ _) | (with_reducible refine Kd.C_drewN ?_ _) | (with_reducible refine Kd.C_drew ?_))); (case side2 => exact HC0.out); rintro e w' ⟨rfl, ⟨nd, rfl⟩⟩; refine ⟨_, rfl, ?_⟩) | (go_at_call 67; (with_reducible refine (impl_within.calls a1 0 1000000 false _ A5.out).mono ?_); rintro e w' ⟨rfl, ⟨nd, rfl⟩⟩))
  go_ret
  exact ⟨er_, bl_ HB.out⟩
 subst c6
 rw [if_pos rfl] at H
 obtain ⟨c7, H⟩ := in_ H
 have c7b0 := decide_eq_true c7
 have c7b1 : decide (0 < l0.length) = true := decide_eq_true (by omega)
 (try have c7b1t := of_decide_eq_true c7b1)
 clear c7
 obtain ⟨t380, A8, H⟩ := ob_ H
 (try dsimp only at H)
 obtain ⟨c9, H⟩ := ip_ H
 have c9b0 : ((rd l0 0) == 0) = false := beq_eq_false_iff_ne.mpr c9
 have c9b1 : ((rd l0 0) != 0) = true := bne_iff_ne.mpr c9
 obtain ⟨ji10, hji10⟩ : ∃ j_ : Int, (Int.tmod a1 (rd l0 0)) = j_ := ⟨_, rfl⟩
 replace H : (if 0 ≤ (ji10) then (if (ji10) < (t380.length : Int) then (if (rd t380 (ji10)) ≥ 0 then (some (decide ((rd t380 (ji10)) ≤ a1))) else (some false)) else (none)) else (none)) = some r := by first | (rw [hji10] at H; exact H) | (simp only [hji10] at H ⊢; exact H)
 (try rw [hji10] at A3)
 (try rw [hji10] at A5)
 (try rw [hji10] at A8)
 obtain ⟨c11, H⟩ := in_ H
 have c11b0 := decide_eq_true c11
 clear c11
 obtain ⟨c12, H⟩ := in_ H
 have c12b0 := decide_eq_true c12
 clear c12
 by_cases c13 : (rd t380 (ji10)) ≥ 0
 ·rw [if_pos c13] at H
  have c13b0 : decide (0 ≤ (rd t380 (ji10))) = true := decide_eq_true c13
  clear c13
  obtain rfl := Option.some.inj H
  go_enter Try.func89, Try.ntmps89
  try go_wp2_with (first | ((with_reducible refine gate_callee (f := 107) rfl ?_); refine gl_ 7 Try.func107 #[.slice A0 l0.length c0] ?_; (with_reducible refine (impl_usable.calls k _ _ l0 true _ ?side1 ?side2 A3.out).mono ?_); (case side1 => repeat (first | exact HR0.out | (with_reducible refine Kd.C_alloc ?_ _) | (with_reducible refine Kd.C_drewN ?_ _) | (with_reducible refine Kd.C_drew ?_))); (case side2 => exact HC0.out); rintro e w' ⟨rfl, ⟨nd, rfl⟩⟩; refine ⟨_, rfl, ?_⟩) | (go_at_call 67; (with_reducible refine (impl_within.calls a1 0 1000000 true _ A5.out).mono ?_); rintro e w' ⟨rfl, ⟨nd, rfl⟩⟩))
  replace HB := am_ (below_drew1 HB.out)
  have p379 : 0 ≤ (0 : Int) := (by omega)
  have q379 : 0 < (l0.length : Int) := od_
  obtain ⟨ad379, e379, hx379_0⟩ := Kd.at_int HR0.out 0 p379 q379
  have hw379_0 := hx379_0
  (try rw [show ((0 : Int)).toNat = 0 from rfl] at hw379_0)
  (try rw [show 0 * 1 = 0 from rfl] at hw379_0)
  (try rw [Addr.add_zero'] at hw379_0)
  cases e379
  have qi379 : (0 < l0.length) = True := eq_true (by omega)
  (try rw [show ((0 : Int)).toNat = 0 from rfl] at hx379_0)
  (try rw [Addr.add_zero'] at hx379_0)
  replace hx379_0 := (HB.out.cell (World.block_lt_of_cell? w _ hx379_0)).trans hx379_0
  replace p379 := eq_true p379
  replace q379 := eq_true q379
  have p383 : 0 ≤ (0 : Int) := (by omega)
  have q383 : 0 < (l0.length : Int) := od_
  obtain ⟨ad383, e383, hx383_0⟩ := Kd.at_int HR0.out 0 p383 q383
  have hw383_0 := hx383_0
  (try rw [show ((0 : Int)).toNat = 0 from rfl] at hw383_0)
  (try rw [show 0 * 1 = 0 from rfl] at hw383_0)
  (try rw [Addr.add_zero'] at hw383_0)
  obtain rfl : ad379 = ad383 := (by injection e383)
  have qi383 : (0 < l0.length) = True := eq_true (by omega)
  (try rw [show ((0 : Int)).toNat = 0 from rfl] at hx383_0)
  (try rw [Addr.add_zero'] at hx383_0)
  replace hx383_0 := (HB.out.cell (World.block_lt_of_cell? w _ hx383_0)).trans hx383_0
  replace p383 := eq_true p383
  replace q383 := eq_true q383
  refine start_ (n := 13) (S := fun w' => w'.cell? ad379 = some (.int .i64 (rd l0 0)) ∧ w'.cell? ad379 = some (.int .i64 (rd l0 0))) (ds := []) (fl_ 13 0) (by kernel_rfl) rfl rfl ⟨((HB.out.cell (World.block_lt_of_cell? w _ hw379_0)).trans hw379_0), ((HB.out.cell (World.block_lt_of_cell? w _ hw383_0)).trans hw383_0)⟩ (fun hHeld => ?_); refine with_tabW impl_Generates.tab3 impl_Generates.bits3 (fun HT_ HW_ => ?_)
  generalize w.drew = w14 at HB hx379_0 hx383_0 hHeld ⊢
  refine pu_ 0 14 (fl_ 13 1) ?_
  refine pu_ 1 15 (fl_ 13 2) ?_
  refine pu_ 2 16 (fl_ 13 3) ?_
  refine pu_ 5 19 (fm_ 13 39) ?_
  refine pu_ 6 20 (fm_ 13 103) ?_
  refine pu_ 7 21 (fm_ 13 231) ?_
  refine ta_ 3 17 (fm_ 13 239) ?_
  refine ta_ 8 22 (fm_ 13 495) ?_
  refine pu_ 9 23 (fm_ 13 1007) ?_
  refine on_ 4 18 (fl_ 13 10) fun K hK => ?_
  refine go_ Try.func90 #[.slice (some ad379) l0.length c0, .int .i64 (rd l0 0)] ?_
  with_reducible refine (impl_leasts.calls k _ _ l0 (rd l0 0) t380 _ ?side1 ?side2 A8.out).mono ?_
  (case side1 => exact cs_ HR0 HB)
  (case side2 => exact HC0.out)
  rintro e w15 ⟨v381, rfl, ho0, hb⟩
  refine ⟨_, rfl, ?_⟩
  have HO382 := rl_ ho0 HB
  replace HB := bs_ HB hb
  (try clear hb)
  (try clear hb2)
  (try clear hk)
  (try clear hi)
  (try clear ho0)
  obtain ⟨Ao16, co16, eo16⟩ := Kd.R_slice HO382.out
  (first | subst eo16 | (injection eo16 with f1_ f2_ f3_; have f4_ := f1_.symm; have f5_ := f3_.symm; clear f1_ f2_ f3_; subst f4_; subst f5_))
  obtain ⟨p384, q384, ad384, e384, hx384_0⟩ := ri_ (Kd.at_int (Kd.R_reads' HO382.out).2.2 (ji10))
  cases e384
  refine hK.out _ _ ⟨((HB.out.cell (World.block_lt_of_cell? w _ hw379_0)).trans hw379_0), ((HB.out.cell (World.block_lt_of_cell? w _ hw383_0)).trans hw383_0)⟩ (fun hHeld => ?_)
  clear hK K
  refine no_ 18 ?_
  refine pu_ 10 24 (fl_ 13 11) ?_
  have HSall_ := hHeld
  refine on_ 11 25 (fl_ 13 12) fun K hK => ?_
  refine value_ (w1 := ?_) (v := ?_) (by rfl) rfl ?_ ?_
  rotate_left 2
  ·go_simp
   constructor
   ·rfl
   rfl
  refine hK.out _ _ HSall_ (fun hHeld => ?_)
  clear hK K HSall_
  refine no_ 25 ?_
  refine pu_ 12 5 (fl_ 13 13) ?_
  refine done_ (done_of HT_.out (by kernel_rfl)) ?_
  try go_wp2
  go_ret
  exact ⟨by first | rfl | (simp [errW_none, errW_some] <;> rfl) | (simp only [← hji10]; first | rfl | (simp [errW_none, errW_some] <;> rfl)) | (simp [*, errW_none, errW_some] <;> rfl), bl_ HB.out⟩
 rw [if_neg c13] at H
 have c13b0 : decide (0 ≤ (rd t380 (ji10))) = false := decide_eq_false c13
 clear c13
 obtain rfl := Option.some.inj H
 go_enter Try.func89, Try.ntmps89
 try go_wp2_with (first | ((with_reducible refine gate_callee (f := 107) rfl ?_); refine gl_ 7 Try.func107 #[.slice A0 l0.length c0] ?_; (with_reducible refine (impl_usable.calls k _ _ l0 true _ ?side1 ?side2 A3.out).mono ?_); (case side1 => repeat (first | exact HR0.out | (with_reducible refine Kd.C_alloc ?_ _) | (with_reducible refine Kd.C_drewN ?_ _) | (with_reducible refine Kd.C_drew ?_))); (case side2 => exact HC0.out); rintro e w' ⟨rfl, ⟨nd, rfl⟩⟩; refine ⟨_, rfl, ?_⟩) | (go_at_call 67; (with_reducible refine (impl_within.calls a1 0 1000000 true _ A5.out).mono ?_); rintro e w' ⟨rfl, ⟨nd, rfl⟩⟩))
 replace HB := am_ (below_drew1 HB.out)
 have p379 : 0 ≤ (0 : Int) := (by omega)
 have q379 : 0 < (l0.length : Int) := od_
 obtain ⟨ad379, e379, hx379_0⟩ := Kd.at_int HR0.out 0 p379 q379
 have hw379_0 := hx379_0
 (try rw [show ((0 : Int)).toNat = 0 from rfl] at hw379_0)
 (try rw [show 0 * 1 = 0 from rfl] at hw379_0)
 (try rw [Addr.add_zero'] at hw379_0)
 cases e379
 have qi379 : (0 < l0.length) = True := eq_true (by omega)
 (try rw [show ((0 : Int)).toNat = 0 from rfl] at hx379_0)
 (try rw [Addr.add_zero'] at hx379_0)
 replace hx379_0 := (HB.out.cell (World.block_lt_of_cell? w _ hx379_0)).trans hx379_0
 replace p379 := eq_true p379
 replace q379 := eq_true q379
 have p383 : 0 ≤ (0 : Int) := (by omega)
 have q383 : 0 < (l0.length : Int) := od_
 obtain ⟨ad383, e383, hx383_0⟩ := Kd.at_int HR0.out 0 p383 q383
 have hw383_0 := hx383_0
 (try rw [show ((0 : Int)).toNat = 0 from rfl] at hw383_0)
 (try rw [show 0 * 1 = 0 from rfl] at hw383_0)
 (try rw [Addr.add_zero'] at hw383_0)
 obtain rfl : ad379 = ad383 := (by injection e383)
 have qi383 : (0 < l0.length) = True := eq_true (by omega)
 (try rw [show ((0 : Int)).toNat = 0 from rfl] at hx383_0)
 (try rw [Addr.add_zero'] at hx383_0)
 replace hx383_0 := (HB.out.cell (World.block_lt_of_cell? w _ hx383_0)).trans hx383_0
 replace p383 := eq_true p383
 replace q383 := eq_true q383
 refine start_ (n := 13) (S := fun w' => w'.cell? ad379 = some (.int .i64 (rd l0 0)) ∧ w'.cell? ad379 = some (.int .i64 (rd l0 0))) (ds := []) (fl_ 13 0) (by kernel_rfl) rfl rfl ⟨((HB.out.cell (World.block_lt_of_cell? w _ hw379_0)).trans hw379_0), ((HB.out.cell (World.block_lt_of_cell? w _ hw383_0)).trans hw383_0)⟩ (fun hHeld => ?_); refine with_tabW impl_Generates.tab3 impl_Generates.bits3 (fun HT_ HW_ => ?_)
 generalize w.drew = w17 at HB hx379_0 hx383_0 hHeld ⊢
 refine pu_ 0 14 (fl_ 13 1) ?_
 refine pu_ 1 15 (fl_ 13 2) ?_
 refine pu_ 2 16 (fl_ 13 3) ?_
 refine pu_ 5 19 (fm_ 13 39) ?_
 refine pu_ 6 20 (fm_ 13 103) ?_
 refine pu_ 7 21 (fm_ 13 231) ?_
 refine ta_ 3 17 (fm_ 13 239) ?_
 refine ta_ 8 22 (fm_ 13 495) ?_
 refine pu_ 9 23 (fm_ 13 1007) ?_
 refine on_ 4 18 (fl_ 13 10) fun K hK => ?_
 refine go_ Try.func90 #[.slice (some ad379) l0.length c0, .int .i64 (rd l0 0)] ?_
 with_reducible refine (impl_leasts.calls k _ _ l0 (rd l0 0) t380 _ ?side1 ?side2 A8.out).mono ?_
 (case side1 => exact cs_ HR0 HB)
 (case side2 => exact HC0.out)
 rintro e w18 ⟨v381, rfl, ho0, hb⟩
 refine ⟨_, rfl, ?_⟩
 have HO382 := rl_ ho0 HB
 replace HB := bs_ HB hb
 (try clear hb)
 (try clear hb2)
 (try clear hk)
 (try clear hi)
 (try clear ho0)
 obtain ⟨Ao19, co19, eo19⟩ := Kd.R_slice HO382.out
 (first | subst eo19 | (injection eo19 with f1_ f2_ f3_; have f4_ := f1_.symm; have f5_ := f3_.symm; clear f1_ f2_ f3_; subst f4_; subst f5_))
 obtain ⟨p384, q384, ad384, e384, hx384_0⟩ := ri_ (Kd.at_int (Kd.R_reads' HO382.out).2.2 (ji10))
 cases e384
 refine hK.out _ _ ⟨((HB.out.cell (World.block_lt_of_cell? w _ hw379_0)).trans hw379_0), ((HB.out.cell (World.block_lt_of_cell? w _ hw383_0)).trans hw383_0)⟩ (fun hHeld => ?_)
 clear hK K
 refine no_ 18 ?_
 refine pu_ 10 24 (fl_ 13 11) ?_
 have HSall_ := hHeld
 refine on_ 11 25 (fl_ 13 12) fun K hK => ?_
 refine value_ (w1 := ?_) (v := ?_) (by rfl) rfl ?_ ?_
 rotate_left 2
 ·go_simp
  constructor
  ·rfl
  rfl
 refine hK.out _ _ HSall_ (fun hHeld => ?_)
 clear hK K HSall_
 refine no_ 25 ?_
 refine pu_ 12 5 (fl_ 13 13) ?_
 refine done_ (done_of HT_.out (by kernel_rfl)) ?_
 try go_wp2
 go_ret
 exact ⟨by first | rfl | (simp [errW_none, errW_some] <;> rfl) | (simp only [← hji10]; first | rfl | (simp [errW_none, errW_some] <;> rfl)) | (simp [*, errW_none, errW_some] <;> rfl), bl_ HB.out⟩
mutual
def impl_IsSemigroup.j0 : Nat → List Int → Bool → Option (Bool)
 | 0, _, _ => none
 | k + 1, x3, x27 => if x27 = true then (some false) else (impl_IsSemigroup.l0 k x3 1)
def impl_IsSemigroup.l0 : Nat → List Int → Int → Option (Bool)
 | 0, _, _ => none
 | k + 1, x3, x4 => if x4 < (x3.length : Int) then (if 0 ≤ x4 then (if x4 ≤ (x3.length : Int) then ((impl_Generates.f k (x3.take (x4 : Int).toNat) (rd x3 x4)).bind fun t392 => (if t392 = true then (some false) else (impl_IsSemigroup.l0 k x3 (wrap64 (x4 + 1))))) else (none)) else (none)) else (if 0 < (x3.length : Int) then ((impl_leasts.f k x3 (rd x3 0)).bind fun t394 => (impl_IsSemigroup.l1 k x3 t394 (t394.length : Int) 0)) else (none))
def impl_IsSemigroup.l1 : Nat → List Int → List Int → Int → Int → Option (Bool)
 | 0, _, _, _, _ => none
 | k + 1, x3, x46, x47, x48 => if x48 < x47 then (if 0 ≤ x48 then (if x48 < (x46.length : Int) then (if 0 < (x3.length : Int) then (if (wrap64 ((rd x46 x48) - (rd x3 0))) ≥ 200 then (some false) else (impl_IsSemigroup.l1 k x3 x46 x47 (wrap64 (x48 + 1)))) else (none)) else (none)) else (none)) else (some true)
end
def impl_IsSemigroup.f (k : Nat) (l0_0 : List Int) : Option (Bool) := (impl_within.f (l0_0.length : Int) 1 12).bind fun t386 => (if t386 = true then ((impl_allWithin.f k l0_0 1 60).bind fun t387 => (if t387 = true then ((impl_IsAscending.f k l0_0).bind fun t388 => (if t388 = true then ((impl_GcdOfList.f k l0_0).bind fun t389 => (impl_IsSemigroup.j0 k l0_0 (t389 != 1))) else (impl_IsSemigroup.j0 k l0_0 true))) else (impl_IsSemigroup.j0 k l0_0 true))) else (impl_IsSemigroup.j0 k l0_0 true))
def impl_IsSemigroup.T7 : Bool × List (List Nat × List Nat) := (true, [([], []), ([], []), ([0, 1], [0, 1]), ([], []), ([], []), ([3, 4], [3, 4]), ([5], [5]), ([2, 6], [2, 6])])
def impl_IsSemigroup.B7 : List Nat := [0, 0, 3, 0, 0, 24, 56, 127]
theorem impl_IsSemigroup.tab7 : rtab .any (opsOf Try.f49 7) = impl_IsSemigroup.T7 := by kernel_rfl
theorem impl_IsSemigroup.bits7 : waitsOk impl_IsSemigroup.T7.2 impl_IsSemigroup.B7 = true := by kernel_rfl
theorem impl_IsSemigroup.calls (k : Nat) (A0_0 : Option Addr) (c0_0 : Nat) (l0_0 : List Int) (r : Bool) (w : World) (hr0_0 : Kd.C (Kd.int .i64) w A0_0 l0_0.length l0_0) (hc0_0 : l0_0.length ≤ c0_0) (h : impl_IsSemigroup.f k l0_0 = some r) :
 Calls Try.prog 49 #[.agg #[.slice A0_0 l0_0.length c0_0]] w fun e w' => e = .returned (.bool r) ∧ Below w.heap.size w w' := by
 have hu29 := Try.underlying29
 have HR0_0 := am_ hr0_0
 have HC0_0 := am_ hc0_0
 clear hr0_0 hc0_0
 have HB := am_ (Below.refl w.heap.size w)
 have H := h
 clear h
 unfold impl_IsSemigroup.f at H
 have HC2 := am_ H
 clear H
 go_enter Try.func49, Try.ntmps49
 go_upto_region 2 with (first | ((with_reducible refine gate_dst (N := 1) rfl ?_); refine be_ 1 #[.slice A0_0 l0_0.length c0_0] 29 fun gb385 hg w3 hbox hb => ?_; have BK385 := am_ (hbox); have GW385 := ge_ hg HB; have GE385 := ge_ hg HB; replace HB := bs_ HB hb; clear hb hbox hg; have hcz4_0 := bc_ BK385; have hfz4_0 := blk_frozen BK385.out 0))
 (try simp only [Act.put, List.setIfInBounds_toArray, List.set_cons_zero, List.set_cons_succ])
 go_cut [27] (fun v27 wc => ∃ (kq : Nat) (x27_1 : Bool), v27 = .bool x27_1 ∧ Aside0 (impl_IsSemigroup.j0 kq l0_0 x27_1 = some r) ∧ Aside0 (kq ≤ k) ∧ Aside0 (wc.heap[gb385]? = some (.cells #[(.slice A0_0 l0_0.length c0_0)] 29 (0, 0))) ∧ Aside0 (Below w.heap.size w wc))
 case first =>
  have H := HC2.out
  clear HC2
  obtain ⟨t386, A5, H⟩ := ob_ H
  (try dsimp only at H)
  by_cases c6 : t386 = true
  rotate_left
  ·obtain rfl := Bool.eq_false_iff.mpr c6
   rw [if_neg nf_] at H
   have H' := am_ H
   clear H
   go_wp2_with (first | ((with_reducible refine gate_callee (f := 67) rfl ?_); refine gl_ 11 Try.func67 #[.int .i64 (l0_0.length : Int), .int .i64 1, .int .i64 12] ?_; (with_reducible refine (impl_within.calls (l0_0.length : Int) 1 12 false _ A5.out).mono ?_); rintro e w' ⟨rfl, ⟨nd, rfl⟩⟩; refine ⟨_, rfl, ?_⟩))
   go_meet
   case rel => exact ⟨_, (true), sd_, H', ⟨le_⟩, ⟨bk_ BK385.out⟩, ⟨bl_ HB.out⟩⟩
  subst c6
  rw [if_pos rfl] at H
  obtain ⟨t387, A7, H⟩ := ob_ H
  (try dsimp only at H)
  by_cases c8 : t387 = true
  rotate_left
  ·obtain rfl := Bool.eq_false_iff.mpr c8
   rw [if_neg nf_] at H
   have H' := am_ H
   clear H
   go_wp2_with (first | ((with_reducible refine gate_callee (f := 67) rfl ?_); refine gl_ 11 Try.func67 #[.int .i64 (l0_0.length : Int), .int .i64 1, .int .i64 12] ?_; (with_reducible refine (impl_within.calls (l0_0.length : Int) 1 12 true _ A5.out).mono ?_); rintro e w' ⟨rfl, ⟨nd, rfl⟩⟩; refine ⟨_, rfl, ?_⟩) | (go_at_call 86; (with_reducible refine (impl_allWithin.calls k _ _ l0_0 1 60 false _ ?side1 ?side2 A7.out).mono ?_); (case side1 => exact cs_ HR0_0 HB); (case side2 => exact HC0_0.out); rintro e w' ⟨rfl, ⟨nd, rfl⟩⟩))
   go_meet
   case rel => exact ⟨_, (true), sd_, H', ⟨le_⟩, ⟨bk_ BK385.out⟩, ⟨bl_ HB.out⟩⟩
  subst c8
  rw [if_pos rfl] at H
  obtain ⟨t388, A9, H⟩ := ob_ H
  (try dsimp only at H)
  by_cases c10 : t388 = true
  ·subst c10
   rw [if_pos rfl] at H
   obtain ⟨t389, A11, H⟩ := ob_ H
   (try dsimp only at H)
   have H' := am_ H
   clear H
   go_wp2_with (first | ((with_reducible refine gate_callee (f := 67) rfl ?_); refine gl_ 11 Try.func67 #[.int .i64 (l0_0.length : Int), .int .i64 1, .int .i64 12] ?_; (with_reducible refine (impl_within.calls (l0_0.length : Int) 1 12 true _ A5.out).mono ?_); rintro e w' ⟨rfl, ⟨nd, rfl⟩⟩; refine ⟨_, rfl, ?_⟩) | (go_at_call 86; (with_reducible refine (impl_allWithin.calls k _ _ l0_0 1 60 true _ ?side1 ?side2 A7.out).mono ?_); (case side1 => exact cs_ HR0_0 HB); (case side2 => exact HC0_0.out); rintro e w' ⟨rfl, ⟨nd, rfl⟩⟩) | (go_at_call 87; (with_reducible refine (impl_IsAscending.calls k _ _ l0_0 true _ ?side1 ?side2 A9.out).mono ?_); (case side1 => exact cs_ HR0_0 HB); (case side2 => exact HC0_0.out); rintro e w' ⟨rfl, ⟨nd, rfl⟩⟩) | (go_at_call 88; (with_reducible refine (impl_GcdOfList.calls k _ _ l0_0 t389 _ ?side1 ?side2 A11.out).mono ?_); (case side1 => exact cs_ HR0_0 HB); (case side2 => exact HC0_0.out); rintro e w12 ⟨rfl, hb⟩; replace BK385 := bb_ BK385 hb; replace HB := bs_ HB hb; (try clear hb); (try clear hb2); (try clear hk); (try clear hi)))
   go_meet
   case rel => exact ⟨_, ((t389 != 1)), sd_, H', ⟨le_⟩, ⟨bk_ BK385.out⟩, ⟨bl_ HB.out⟩⟩
  obtain rfl := Bool.eq_false_iff.mpr c10
  rw [if_neg nf_] at H
  have H' := am_ H
  clear H
  go_wp2_with (first | ((with_reducible refine gate_callee (f := 67) rfl ?_); refine gl_ 11 Try.func67 #[.int .i64 (l0_0.length : Int), .int .i64 1, .int .i64 12] ?_; (with_reducible refine (impl_within.calls (l0_0.length : Int) 1 12 true _ A5.out).mono ?_); rintro e w' ⟨rfl, ⟨nd, rfl⟩⟩; refine ⟨_, rfl, ?_⟩) | (go_at_call 86; (with_reducible refine (impl_allWithin.calls k _ _ l0_0 1 60 true _ ?side1 ?side2 A7.out).mono ?_); (case side1 => exact cs_ HR0_0 HB); (case side2 => exact HC0_0.out); rintro e w' ⟨rfl, ⟨nd, rfl⟩⟩) | (go_at_call 87; (with_reducible refine (impl_IsAscending.calls k _ _ l0_0 false _ ?side1 ?side2 A9.out).mono ?_); (case side1 => exact cs_ HR0_0 HB); (case side2 => exact HC0_0.out); rintro e w' ⟨rfl, ⟨nd, rfl⟩⟩))
  go_meet
  case rel => exact ⟨_, (true), sd_, H', ⟨le_⟩, ⟨bk_ BK385.out⟩, ⟨bl_ HB.out⟩⟩
 case rest =>
  clear HC2
  try clear c1
  try clear p2
  try clear c4
  try clear c6
  try clear c8
  try clear c10
  try clear hcz4_0
  try clear hfz4_0
  obtain ⟨kq, x27_1, rfl, HA, HJ1, BK385, HB⟩ := hcut
  cases kq with
  | zero => exact absurd HA.out (by simp [impl_IsSemigroup.j0])
  | succ kj1 =>
   have H := HA.out
   clear HA
   simp only [impl_IsSemigroup.j0] at H
   by_cases c13 : x27_1 = true
   ·subst c13
    rw [if_pos rfl] at H
    obtain rfl := Option.some.inj H
    go_wp2
    go_ret
    exact ⟨er_, bl_ HB.out⟩
   obtain rfl := Bool.eq_false_iff.mpr c13
   rw [if_neg nf_] at H
   have H' := am_ H
   clear H
   go_wp2
   go_loopg [4] kj1 (fun kq v4 w' => ∃ (x4_2 : Int), v4 = .int .i64 x4_2 ∧ Aside0 (impl_IsSemigroup.l0 kq l0_0 x4_2 = some r) ∧ Aside0 (kq ≤ kj1) ∧ Aside0 (w'.heap[gb385]? = some (.cells #[(.slice A0_0 l0_0.length c0_0)] 29 (0, 0))) ∧ Aside0 (Below w.heap.size w w'))
   case atStart => exact ⟨(1), sd_, H', ⟨Nat.le_refl _⟩, ⟨bk_ BK385.out⟩, ⟨bl_ HB.out⟩⟩
   case round =>
    clear H'
    try clear c1
    try clear p2
    try clear c4
    try clear c6
    try clear c8
    try clear c10
    try clear c13
    try clear hcz4_0
    try clear hfz4_0
    obtain ⟨x4_2, rfl, HA, HK2, BK385, HB⟩ := hrel
    cases gk with
    | zero => exact absurd HA.out (by simp [impl_IsSemigroup.l0])
    | succ k2 =>
     have H := HA.out
     clear HA
     simp only [impl_IsSemigroup.l0] at H
     by_cases c14 : x4_2 < (l0_0.length : Int)
     ·rw [if_pos c14] at H
      have c14b0 := decide_eq_true c14
      clear c14
      obtain ⟨c15, H⟩ := in_ H
      have c15b0 := eq_true c15
      have c15b1 := decide_eq_true c15
      clear c15
      obtain ⟨c16, H⟩ := in_ H
      have c16b0 := eq_true c16
      have c16b1 := decide_eq_true c16
      clear c16
      obtain ⟨t392, A17, H⟩ := ob_ H
      (try dsimp only at H)
      by_cases c18 : t392 = true
      ·subst c18
       rw [if_pos rfl] at H
       obtain rfl := Option.some.inj H
       try go_wp2
       replace BK385 := am_ (blk_drew BK385.out)
       replace HB := am_ (below_drew1 HB.out)
       obtain ⟨i020, hi020, _, hsz20, _⟩ := info_parts info3
       obtain ⟨hcut20, hA20, hC20⟩ := print_take_of (P := Try.prog) (Value.int .i64) 0 22 3 .i64 Try.underlying22 hi020 hsz20 A0_0 c0_0 l0_0 x4_2 (od_) (od_) HC0_0.out
       have HR390 := am_ (Kd.C_of_reads (h1 := fun _ => rfl) (hA20 _ (Kd.reads_of_C HR0_0.out)))
       have HC390 := am_ hC20
       clear hA20 hC20 hi020 hsz20
       obtain ⟨p391, q391, ad391, e391, hx391_0⟩ := ri_ (Kd.at_int HR0_0.out x4_2)
       have hw391_0 := hx391_0
       cases e391
       replace hx391_0 := (HB.out.cell (World.block_lt_of_cell? w _ hx391_0)).trans hx391_0
       refine start_ (n := 8) (S := fun w' => w'.cell? (ad391.add (x4_2).toNat) = some (.int .i64 (rd l0_0 x4_2))) (ds := []) (fl_ 8 0) (by kernel_rfl) rfl rfl (((HB.out.cell (World.block_lt_of_cell? w _ hw391_0)).trans hw391_0)) (fun hHeld => ?_); refine with_tabW impl_IsSemigroup.tab7 impl_IsSemigroup.bits7 (fun HT_ HW_ => ?_)
       generalize wr.drew = w19 at BK385 HB HR390 hx391_0 hHeld ⊢
       refine pu_ 0 34 (fl_ 8 1) ?_
       refine pu_ 1 35 (fl_ 8 2) ?_
       refine pu_ 2 36 (fl_ 8 3) ?_
       refine pu_ 3 37 (fl_ 8 4) ?_
       refine pu_ 4 38 (fl_ 8 5) ?_
       refine pu_ 5 39 (fl_ 8 6) ?_
       refine ta_ 6 40 (fl_ 8 7) ?_
       refine on_ 7 41 (fl_ 8 8) fun K hK => ?_
       refine goes_ Try.func89 (by kernel_rfl) rfl #[.slice (some ad391) (l0_0.take (x4_2 : Int).toNat).length c0_0, .int .i64 (rd l0_0 x4_2)] (by rfl) rfl rfl (by (try simp only [List.map_toArray, List.map_cons, List.map_nil]); first | done | (rw [show (l0_0.take (x4_2 : Int).toNat).length = x4_2.toNat from (by rw [List.length_take]; have h_ : (x4_2 : Int) ≤ (l0_0.length : Int) := od_; omega)] <;> rfl) | rfl | (simp only [List.length_drop, List.length_take]; rfl)) ?_
       with_reducible refine (impl_Generates.calls k2 _ _ (l0_0.take (x4_2 : Int).toNat) (rd l0_0 x4_2) true _ ?side1 ?side2 A17.out).mono ?_
       (case side1 => exact cs_ HR390 HB)
       (case side2 => exact HC390.out)
       rintro e w21 ⟨rfl, hb⟩
       refine ⟨_, rfl, ?_⟩
       replace BK385 := bb_ BK385 hb
       replace HB := bs_ HB hb
       (try clear hb)
       (try clear hb2)
       (try clear hk)
       (try clear hi)
       refine hK.out _ _ (((HB.out.cell (World.block_lt_of_cell? w _ hw391_0)).trans hw391_0)) (fun hHeld => ?_)
       clear hK K
       refine no_ 41 ?_
       refine done_ (done_of HT_.out (by kernel_rfl)) ?_
       try go_wp2
       go_ret
       exact ⟨er_, bl_ HB.out⟩
      obtain rfl := Bool.eq_false_iff.mpr c18
      rw [if_neg nf_] at H
      have H' := am_ H
      clear H
      try go_wp2
      replace BK385 := am_ (blk_drew BK385.out)
      replace HB := am_ (below_drew1 HB.out)
      obtain ⟨i023, hi023, _, hsz23, _⟩ := info_parts info3
      obtain ⟨hcut23, hA23, hC23⟩ := print_take_of (P := Try.prog) (Value.int .i64) 0 22 3 .i64 Try.underlying22 hi023 hsz23 A0_0 c0_0 l0_0 x4_2 (od_) (od_) HC0_0.out
      have HR390 := am_ (Kd.C_of_reads (h1 := fun _ => rfl) (hA23 _ (Kd.reads_of_C HR0_0.out)))
      have HC390 := am_ hC23
      clear hA23 hC23 hi023 hsz23
      obtain ⟨p391, q391, ad391, e391, hx391_0⟩ := ri_ (Kd.at_int HR0_0.out x4_2)
      have hw391_0 := hx391_0
      cases e391
      replace hx391_0 := (HB.out.cell (World.block_lt_of_cell? w _ hx391_0)).trans hx391_0
      refine start_ (n := 8) (S := fun w' => w'.cell? (ad391.add (x4_2).toNat) = some (.int .i64 (rd l0_0 x4_2))) (ds := []) (fl_ 8 0) (by kernel_rfl) rfl rfl (((HB.out.cell (World.block_lt_of_cell? w _ hw391_0)).trans hw391_0)) (fun hHeld => ?_); refine with_tabW impl_IsSemigroup.tab7 impl_IsSemigroup.bits7 (fun HT_ HW_ => ?_)
      generalize wr.drew = w22 at BK385 HB HR390 hx391_0 hHeld ⊢
      refine pu_ 0 34 (fl_ 8 1) ?_
      refine pu_ 1 35 (fl_ 8 2) ?_
      refine pu_ 2 36 (fl_ 8 3) ?_
      refine pu_ 3 37 (fl_ 8 4) ?_
      refine pu_ 4 38 (fl_ 8 5) ?_
      refine pu_ 5 39 (fl_ 8 6) ?_
      refine ta_ 6 40 (fl_ 8 7) ?_
      refine on_ 7 41 (fl_ 8 8) fun K hK => ?_
      refine goes_ Try.func89 (by kernel_rfl) rfl #[.slice (some ad391) (l0_0.take (x4_2 : Int).toNat).length c0_0, .int .i64 (rd l0_0 x4_2)] (by rfl) rfl rfl (by (try simp only [List.map_toArray, List.map_cons, List.map_nil]); first | done | (rw [show (l0_0.take (x4_2 : Int).toNat).length = x4_2.toNat from (by rw [List.length_take]; have h_ : (x4_2 : Int) ≤ (l0_0.length : Int) := od_; omega)] <;> rfl) | rfl | (simp only [List.length_drop, List.length_take]; rfl)) ?_
      with_reducible refine (impl_Generates.calls k2 _ _ (l0_0.take (x4_2 : Int).toNat) (rd l0_0 x4_2) false _ ?side1 ?side2 A17.out).mono ?_
      (case side1 => exact cs_ HR390 HB)
      (case side2 => exact HC390.out)
      rintro e w24 ⟨rfl, hb⟩
      refine ⟨_, rfl, ?_⟩
      replace BK385 := bb_ BK385 hb
      replace HB := bs_ HB hb
      (try clear hb)
      (try clear hb2)
      (try clear hk)
      (try clear hi)
      refine hK.out _ _ (((HB.out.cell (World.block_lt_of_cell? w _ hw391_0)).trans hw391_0)) (fun hHeld => ?_)
      clear hK K
      refine no_ 41 ?_
      refine done_ (done_of HT_.out (by kernel_rfl)) ?_
      try go_wp2
      go_roundg k2
      case measure => have := HJ1.out; have := HK2.out; omega
      case rel => exact ⟨(wrap64 (x4_2 + 1)), sd_, H', ⟨by have := HJ1.out; have := HK2.out; omega⟩, ⟨bk_ BK385.out⟩, ⟨bl_ HB.out⟩⟩
     rw [if_neg c14] at H
     have c14b0 : decide (x4_2 < (l0_0.length : Int)) = false := decide_eq_false c14
     clear c14
     obtain ⟨c25, H⟩ := in_ H
     have c25b0 := decide_eq_true c25
     have c25b1 : decide (0 < l0_0.length) = true := decide_eq_true (by omega)
     (try have c25b1t := of_decide_eq_true c25b1)
     clear c25
     obtain ⟨t394, A26, H⟩ := ob_ H
     (try dsimp only at H)
     have H' := am_ H
     clear H
     have p393 : 0 ≤ (0 : Int) := (by omega)
     have q393 : 0 < (l0_0.length : Int) := od_
     obtain ⟨ad393, e393, hx393_0⟩ := Kd.at_int HR0_0.out 0 p393 q393
     cases e393
     have qi393 : (0 < l0_0.length) = True := eq_true (by omega)
     (try rw [show ((0 : Int)).toNat = 0 from rfl] at hx393_0)
     (try rw [Addr.add_zero'] at hx393_0)
     replace hx393_0 := (HB.out.cell (World.block_lt_of_cell? w _ hx393_0)).trans hx393_0
     replace p393 := eq_true p393
     replace q393 := eq_true q393
     go_wp2_with (first | ((with_reducible refine gate_callee (f := 90) rfl ?_); refine gl_ 46 Try.func90 #[.slice (some ad393) l0_0.length c0_0, .int .i64 (rd l0_0 0)] ?_; (with_reducible refine (impl_leasts.calls k2 _ _ l0_0 (rd l0_0 0) t394 _ ?side1 ?side2 A26.out).mono ?_); (case side1 => exact cs_ HR0_0 HB); (case side2 => exact HC0_0.out); rintro e w27 ⟨v395, rfl, ho0, hb⟩; refine ⟨_, rfl, ?_⟩; have HO396 := rl_ ho0 HB; replace BK385 := bb_ BK385 hb; replace HB := bs_ HB hb; (try clear hb); (try clear hb2); (try clear hk); (try clear hi); (try clear ho0); obtain ⟨Ao28, co28, eo28⟩ := Kd.R_slice HO396.out; subst eo28))
     go_loopg [48] k2 (fun kq v48 w' => ∃ (x48_3 : Int), v48 = .int .i64 x48_3 ∧ Aside0 (impl_IsSemigroup.l1 kq l0_0 t394 (t394.length : Int) x48_3 = some r) ∧ Aside0 (kq ≤ k2) ∧ Aside0 (Kd.R (Kd.int .i64) 3 w' w.heap.size (fun _ => True) (.slice Ao28 t394.length co28) t394) ∧ Aside0 (w'.heap[gb385]? = some (.cells #[(.slice (some ad393) l0_0.length c0_0)] 29 (0, 0))) ∧ Aside0 (Below w.heap.size w w'))
     case atStart => exact ⟨(0), sd_, H', ⟨Nat.le_refl _⟩, ⟨kr_ HO396.out⟩, ⟨bk_ BK385.out⟩, ⟨bl_ HB.out⟩⟩
     case round =>
      clear H'
      try clear c1
      try clear c2
      try clear p2
      try clear p3
      try clear q3
      try clear hx3
      try clear qi3
      try clear c4
      try clear c6
      try clear p6
      try clear c8
      try clear c9
      try clear c10
      try clear c13
      skip
      try clear c18
      try clear hcz4_0
      try clear hfz4_0
      try clear hx391_0
      try clear hx393_0
      try clear p2
      try clear p391
      try clear p393
      try clear q391
      try clear q393
      obtain ⟨x48_3, rfl, HA, HK3, HO_46, BK385, HB⟩ := hrel
      cases gk with
      | zero => exact absurd HA.out (by simp [impl_IsSemigroup.l1])
      | succ k3 =>
       have H := HA.out
       clear HA
       simp only [impl_IsSemigroup.l1] at H
       by_cases c29 : x48_3 < (t394.length : Int)
       rotate_left
       ·rw [if_neg c29] at H
        have c29b0 : decide (x48_3 < (t394.length : Int)) = false := decide_eq_false c29
        clear c29
        obtain rfl := Option.some.inj H
        go_wp2
        go_ret
        exact ⟨er_, bl_ HB.out⟩
       rw [if_pos c29] at H
       have c29b0 := decide_eq_true c29
       clear c29
       obtain ⟨c30, H⟩ := in_ H
       have c30b0 := decide_eq_true c30
       clear c30
       obtain ⟨c31, H⟩ := in_ H
       have c31b0 := decide_eq_true c31
       clear c31
       obtain ⟨c32, H⟩ := in_ H
       have c32b0 := decide_eq_true c32
       have c32b1 : decide (0 < l0_0.length) = true := decide_eq_true (by omega)
       (try have c32b1t := of_decide_eq_true c32b1)
       clear c32
       by_cases c33 : (wrap64 ((rd t394 x48_3) - (rd l0_0 0))) ≥ 200
       ·rw [if_pos c33] at H
        have c33b0 : decide (200 ≤ (wrap64 ((rd t394 x48_3) - (rd l0_0 0)))) = true := decide_eq_true c33
        clear c33
        obtain rfl := Option.some.inj H
        obtain ⟨p397, q397, ad397, e397, hx397_0⟩ := ri_ (Kd.at_int (Kd.R_reads' HO_46.out).2.2 x48_3)
        cases e397
        have p398 : 0 ≤ (0 : Int) := (by omega)
        have q398 : 0 < (l0_0.length : Int) := od_
        obtain ⟨ad398, e398, hx398_0⟩ := Kd.at_int HR0_0.out 0 p398 q398
        obtain rfl : ad393 = ad398 := (by injection e398)
        have qi398 : (0 < l0_0.length) = True := eq_true (by omega)
        (try rw [show ((0 : Int)).toNat = 0 from rfl] at hx398_0)
        (try rw [Addr.add_zero'] at hx398_0)
        replace hx398_0 := (HB.out.cell (World.block_lt_of_cell? w _ hx398_0)).trans hx398_0
        replace p398 := eq_true p398
        replace q398 := eq_true q398
        go_wp2
        go_ret
        exact ⟨er_, bl_ HB.out⟩
       rw [if_neg c33] at H
       have c33b0 : decide (200 ≤ (wrap64 ((rd t394 x48_3) - (rd l0_0 0)))) = false := decide_eq_false c33
       clear c33
       have H' := am_ H
       clear H
       obtain ⟨p397, q397, ad397, e397, hx397_0⟩ := ri_ (Kd.at_int (Kd.R_reads' HO_46.out).2.2 x48_3)
       cases e397
       have p398 : 0 ≤ (0 : Int) := (by omega)
       have q398 : 0 < (l0_0.length : Int) := od_
       obtain ⟨ad398, e398, hx398_0⟩ := Kd.at_int HR0_0.out 0 p398 q398
       obtain rfl : ad393 = ad398 := (by injection e398)
       have qi398 : (0 < l0_0.length) = True := eq_true (by omega)
       (try rw [show ((0 : Int)).toNat = 0 from rfl] at hx398_0)
       (try rw [Addr.add_zero'] at hx398_0)
       replace hx398_0 := (HB.out.cell (World.block_lt_of_cell? w _ hx398_0)).trans hx398_0
       replace p398 := eq_true p398
       replace q398 := eq_true q398
       go_wp2
       go_roundg k3
       case measure => have := HJ1.out; have := HK2.out; have := HK3.out; omega
       case rel => exact ⟨(wrap64 (x48_3 + 1)), sd_, H', ⟨by have := HJ1.out; have := HK2.out; have := HK3.out; omega⟩, ⟨kr_ HO_46.out⟩, ⟨bk_ BK385.out⟩, ⟨bl_ HB.out⟩⟩
def impl_table.l0 : Nat → List Int → List Bool → Int → Int → List Int → Option (List Bool)
 | 0, _, _, _, _, _ => none
 | k + 1, x5, x6, x19, x20, x400000 => if x20 < x19 then (if 0 < (x400000.length : Int) then (if (rd x400000 0) = 0 then (none) else (if 0 ≤ (Int.tmod x20 (rd x400000 0)) then (if (Int.tmod x20 (rd x400000 0)) < (x5.length : Int) then (if 0 ≤ x20 then (if x20 < (x6.length : Int) then (impl_table.l0 k x5 (x6.set (x20 : Int).toNat (decide ((rd x5 (Int.tmod x20 (rd x400000 0))) ≤ x20))) x19 (wrap64 (x20 + 1)) x400000) else (none)) else (none)) else (none)) else (none))) else (none)) else (some x6)
def impl_table.f (k : Nat) (l0_0 : List Int) (a1 : Int) : Option (List Bool) := if 0 < (l0_0.length : Int) then ((impl_leasts.f k l0_0 (rd l0_0 0)).bind fun t401 => (if 0 ≤ (wrap64 (a1 + 1)) then (if (wrap64 (a1 + 1) : Int).toNat ≤ 281474976710656 then ((some (List.replicate (wrap64 (a1 + 1) : Int).toNat false : List Bool)).bind fun y404 => (impl_table.l0 k t401 y404 (y404.length : Int) 0 l0_0)) else (none)) else (none))) else (none)
def impl_table.T1 : Bool × List (List Nat × List Nat) := (true, [([], []), ([0], [0]), ([], []), ([2], [2]), ([3], [3]), ([4], [4]), ([1, 5], [1, 5]), ([6, 6, 0, 1, 2, 3, 4, 5, 6], [6])])
def impl_table.B1 : List Nat := [0, 1, 0, 4, 12, 28, 63, 127]
theorem impl_table.tab1 : rtab .any (opsOf Try.f50 1) = impl_table.T1 := by kernel_rfl
theorem impl_table.bits1 : waitsOk impl_table.T1.2 impl_table.B1 = true := by kernel_rfl
theorem impl_table.calls (k : Nat) (A0_0 : Option Addr) (c0_0 : Nat) (l0_0 : List Int) (a1 : Int) (r : List Bool) (w : World) (hr0_0 : Kd.C (Kd.int .i64) w A0_0 l0_0.length l0_0) (hc0_0 : l0_0.length ≤ c0_0) (h : impl_table.f k l0_0 a1 = some r) :
 Calls Try.prog 50 #[.agg #[.slice A0_0 l0_0.length c0_0], .int .i64 a1] w fun e w' => ∃ v0_ : Value, e = .returned (v0_) ∧ Kd.R Kd.bool 4 w' w.heap.size (fun _ => True) v0_ r ∧ Below w.heap.size w w' := by
 have hu29 := Try.underlying29
 have HR0_0 := am_ hr0_0
 have HC0_0 := am_ hc0_0
 clear hr0_0 hc0_0
 have HB := am_ (Below.refl w.heap.size w)
 have H := h
 clear h
 unfold impl_table.f at H
 obtain ⟨c3, H⟩ := in_ H
 have c3b0 := decide_eq_true c3
 have c3b1 : decide (0 < l0_0.length) = true := decide_eq_true (by omega)
 (try have c3b1t := of_decide_eq_true c3b1)
 clear c3
 obtain ⟨t401, A4, H⟩ := ob_ H
 (try dsimp only at H)
 obtain ⟨ji5, hji5⟩ : ∃ j_ : Int, (wrap64 (a1 + 1)) = j_ := ⟨_, rfl⟩
 replace H : (if 0 ≤ (ji5) then (if (ji5 : Int).toNat ≤ 281474976710656 then ((some (List.replicate (ji5 : Int).toNat false : List Bool)).bind fun y404 => (impl_table.l0 k t401 y404 (y404.length : Int) 0 l0_0)) else (none)) else (none)) = some r := by first | (rw [hji5] at H; exact H) | (simp only [hji5] at H ⊢; exact H)
 (try rw [hji5] at A4)
 have hji5w : (IntKind.i64.wrap (a1 + 1)) = ji5 := (i64_w _).trans hji5
 obtain ⟨c6, H⟩ := in_ H
 have c6b0 := eq_true c6
 have c6b1 := decide_eq_true c6
 clear c6
 obtain ⟨c7, H⟩ := in_ H
 have c7b0 := eq_true c7
 have c7b1 := decide_eq_true c7
 clear c7
 obtain ⟨y404, hy404⟩ : ∃ y_ : List Bool, y_ = (List.replicate (ji5 : Int).toNat false) := ⟨_, rfl⟩
 replace H : (impl_table.l0 k t401 y404 (y404.length : Int) 0 l0_0) = some r := hr_ hy404 H
 have Ny404 := am_ hy404
 clear hy404
 have H' := am_ H
 clear H
 go_enter Try.func50, Try.ntmps50
 try go_wp2_with (first | ((with_reducible refine gate_dst (N := 2) rfl ?_); refine be_ 2 #[.slice A0_0 l0_0.length c0_0] 29 fun gb399 hg w8 hbox hb => ?_; have BK399 := am_ (hbox); have GW399 := ge_ hg HB; have GE399 := ge_ hg HB; replace HB := bs_ HB hb; clear hb hbox hg))
 replace BK399 := am_ (blk_drew BK399.out)
 replace HB := am_ (below_drew1 HB.out)
 have p400 : 0 ≤ (0 : Int) := (by omega)
 have q400 : 0 < (l0_0.length : Int) := od_
 obtain ⟨ad400, e400, hx400_0⟩ := Kd.at_int HR0_0.out 0 p400 q400
 have hw400_0 := hx400_0
 (try rw [show ((0 : Int)).toNat = 0 from rfl] at hw400_0)
 (try rw [show 0 * 1 = 0 from rfl] at hw400_0)
 (try rw [Addr.add_zero'] at hw400_0)
 cases e400
 have qi400 : (0 < l0_0.length) = True := eq_true (by omega)
 (try rw [show ((0 : Int)).toNat = 0 from rfl] at hx400_0)
 (try rw [Addr.add_zero'] at hx400_0)
 replace hx400_0 := (HB.out.cell (World.block_lt_of_cell? w _ hx400_0)).trans hx400_0
 replace p400 := eq_true p400
 replace q400 := eq_true q400
 refine start_ (n := 8) (S := fun w' => w'.cell? ⟨gb399, 0, none⟩ = some (.slice (some ad400) l0_0.length c0_0) ∧ w'.cell? ad400 = some (.int .i64 (rd l0_0 0))) (ds := []) (fl_ 8 0) (by kernel_rfl) rfl rfl ⟨(blk_cell BK399.out 0).trans rfl, ((HB.out.cell (World.block_lt_of_cell? w _ hw400_0)).trans hw400_0)⟩ (fun hHeld => ?_); refine with_tabW impl_table.tab1 impl_table.bits1 (fun HT_ HW_ => ?_)
 generalize w8.drew = w9 at BK399 HB hx400_0 hHeld ⊢
 refine pu_ 0 8 (fl_ 8 1) ?_
 refine pu_ 2 10 (fm_ 8 5) ?_
 refine ta_ 1 9 (fl_ 8 3) ?_
 refine ta_ 3 11 (fl_ 8 4) ?_
 refine pu_ 4 12 (fl_ 8 5) ?_
 refine ta_ 5 13 (fl_ 8 6) ?_
 refine on_ 6 14 (fl_ 8 7) fun K hK => ?_
 refine go_ Try.func90 #[.slice (some ad400) l0_0.length c0_0, .int .i64 (rd l0_0 0)] ?_
 with_reducible refine (impl_leasts.calls k _ _ l0_0 (rd l0_0 0) t401 _ ?side1 ?side2 A4.out).mono ?_
 (case side1 => exact cs_ HR0_0 HB)
 (case side2 => exact HC0_0.out)
 rintro e w10 ⟨v402, rfl, ho0, hb⟩
 refine ⟨_, rfl, ?_⟩
 have HO403 := rl_ ho0 HB
 replace BK399 := bb_ BK399 hb
 replace HB := bs_ HB hb
 (try clear hb)
 (try clear hb2)
 (try clear hk)
 (try clear hi)
 (try clear ho0)
 refine hK.out _ _ ⟨(blk_cell BK399.out 0).trans rfl, ((HB.out.cell (World.block_lt_of_cell? w _ hw400_0)).trans hw400_0)⟩ (fun hHeld => ?_)
 clear hK K
 refine no_ 14 ?_
 refine pu_ 7 5 (fl_ 8 8) ?_
 refine done_ (done_of HT_.out (by kernel_rfl)) ?_
 try go_wp2_with (first | ((with_reducible refine gate_dst (N := 17) rfl ?_); refine Kd.R_make Kd.bool _ 4 rfl (N := 17) rfl 56 _ _ rfl ji5 rfl rfl Try.underlying56 (.bool false) 1 info4 rfl (by decide) (by omega) false (ok := fun _ => True) (okp := fun _ => True) rfl (fun _ hk => hk) trivial (od_) (Nat.le_trans (Nat.mul_le_mul_right _ (od_ : ji5.toNat ≤ 281474976710656)) (by omega)) (Below.refl _ _) (Nat.le_refl _) ?_; intro v405 w11 ho12 hb hg_ hnew_; clear hg_ hnew_; (first | rw [← Ny404.out] at ho12 | (simp only [Int.reduceToNat] at ho12; rw [← Ny404.out] at ho12)); replace HO403 := rb_ HO403 hb; have HO406 := rl_ ho12 HB; replace BK399 := bb_ BK399 hb; replace HB := bs_ HB hb; clear hb ho12; obtain ⟨Ao13, co13, eo13⟩ := Kd.R_slice HO406.out; subst eo13))
 go_loopg [20] k (fun kq v20 w' => ∃ (x6_1 : List Bool) (x20_1 : Int), v20 = .int .i64 x20_1 ∧ Aside0 (impl_table.l0 kq t401 x6_1 (y404.length : Int) x20_1 l0_0 = some r) ∧ Aside0 (kq ≤ k) ∧ Aside0 (Kd.R (Kd.int .i64) 3 w' w.heap.size (fun _ => True) v402 t401) ∧ Aside0 (Kd.R Kd.bool 4 w' w.heap.size (fun _ => True) (.slice Ao13 y404.length co13) x6_1) ∧ Aside0 (w'.heap[gb399]? = some (.cells #[(.slice (some ad400) l0_0.length c0_0)] 29 (0, 0))) ∧ Aside0 (Below w.heap.size w w'))
 case atStart => exact ⟨(y404), (0), sd_, H', ⟨Nat.le_refl _⟩, ⟨kr_ HO403.out⟩, ⟨kr_ HO406.out⟩, ⟨bk_ BK399.out⟩, ⟨bl_ HB.out⟩⟩
 case round =>
  clear H'
  try clear p2
  try clear p4
  try clear q4
  try clear hx4
  try clear qi4
  try clear c5
  try clear p6
  try clear c9
  try clear hx400_0
  try clear p400
  try clear q400
  obtain ⟨x6_1, x20_1, rfl, HA, HK1, HO_5, HO_6, BK399, HB⟩ := hrel
  have hl6_1 := (Kd.R_reads' HO_6.out).1
  rw [hl6_1] at HO_6
  (try simp only [hl6_1])
  (try simp only [hl6_1] at BK399)
  (try simp only [hl6_1] at HO_5)
  cases gk with
  | zero => exact absurd HA.out (by simp [impl_table.l0])
  | succ k1 =>
   have H := HA.out
   clear HA
   simp only [impl_table.l0] at H
   by_cases c14 : x20_1 < (y404.length : Int)
   rotate_left
   ·rw [if_neg c14] at H
    have c14b0 : decide (x20_1 < (y404.length : Int)) = false := decide_eq_false c14
    (try simp only [hl6_1] at c14b0)
    clear c14
    obtain rfl := Option.some.inj H
    go_wp2
    go_ret
    exact ⟨_, by first | rfl | (simp [errW_none, errW_some] <;> rfl) | (simp only [← hji5]; first | rfl | (simp [errW_none, errW_some] <;> rfl)) | (simp [*, errW_none, errW_some] <;> rfl), kr_ HO_6.out, bl_ HB.out⟩
   rw [if_pos c14] at H
   have c14b0 := decide_eq_true c14
   (try simp only [hl6_1] at c14b0)
   clear c14
   obtain ⟨c15, H⟩ := in_ H
   have c15b0 := decide_eq_true c15
   (try simp only [hl6_1] at c15b0)
   have c15b1 : decide (0 < l0_0.length) = true := decide_eq_true (by omega)
   (try simp only [hl6_1] at c15b1)
   (try have c15b1t := of_decide_eq_true c15b1)
   clear c15
   obtain ⟨c16, H⟩ := ip_ H
   have c16b0 : ((rd l0_0 0) == 0) = false := beq_eq_false_iff_ne.mpr c16
   have c16b1 : ((rd l0_0 0) != 0) = true := bne_iff_ne.mpr c16
   obtain ⟨ji17, hji17⟩ : ∃ j_ : Int, (Int.tmod x20_1 (rd l0_0 0)) = j_ := ⟨_, rfl⟩
   replace H : (if 0 ≤ (ji17) then (if (ji17) < (t401.length : Int) then (if 0 ≤ x20_1 then (if x20_1 < (x6_1.length : Int) then (impl_table.l0 k1 t401 (x6_1.set (x20_1 : Int).toNat (decide ((rd t401 (ji17)) ≤ x20_1))) (y404.length : Int) (wrap64 (x20_1 + 1)) l0_0) else (none)) else (none)) else (none)) else (none)) = some r := by first | (rw [hji17] at H; exact H) | (simp only [hji17] at H ⊢; exact H)
   obtain ⟨c18, H⟩ := in_ H
   have c18b0 := decide_eq_true c18
   clear c18
   obtain ⟨c19, H⟩ := in_ H
   have c19b0 := decide_eq_true c19
   (try simp only [hl6_1] at c19b0)
   clear c19
   obtain ⟨c20, H⟩ := in_ H
   have c20b0 := decide_eq_true c20
   clear c20
   obtain ⟨c21, H⟩ := in_ H
   have c21b0 := decide_eq_true c21
   (try simp only [hl6_1] at c21b0)
   clear c21
   obtain ⟨y409, hy409⟩ : ∃ y_ : List Bool, y_ = (x6_1.set (x20_1 : Int).toNat (decide ((rd t401 (ji17)) ≤ x20_1))) := ⟨_, rfl⟩
   replace H : (impl_table.l0 k1 t401 y409 (y404.length : Int) (wrap64 (x20_1 + 1)) l0_0) = some r := hr_ hy409 H
   have Ny409 := am_ hy409
   clear hy409
   have H' := am_ H
   clear H
   have hcz23_0 := bc_ BK399
   have hfz23_0 := blk_frozen BK399.out 0
   have p407 : 0 ≤ (0 : Int) := (by omega)
   have q407 : 0 < (l0_0.length : Int) := od_
   obtain ⟨ad407, e407, hx407_0⟩ := Kd.at_int HR0_0.out 0 p407 q407
   obtain rfl : ad400 = ad407 := (by injection e407)
   have qi407 : (0 < l0_0.length) = True := eq_true (by omega)
   (try rw [show ((0 : Int)).toNat = 0 from rfl] at hx407_0)
   (try rw [Addr.add_zero'] at hx407_0)
   replace hx407_0 := (HB.out.cell (World.block_lt_of_cell? w _ hx407_0)).trans hx407_0
   replace p407 := eq_true p407
   replace q407 := eq_true q407
   obtain ⟨Ao24, co24, eo24⟩ := Kd.R_slice HO_5.out
   subst eo24
   obtain ⟨p408, q408, ad408, e408, hx408_0⟩ := ri_ (Kd.at_int (Kd.R_reads' HO_5.out).2.2 (ji17))
   cases e408
   have p22 : 0 ≤ (x20_1 : Int) := od_
   have q22 : (x20_1 : Int) < ((x6_1.length : Int) : Int) := od_
   obtain ⟨go22, co22, eo22, gb22, gl22, cl22, HG22⟩ := Kd.R_form HO_6.out (by omega)
   (first | cases eo22 | (injection eo22 with ea_ en_ ec_; (first | subst ea_ | (injection ea_ with ea_; subst ea_)); subst ec_; clear en_))
   have GB22 := am_ gb22
   have GG22 := am_ HG22
   clear gb22 gl22 HG22
   obtain ⟨hx22_0, hf22_0⟩ := Kd.R_celln false HO_6.out (x20_1 : Int) p22 q22
   replace p22 := eq_true p22
   replace q22 := eq_true q22
   have HP25 := Kd.R_putg HO_6.out (x20_1 : Int) (decide ((rd t401 (ji17)) ≤ x20_1))
   go_wp2_with (first | ((with_reducible refine gate_store (t := 4) (p := 36) rfl ?_); refine store_event (t := 4) (p := 36) (v := ?vo_w26) (w1 := (wr.setCell ⟨go22, (x20_1 : Int).toNat, none⟩ (.bool (decide ((rd t401 (ji17)) ≤ x20_1))))) ?hg ?ho ?hn ?hr ?_; (case ho => rfl); (case hg => rfl); (case hn => rfl); (case hr => first | (go_simp; done) | (go_simp; rfl)); intro w26 hw; have hg : wr.grownBy w26 (some go22) := (by rw [hw]; exact HP25.2); have hp_ : Kd.R Kd.bool 4 w26 w.heap.size (fun _ => True) (.slice (some ⟨go22, 0, none⟩) x6_1.length co13) y409 := (by rw [hw, Ny409.out]; exact HP25.1); clear HP25; replace HO_5 := am_ (Kd.R_over' (v := (.slice (some ⟨go22, 0, none⟩) x6_1.length co13)) (kr_ HO_5.out) (Kd.R_typed HO_6.out) (by decide) hg); replace BK399 := am_ (blk_grown (g := gb399) (o := .cells #[.slice (some ad400) l0_0.length c0_0] 29 (0, 0)) (bk_ BK399.out) hg (Kd.R_ne HO_6.out BK399.out (by decide))); replace HO_6 := am_ (hp_); replace HB := am_ ((by rw [hw]; exact below_set (HB.out) GB22.out : Below w.heap.size w w26)); clear hg hw hp_))
   (try simp only [← hl6_1])
   go_roundg k1
   case measure => have := HK1.out; omega
   case rel => exact ⟨(y409), (wrap64 (x20_1 + 1)), sd_, H', ⟨by have := HK1.out; omega⟩, ⟨by (try simp only [hl6_1]); (with_reducible repeat (first | apply Kd.R_alloc | apply Kd.R_drewN | apply Kd.R_drew)); exact HO_5.out⟩, ⟨by (try simp only [hl6_1]); (with_reducible repeat (first | apply Kd.R_alloc | apply Kd.R_drewN | apply Kd.R_drew)); exact HO_6.out⟩, ⟨by (try simp only [hl6_1]); (with_reducible repeat (first | refine blk_drewN ?_ _ | refine blk_drew ?_ | refine blk_alloc ?_ _)); exact BK399.out⟩, ⟨bl_ HB.out⟩⟩
def impl_Gaps.l0 : Nat → List Int → List Bool → Int → Int → Option (List Int)
 | 0, _, _, _, _ => none
 | k + 1, x3, x11, x12, x13 => if x13 < x12 then (if 0 ≤ x13 then (if x13 < (x11.length : Int) then (if rdOf false x11 x13 = true then (impl_Gaps.l0 k x3 x11 x12 (wrap64 (x13 + 1))) else (if x3.length < 17592186044416 then (impl_Gaps.l0 k (x3 ++ [x13]) x11 x12 (wrap64 (x13 + 1))) else (none))) else (none)) else (none)) else (some x3)
def impl_Gaps.f (k : Nat) (l0_0 : List Int) : Option (List Int) := (impl_IsSemigroup.f k l0_0).bind fun t411 => (if t411 = true then ((impl_table.f k l0_0 200).bind fun t415 => (impl_Gaps.l0 k (([] : List Int)) t415 (t415.length : Int) 0)) else (some ([] : List Int)))
theorem impl_Gaps.calls (k : Nat) (A0_0 : Option Addr) (c0_0 : Nat) (l0_0 : List Int) (r : List Int) (w : World) (hr0_0 : Kd.C (Kd.int .i64) w A0_0 l0_0.length l0_0) (hc0_0 : l0_0.length ≤ c0_0) (h : impl_Gaps.f k l0_0 = some r) :
 Calls Try.prog 80 #[.agg #[.slice A0_0 l0_0.length c0_0]] w fun e w' => ∃ v0_ : Value, e = .returned (v0_) ∧ Kd.R (Kd.int .i64) 3 w' w.heap.size (fun _ => True) v0_ r ∧ Below w.heap.size w w' := by
 have hu29 := Try.underlying29
 have HR0_0 := am_ hr0_0
 have HC0_0 := am_ hc0_0
 clear hr0_0 hc0_0
 have HB := am_ (Below.refl w.heap.size w)
 have H := h
 clear h
 unfold impl_Gaps.f at H
 obtain ⟨t411, A2, H⟩ := ob_ H
 (try dsimp only at H)
 by_cases c3 : t411 = true
 rotate_left
 ·obtain rfl := Bool.eq_false_iff.mpr c3
  rw [if_neg nf_] at H
  obtain rfl := Option.some.inj H
  go_enter Try.func80, Try.ntmps80
  go_wp2_with (first | ((with_reducible refine gate_dst (N := 1) rfl ?_); refine be_ 1 #[.slice A0_0 l0_0.length c0_0] 29 fun gb410 hg w20 hbox hb => ?_; have BK410 := am_ (hbox); have GW410 := ge_ hg HB; have GE410 := ge_ hg HB; replace HB := bs_ HB hb; clear hb hbox hg; have hcz21_0 := bc_ BK410; have hfz21_0 := blk_frozen BK410.out 0) | ((with_reducible refine gate_callee (f := 49) rfl ?_); refine gl_ 7 Try.func49 #[.agg #[.slice A0_0 l0_0.length c0_0]] ?_; (with_reducible refine (impl_IsSemigroup.calls k _ _ l0_0 false _ ?side1 ?side2 A2.out).mono ?_); (case side1 => exact cs_ HR0_0 HB); (case side2 => exact HC0_0.out); rintro e w22 ⟨rfl, hb⟩; refine ⟨_, rfl, ?_⟩; replace BK410 := bb_ BK410 hb; replace HB := bs_ HB hb; (try clear hb); (try clear hb2); (try clear hk); (try clear hi)))
  go_ret
  exact ⟨_, er_, by first | exact Kd.R_nil _ _ _ _ _ | exact Kd.N_nil _ _ _ _ _ | exact Kd.V_nil _ _ _ _ _ | exact Kd.Q_nil _ _ _ _ _ | exact Kd.S_nil _ _ _ _ _, bl_ HB.out⟩
 subst c3
 rw [if_pos rfl] at H
 obtain ⟨y412, hy412⟩ : ∃ y_ : List Int, y_ = (([] : List Int)) := ⟨_, rfl⟩
 replace H : ((impl_table.f k l0_0 200).bind fun t415 => (impl_Gaps.l0 k y412 t415 (t415.length : Int) 0)) = some r := hr_ hy412 H
 have Ny412 := am_ hy412
 clear hy412
 obtain ⟨t415, A4, H⟩ := ob_ H
 (try dsimp only at H)
 have H' := am_ H
 clear H
 go_enter Try.func80, Try.ntmps80
 go_wp2_with (first | ((with_reducible refine gate_dst (N := 1) rfl ?_); refine be_ 1 #[.slice A0_0 l0_0.length c0_0] 29 fun gb410 hg w5 hbox hb => ?_; have BK410 := am_ (hbox); have GW410 := ge_ hg HB; have GE410 := ge_ hg HB; replace HB := bs_ HB hb; clear hb hbox hg; have hcz6_0 := bc_ BK410; have hfz6_0 := blk_frozen BK410.out 0) | ((with_reducible refine gate_callee (f := 49) rfl ?_); refine gl_ 7 Try.func49 #[.agg #[.slice A0_0 l0_0.length c0_0]] ?_; (with_reducible refine (impl_IsSemigroup.calls k _ _ l0_0 true _ ?side1 ?side2 A2.out).mono ?_); (case side1 => exact cs_ HR0_0 HB); (case side2 => exact HC0_0.out); rintro e w7 ⟨rfl, hb⟩; refine ⟨_, rfl, ?_⟩; replace BK410 := bb_ BK410 hb; replace HB := bs_ HB hb; (try clear hb); (try clear hb2); (try clear hk); (try clear hi)) | ((with_reducible refine gate_dst (N := 9) rfl ?_); refine Kd.R_lit (Kd.int .i64) _ 3 ?hg (N := 9) ?hd (xs := ([] : List Int)) (inner := []) (ok := fun _ => True) (okp := fun _ => True) ?hr ?hp (fun _ hk => hk) trivial (Below.refl _ _) (Nat.le_refl _) (by simp) ?_; (case hd => rfl); (case hg => rfl); (case hr => first | (go_simp; done) | (go_simp; rfl)); (case hp => exact (Reps.none _ _)); intro v413 w8 ho9 hb hg_ hnew_; clear hg_ hnew_; (first | rw [← Ny412.out] at ho9 | (simp only [Int.reduceToNat] at ho9; rw [← Ny412.out] at ho9)); have HO414 := rl_ ho9 HB; replace BK410 := bb_ BK410 hb; replace HB := bs_ HB hb; clear hb ho9; have hcz10_0 := bc_ BK410; have hfz10_0 := blk_frozen BK410.out 0) | ((with_reducible refine gate_callee (f := 50) rfl ?_); refine gl_ 11 Try.func50 #[.agg #[.slice A0_0 l0_0.length c0_0], .int .i64 200] ?_; (with_reducible refine (impl_table.calls k _ _ l0_0 200 t415 _ ?side1 ?side2 A4.out).mono ?_); (case side1 => exact cs_ HR0_0 HB); (case side2 => exact HC0_0.out); rintro e w11 ⟨v416, rfl, ho0, hb⟩; refine ⟨_, rfl, ?_⟩; replace HO414 := rb_ HO414 hb; have HO417 := rl_ ho0 HB; replace BK410 := bb_ BK410 hb; replace HB := bs_ HB hb; (try clear hb); (try clear hb2); (try clear hk); (try clear hi); (try clear ho0); obtain ⟨Ao12, co12, eo12⟩ := Kd.R_slice HO417.out; subst eo12))
 go_loopg [3, 13] k (fun kq v3 v13 w' => ∃ (x3_1 : List Int) (x13_1 : Int), v13 = .int .i64 x13_1 ∧ Aside0 (impl_Gaps.l0 kq x3_1 t415 (t415.length : Int) x13_1 = some r) ∧ Aside0 (kq ≤ k) ∧ Aside0 (Kd.R (Kd.int .i64) 3 w' w.heap.size (fun _ => True) v3 x3_1) ∧ Aside0 (Kd.R Kd.bool 4 w' w.heap.size (fun _ => True) (.slice Ao12 t415.length co12) t415) ∧ Aside0 (w'.heap[gb410]? = some (.cells #[(.slice A0_0 l0_0.length c0_0)] 29 (0, 0))) ∧ Aside0 (Below w.heap.size w w'))
 case atStart => exact ⟨(y412), (0), sd_, H', ⟨Nat.le_refl _⟩, ⟨kr_ HO414.out⟩, ⟨kr_ HO417.out⟩, ⟨bk_ BK410.out⟩, ⟨bl_ HB.out⟩⟩
 case round =>
  clear H'
  try clear p2
  try clear c3
  try clear c4
  try clear c5
  try clear c8
  try clear hcz10_0
  try clear hcz6_0
  try clear hfz10_0
  try clear hfz6_0
  obtain ⟨x3_1, x13_1, rfl, HA, HK1, HO_3, HO_11, BK410, HB⟩ := hrel
  cases gk with
  | zero => exact absurd HA.out (by simp [impl_Gaps.l0])
  | succ k1 =>
   have H := HA.out
   clear HA
   simp only [impl_Gaps.l0] at H
   by_cases c13 : x13_1 < (t415.length : Int)
   rotate_left
   ·rw [if_neg c13] at H
    have c13b0 : decide (x13_1 < (t415.length : Int)) = false := decide_eq_false c13
    clear c13
    obtain rfl := Option.some.inj H
    go_wp2
    go_ret
    exact ⟨_, er_, kr_ HO_3.out, bl_ HB.out⟩
   rw [if_pos c13] at H
   have c13b0 := decide_eq_true c13
   clear c13
   obtain ⟨c14, H⟩ := in_ H
   have c14b0 := decide_eq_true c14
   clear c14
   obtain ⟨c15, H⟩ := in_ H
   have c15b0 := decide_eq_true c15
   clear c15
   obtain ⟨bq16, hbq16⟩ : ∃ b_ : Bool, b_ = (rdOf false t415 x13_1) := ⟨_, rfl⟩
   replace H : (if bq16 = true then (impl_Gaps.l0 k1 x3_1 t415 (t415.length : Int) (wrap64 (x13_1 + 1))) else (if x3_1.length < 17592186044416 then (impl_Gaps.l0 k1 (x3_1 ++ [x13_1]) t415 (t415.length : Int) (wrap64 (x13_1 + 1))) else (none))) = some r := by rw [← hbq16] at H; exact H
   have Nbq16 := am_ hbq16
   clear hbq16
   by_cases c17 : bq16 = true
   ·subst c17
    rw [if_pos rfl] at H
    have H' := am_ H
    clear H
    obtain ⟨p418, q418, ad418, e418, hx418_0⟩ := ri_ (Kd.at_bool (Kd.R_reads' HO_11.out).2.2 x13_1)
    (try rw [← Nbq16.out] at hx418_0)
    cases e418
    go_wp2
    go_roundg k1
    case measure => have := HK1.out; omega
    case rel => exact ⟨(x3_1), (wrap64 (x13_1 + 1)), sd_, H', ⟨by have := HK1.out; omega⟩, ⟨kr_ HO_3.out⟩, ⟨kr_ HO_11.out⟩, ⟨bk_ BK410.out⟩, ⟨bl_ HB.out⟩⟩
   obtain rfl := Bool.eq_false_iff.mpr c17
   rw [if_neg nf_] at H
   obtain ⟨c18, H⟩ := in_ H
   have LMc18 := am_ c18
   clear c18
   obtain ⟨y419, hy419⟩ : ∃ y_ : List Int, y_ = (x3_1 ++ [x13_1]) := ⟨_, rfl⟩
   replace H : (impl_Gaps.l0 k1 y419 t415 (t415.length : Int) (wrap64 (x13_1 + 1))) = some r := hr_ hy419 H
   have Ny419 := am_ hy419
   clear hy419
   have H' := am_ H
   clear H
   obtain ⟨p418, q418, ad418, e418, hx418_0⟩ := ri_ (Kd.at_bool (Kd.R_reads' HO_11.out).2.2 x13_1)
   (try rw [← Nbq16.out] at hx418_0)
   cases e418
   go_wp2_with (first | ((with_reducible refine gate_builtin (b := .append) (xs := #[.tmp 20, .tmp 22]) rfl ?_); at_builtin; refine Kd.R_append (Kd.int .i64) (w0 := w) w.heap.size rfl (.tmp 20) (.tmp 22) 22 3 (.int .i64 0) 8 rfl Try.underlying22 info3 rfl (by decide) (by omega) u3 x3_1 x13_1 [.int .i64 x13_1] (fun _ => True) (fun _ => False) rfl rfl ?aP (fun _ hk => hk.elim) ?aF ?aO ?aB ?aS ?aL ?_; (case aP => exact rfl); (case aB => exact (bl_ HB.out)); (case aF => exact (fun _ _ => trivial)); (case aO => exact (kr_ HO_3.out)); (case aS => exact (below_size (bl_ HB.out))); (case aL => have := LMc18.out; omega); intro v420 w19 ho hb hg hat; rw [← Ny419.out] at ho; have n0_ := am_ (Kd.R_over' (kr_ HO_11.out) (Kd.R_typed (kr_ HO_3.out)) (by decide) hg); have n1_ := am_ (blk_grown (g := gb410) (o := .cells #[.slice A0_0 l0_0.length c0_0] 29 (0, 0)) (bk_ BK410.out) hg (Kd.R_ne HO_3.out BK410.out (by decide))); have n2_ := am_ (hb); have n3_ := am_ (ho); clear HO_11; clear BK410; clear HB; clear HO_3; have HO_11 := n0_; have BK410 := n1_; have HB := n2_; have HO421 := n3_; clear n0_ n1_ n2_ n3_; clear ho hb hg hat))
   go_roundg k1
   case measure => have := HK1.out; omega
   case rel => exact ⟨(y419), (wrap64 (x13_1 + 1)), sd_, H', ⟨by have := HK1.out; omega⟩, ⟨kr_ HO421.out⟩, ⟨kr_ HO_11.out⟩, ⟨bk_ BK410.out⟩, ⟨bl_ HB.out⟩⟩
def impl_gapList.f (k : Nat) (l0 : List Int) : Option (Bool) := (impl_IsAscending.f k l0).bind fun t422 => (if t422 = true then ((impl_allWithin.f k l0 1 199).bind fun t423 => (some t423)) else (some false))
theorem impl_gapList.calls (k : Nat) (A0 : Option Addr) (c0 : Nat) (l0 : List Int) (r : Bool) (w : World) (hr0 : Kd.C (Kd.int .i64) w A0 l0.length l0) (hc0 : l0.length ≤ c0) (h : impl_gapList.f k l0 = some r) :
 Calls Try.prog 92 #[.slice A0 l0.length c0] w fun e w' => e = .returned (.bool r) ∧ Drawn0 w w' := by
 have HR0 := am_ hr0
 have HC0 := am_ hc0
 clear hr0 hc0
 have H := h
 clear h
 unfold impl_gapList.f at H
 obtain ⟨t422, A2, H⟩ := ob_ H
 (try dsimp only at H)
 by_cases c3 : t422 = true
 ·subst c3
  rw [if_pos rfl] at H
  obtain ⟨t423, A4, H⟩ := ob_ H
  (try dsimp only at H)
  obtain rfl := Option.some.inj H
  go_enter Try.func92, Try.ntmps92
  go_wp2_with (first | ((with_reducible refine gate_callee (f := 87) rfl ?_); refine gl_ 4 Try.func87 #[.slice A0 l0.length c0] ?_; (with_reducible refine (impl_IsAscending.calls k _ _ l0 true _ ?side1 ?side2 A2.out).mono ?_); (case side1 => repeat (first | exact HR0.out | (with_reducible refine Kd.C_alloc ?_ _) | (with_reducible refine Kd.C_drewN ?_ _) | (with_reducible refine Kd.C_drew ?_))); (case side2 => exact HC0.out); rintro e w' ⟨rfl, ⟨nd, rfl⟩⟩; refine ⟨_, rfl, ?_⟩) | (go_at_call 86; (with_reducible refine (impl_allWithin.calls k _ _ l0 1 199 t423 _ ?side1 ?side2 A4.out).mono ?_); (case side1 => repeat (first | exact HR0.out | (with_reducible refine Kd.C_alloc ?_ _) | (with_reducible refine Kd.C_drewN ?_ _) | (with_reducible refine Kd.C_drew ?_))); (case side2 => exact HC0.out); rintro e w' ⟨rfl, ⟨nd, rfl⟩⟩))
  go_ret
  exact ⟨sd_, dr_⟩
 obtain rfl := Bool.eq_false_iff.mpr c3
 rw [if_neg nf_] at H
 obtain rfl := Option.some.inj H
 go_enter Try.func92, Try.ntmps92
 go_wp2_with (first | ((with_reducible refine gate_callee (f := 87) rfl ?_); refine gl_ 4 Try.func87 #[.slice A0 l0.length c0] ?_; (with_reducible refine (impl_IsAscending.calls k _ _ l0 false _ ?side1 ?side2 A2.out).mono ?_); (case side1 => repeat (first | exact HR0.out | (with_reducible refine Kd.C_alloc ?_ _) | (with_reducible refine Kd.C_drewN ?_ _) | (with_reducible refine Kd.C_drew ?_))); (case side2 => exact HC0.out); rintro e w' ⟨rfl, ⟨nd, rfl⟩⟩; refine ⟨_, rfl, ?_⟩))
 go_ret
 exact ⟨sd_, dr_⟩
mutual
def impl_GapClash.j0 : Nat → List Int → Bool → Option (Int × Int × Bool)
 | 0, _, _ => none
 | k + 1, x0, x17 => if x17 = true then (some (0, 0, false)) else (if 201 ≤ 281474976710656 then (impl_GapClash.l0 k x0 (List.replicate 201 false) x0 (x0.length : Int) 0) else (none))
def impl_GapClash.l0 : Nat → List Int → List Bool → List Int → Int → Int → Option (Int × Int × Bool)
 | 0, _, _, _, _, _ => none
 | k + 1, x0, x4, x20, x21, x22 => if x22 < x21 then (if 0 ≤ x22 then (if x22 < (x20.length : Int) then (if 0 ≤ (rd x20 x22) then (if (rd x20 x22) < (x4.length : Int) then (impl_GapClash.l0 k x0 (x4.set ((rd x20 x22) : Int).toNat true) x20 x21 (wrap64 (x22 + 1))) else (none)) else (none)) else (none)) else (none)) else (if 0 ≤ (wrap64 ((x0.length : Int) - 1)) then (if (wrap64 ((x0.length : Int) - 1)) < (x0.length : Int) then (impl_GapClash.l1 k x4 (rd x0 (wrap64 ((x0.length : Int) - 1))) 1) else (none)) else (none))
def impl_GapClash.l1 : Nat → List Bool → Int → Int → Option (Int × Int × Bool)
 | 0, _, _, _ => none
 | k + 1, x4, x7, x8 => if x8 ≤ x7 then (impl_GapClash.l2 k x4 x7 x8 x8) else (some (0, 0, false))
def impl_GapClash.l2 : Nat → List Bool → Int → Int → Int → Option (Int × Int × Bool)
 | 0, _, _, _, _ => none
 | k + 1, x4, x7, x8, x9 => if (wrap64 (x8 + x9)) ≤ x7 then (if 0 ≤ x8 then (if x8 < (x4.length : Int) then (if rdOf false x4 x8 = true then (impl_GapClash.l2 k x4 x7 x8 (wrap64 (x9 + 1))) else (if 0 ≤ x9 then (if x9 < (x4.length : Int) then (if rdOf false x4 x9 = true then (impl_GapClash.l2 k x4 x7 x8 (wrap64 (x9 + 1))) else (if 0 ≤ (wrap64 (x8 + x9)) then (if (wrap64 (x8 + x9)) < (x4.length : Int) then (if rdOf false x4 (wrap64 (x8 + x9)) = true then (some (x8, x9, true)) else (impl_GapClash.l2 k x4 x7 x8 (wrap64 (x9 + 1)))) else (none)) else (none))) else (none)) else (none))) else (none)) else (none)) else (impl_GapClash.l1 k x4 x7 (wrap64 (x8 + 1)))
end
def impl_GapClash.f (k : Nat) (l0 : List Int) : Option (Int × Int × Bool) := (impl_gapList.f k l0).bind fun t425 => (if t425 = true then (impl_GapClash.j0 k l0 ((l0.length : Int) == 0)) else (impl_GapClash.j0 k l0 true))
theorem impl_GapClash.calls (k : Nat) (A0 : Option Addr) (c0 : Nat) (l0 : List Int) (r1 : Int) (r2 : Int) (r3 : Bool) (w : World) (hr0 : Kd.C (Kd.int .i64) w A0 l0.length l0) (hc0 : l0.length ≤ c0) (h : impl_GapClash.f k l0 = some (r1, r2, r3)) :
 Calls Try.prog 91 #[.slice A0 l0.length c0] w fun e w' => e = .returned (.tuple #[.agg #[.int .i64 r1, .int .i64 r2], .bool r3]) ∧ Below w.heap.size w w' := by
 have hu78 := Try.underlying78
 have HR0 := am_ hr0
 have HC0 := am_ hc0
 clear hr0 hc0
 have HB := am_ (Below.refl w.heap.size w)
 have H := h
 clear h
 unfold impl_GapClash.f at H
 have HC2 := am_ H
 clear H
 go_enter Try.func91, Try.ntmps91
 go_upto_region 1 with (first | ((with_reducible refine gate_dst (N := 2) rfl ?_); (try (refine gate_guard (by rfl) ?_; dsimp only)); refine be_ 2 #[.int .i64 0, .int .i64 0] 78 fun gb424 hg w3 hbox hb => ?_; have BK424 := am_ (hbox); have GW424 := ge_ hg HB; have GE424 := ge_ hg HB; replace HB := bs_ HB hb; clear hb hbox hg))
 (try simp only [Act.put, List.setIfInBounds_toArray, List.set_cons_zero, List.set_cons_succ])
 go_cut [17] (fun v17 wc => ∃ (kq : Nat) (x17_1 : Bool), v17 = .bool x17_1 ∧ Aside0 (impl_GapClash.j0 kq l0 x17_1 = some (r1, r2, r3)) ∧ Aside0 (kq ≤ k) ∧ Aside0 (wc.heap[gb424]? = some (.cells #[.int .i64 0, .int .i64 0] 78 (0, 0))) ∧ Aside0 (Below w.heap.size w wc))
 case first =>
  have H := HC2.out
  clear HC2
  obtain ⟨t425, A4, H⟩ := ob_ H
  (try dsimp only at H)
  by_cases c5 : t425 = true
  ·subst c5
   rw [if_pos rfl] at H
   have H' := am_ H
   clear H
   go_wp2_with (first | ((with_reducible refine gate_callee (f := 92) rfl ?_); refine gl_ 11 Try.func92 #[.slice A0 l0.length c0] ?_; (with_reducible refine (impl_gapList.calls k _ _ l0 true _ ?side1 ?side2 A4.out).mono ?_); (case side1 => exact cs_ HR0 HB); (case side2 => exact HC0.out); rintro e w' ⟨rfl, ⟨nd, rfl⟩⟩; refine ⟨_, rfl, ?_⟩))
   go_meet
   case rel => exact ⟨_, (((l0.length : Int) == 0)), sd_, H', ⟨le_⟩, ⟨bk_ BK424.out⟩, ⟨bl_ HB.out⟩⟩
  obtain rfl := Bool.eq_false_iff.mpr c5
  rw [if_neg nf_] at H
  have H' := am_ H
  clear H
  go_wp2_with (first | ((with_reducible refine gate_callee (f := 92) rfl ?_); refine gl_ 11 Try.func92 #[.slice A0 l0.length c0] ?_; (with_reducible refine (impl_gapList.calls k _ _ l0 false _ ?side1 ?side2 A4.out).mono ?_); (case side1 => exact cs_ HR0 HB); (case side2 => exact HC0.out); rintro e w' ⟨rfl, ⟨nd, rfl⟩⟩; refine ⟨_, rfl, ?_⟩))
  go_meet
  case rel => exact ⟨_, (true), sd_, H', ⟨le_⟩, ⟨bk_ BK424.out⟩, ⟨bl_ HB.out⟩⟩
 case rest =>
  clear HC2
  try clear p2
  try clear c5
  obtain ⟨kq, x17_1, rfl, HA, HJ1, BK424, HB⟩ := hcut
  cases kq with
  | zero => exact absurd HA.out (by simp [impl_GapClash.j0])
  | succ kj1 =>
   have H := HA.out
   clear HA
   simp only [impl_GapClash.j0] at H
   by_cases c6 : x17_1 = true
   ·subst c6
    rw [if_pos rfl] at H
    simp only [Option.some.injEq, Prod.mk.injEq] at H
    obtain ⟨rfl, rfl, rfl⟩ := H
    have hcz7_0 : wc.cell? ⟨gb424, 0, none⟩ = some (.int .i64 0) := (blk_cell BK424.out 0).trans rfl
    have hcz7_1 : wc.cell? ⟨gb424, 1, none⟩ = some (.int .i64 0) := (blk_cell BK424.out 1).trans rfl
    have hfz7_0 := blk_frozen BK424.out 0
    have hfz7_1 := blk_frozen BK424.out 1
    go_wp2
    refine bodyPost_ret (results_ct rfl _ _ gb424 78 #[.int .i64 0, .int .i64 0] (0, 0) _ rfl (by (with_reducible repeat (first | refine blk_drewN ?_ _ | refine blk_drew ?_ | refine blk_alloc ?_ _)); refine blk_put (cs := #[.int .i64 0, .int .i64 0]) ?_ 1 _ rfl; (with_reducible repeat (first | refine blk_drewN ?_ _ | refine blk_drew ?_ | refine blk_alloc ?_ _)); refine blk_put (cs := #[.int .i64 0, .int .i64 0]) ?_ 0 _ rfl; (with_reducible repeat (first | refine blk_drewN ?_ _ | refine blk_drew ?_ | refine blk_alloc ?_ _)); exact BK424.out) Try.underlying78 rfl (by kernel_rfl)) rfl ?_
    exact ⟨er_, bl_ HB.out⟩
   obtain rfl := Bool.eq_false_iff.mpr c6
   rw [if_neg nf_] at H
   obtain ⟨c8, H⟩ := in_ H
   have c8b0 := eq_true c8
   have c8b1 := decide_eq_true c8
   clear c8
   obtain ⟨y426, hy426⟩ : ∃ y_ : List Bool, y_ = (List.replicate 201 false) := ⟨_, rfl⟩
   replace H : (impl_GapClash.l0 kj1 l0 y426 l0 (l0.length : Int) 0) = some (r1, r2, r3) := hr_ hy426 H
   have Ny426 := am_ hy426
   clear hy426
   have H' := am_ H
   clear H
   go_wp2_with (first | ((with_reducible refine gate_dst (N := 19) rfl ?_); (try (refine gate_guard (by rfl) ?_; dsimp only)); refine Kd.R_make Kd.bool _ 4 rfl (N := 19) rfl 56 _ _ rfl 201 rfl rfl Try.underlying56 (.bool false) 1 info4 rfl (by decide) (by omega) false (ok := fun _ => True) (okp := fun _ => True) rfl (fun _ hk => hk) trivial (by omega) (by omega) (Below.refl _ _) (Nat.le_refl _) ?_; intro v427 w9 ho10 hb hg_ hnew_; clear hg_ hnew_; (first | rw [← Ny426.out] at ho10 | (simp only [Int.reduceToNat] at ho10; rw [← Ny426.out] at ho10)); have HO428 := rl_ ho10 HB; replace BK424 := bb_ BK424 hb; replace HB := bs_ HB hb; clear hb ho10))
   go_loopg [22] kj1 (fun kq v22 w' => ∃ (x4_2 : List Bool) (x22_2 : Int), v22 = .int .i64 x22_2 ∧ Aside0 (impl_GapClash.l0 kq l0 x4_2 l0 (l0.length : Int) x22_2 = some (r1, r2, r3)) ∧ Aside0 (kq ≤ kj1) ∧ Aside0 (Kd.R Kd.bool 4 w' w.heap.size (fun _ => True) v427 x4_2) ∧ Aside0 (w'.heap[gb424]? = some (.cells #[.int .i64 0, .int .i64 0] 78 (0, 0))) ∧ Aside0 (Below w.heap.size w w'))
   case atStart => exact ⟨(y426), (0), sd_, H', ⟨Nat.le_refl _⟩, ⟨kr_ HO428.out⟩, ⟨bk_ BK424.out⟩, ⟨bl_ HB.out⟩⟩
   case round =>
    clear H'
    try clear p2
    try clear c5
    try clear c6
    try clear c9
    try clear hcz7_0
    try clear hcz7_1
    try clear hfz7_0
    try clear hfz7_1
    obtain ⟨x4_2, x22_2, rfl, HA, HK2, HO_4, BK424, HB⟩ := hrel
    cases gk with
    | zero => exact absurd HA.out (by simp [impl_GapClash.l0])
    | succ k2 =>
     have H := HA.out
     clear HA
     simp only [impl_GapClash.l0] at H
     by_cases c11 : x22_2 < (l0.length : Int)
     ·rw [if_pos c11] at H
      have c11b0 := decide_eq_true c11
      clear c11
      obtain ⟨c12, H⟩ := in_ H
      have c12b0 := decide_eq_true c12
      clear c12
      obtain ⟨c13, H⟩ := in_ H
      have c13b0 := decide_eq_true c13
      clear c13
      obtain ⟨c14, H⟩ := in_ H
      have c14b0 := decide_eq_true c14
      clear c14
      obtain ⟨c15, H⟩ := in_ H
      have c15b0 := decide_eq_true c15
      clear c15
      obtain ⟨y430, hy430⟩ : ∃ y_ : List Bool, y_ = (x4_2.set ((rd l0 x22_2) : Int).toNat true) := ⟨_, rfl⟩
      replace H : (impl_GapClash.l0 k2 l0 y430 l0 (l0.length : Int) (wrap64 (x22_2 + 1))) = some (r1, r2, r3) := hr_ hy430 H
      have Ny430 := am_ hy430
      clear hy430
      have H' := am_ H
      clear H
      obtain ⟨p429, q429, ad429, e429, hx429_0⟩ := ri_ (Kd.at_int HR0.out x22_2)
      cases e429
      replace hx429_0 := (HB.out.cell (World.block_lt_of_cell? w _ hx429_0)).trans hx429_0
      have p16 : 0 ≤ ((rd l0 x22_2) : Int) := od_
      have q16 : ((rd l0 x22_2) : Int) < ((x4_2.length : Int) : Int) := od_
      obtain ⟨go16, co16, eo16, gb16, gl16, cl16, HG16⟩ := Kd.R_form HO_4.out (by omega)
      (first | cases eo16 | (injection eo16 with ea_ en_ ec_; (first | subst ea_ | (injection ea_ with ea_; subst ea_)); subst ec_; clear en_))
      have GB16 := am_ gb16
      have GG16 := am_ HG16
      clear gb16 gl16 HG16
      obtain ⟨hx16_0, hf16_0⟩ := Kd.R_celln false HO_4.out ((rd l0 x22_2) : Int) p16 q16
      replace p16 := eq_true p16
      replace q16 := eq_true q16
      have HP17 := Kd.R_putg HO_4.out ((rd l0 x22_2) : Int) true
      go_wp2_with (first | ((with_reducible refine gate_store (t := 4) (p := 28) rfl ?_); refine store_event (t := 4) (p := 28) (v := ?vo_w18) (w1 := (wr.setCell ⟨go16, ((rd l0 x22_2) : Int).toNat, none⟩ (.bool true))) ?hg ?ho ?hn ?hr ?_; (case ho => rfl); (case hg => rfl); (case hn => rfl); (case hr => first | (go_simp; done) | (go_simp; rfl)); intro w18 hw; have hg : wr.grownBy w18 (some go16) := (by rw [hw]; exact HP17.2); have hp_ : Kd.R Kd.bool 4 w18 w.heap.size (fun _ => True) (.slice (some ⟨go16, 0, none⟩) x4_2.length co16) y430 := (by rw [hw, Ny430.out]; exact HP17.1); clear HP17; replace BK424 := am_ (blk_grown (g := gb424) (o := .cells #[.int .i64 0, .int .i64 0] 78 (0, 0)) (bk_ BK424.out) hg (Kd.R_ne HO_4.out BK424.out (by decide))); replace HO_4 := am_ (hp_); replace HB := am_ ((by rw [hw]; exact below_set (HB.out) GB16.out : Below w.heap.size w w18)); clear hg hw hp_))
      go_roundg k2
      case measure => have := HJ1.out; have := HK2.out; omega
      case rel => exact ⟨(y430), (wrap64 (x22_2 + 1)), sd_, H', ⟨by have := HJ1.out; have := HK2.out; omega⟩, ⟨kr_ HO_4.out⟩, ⟨bk_ BK424.out⟩, ⟨bl_ HB.out⟩⟩
     rw [if_neg c11] at H
     have c11b0 : decide (x22_2 < (l0.length : Int)) = false := decide_eq_false c11
     clear c11
     obtain ⟨ji19, hji19⟩ : ∃ j_ : Int, (wrap64 ((l0.length : Int) - 1)) = j_ := ⟨_, rfl⟩
     replace H : (if 0 ≤ (ji19) then (if (ji19) < (l0.length : Int) then (impl_GapClash.l1 k2 x4_2 (rd l0 (ji19)) 1) else (none)) else (none)) = some (r1, r2, r3) := by first | (rw [hji19] at H; exact H) | (simp only [hji19] at H ⊢; exact H)
     have hji19w : (IntKind.i64.wrap ((l0.length : Int) - 1)) = ji19 := (i64_w _).trans hji19
     obtain ⟨c20, H⟩ := in_ H
     have c20b0 := decide_eq_true c20
     clear c20
     obtain ⟨c21, H⟩ := in_ H
     have c21b0 := decide_eq_true c21
     clear c21
     have H' := am_ H
     clear H
     obtain ⟨p431, q431, ad431, e431, hx431_0⟩ := ri_ (Kd.at_int HR0.out (ji19))
     cases e431
     replace hx431_0 := (HB.out.cell (World.block_lt_of_cell? w _ hx431_0)).trans hx431_0
     go_wp2
     go_loopg [8] k2 (fun kq v8 w' => ∃ (x8_3 : Int) (x425000_3 : Int) (x425001_3 : Int), v8 = .int .i64 x8_3 ∧ Aside0 (impl_GapClash.l1 kq x4_2 (rd l0 (ji19)) x8_3 = some (r1, r2, r3)) ∧ Aside0 (kq ≤ k2) ∧ Aside0 (Kd.R Kd.bool 4 w' w.heap.size (fun _ => True) v427 x4_2) ∧ Aside0 (w'.heap[gb424]? = some (.cells #[.int .i64 x425000_3, .int .i64 x425001_3] 78 (0, 0))) ∧ Aside0 (Below w.heap.size w w'))
     case atStart => exact ⟨(1), (0), (0), sd_, H', ⟨Nat.le_refl _⟩, ⟨kr_ HO_4.out⟩, ⟨bk_ BK424.out⟩, ⟨bl_ HB.out⟩⟩
     case round =>
      clear H'
      try clear c1
      try clear p1
      try clear q1
      try clear hx1
      try clear hf1
      try clear c2
      try clear p2
      try clear p4
      try clear q4
      try clear hx4
      try clear c5
      try clear c6
      try clear p6
      try clear c9
      try clear p16
      try clear q16
      try clear hx16
      try clear hf16
      try clear hcz7_0
      try clear hcz7_1
      try clear hfz7_0
      try clear hfz7_1
      try clear hx16_0
      try clear hx429_0
      try clear hx431_0
      try clear p429
      try clear p431
      try clear q429
      try clear q431
      obtain ⟨x8_3, x425000_3, x425001_3, rfl, HA, HK3, HO_4, BK424, HB⟩ := hrel
      cases gk with
      | zero => exact absurd HA.out (by simp [impl_GapClash.l1])
      | succ k3 =>
       have H := HA.out
       clear HA
       simp only [impl_GapClash.l1] at H
       by_cases c22 : x8_3 ≤ (rd l0 (ji19))
       rotate_left
       ·rw [if_neg c22] at H
        have c22b0 : decide (x8_3 ≤ (rd l0 (ji19))) = false := decide_eq_false c22
        clear c22
        simp only [Option.some.injEq, Prod.mk.injEq] at H
        obtain ⟨rfl, rfl, rfl⟩ := H
        have hcz42_0 : wr.cell? ⟨gb424, 0, none⟩ = some (.int .i64 x425000_3) := (blk_cell BK424.out 0).trans rfl
        have hcz42_1 : wr.cell? ⟨gb424, 1, none⟩ = some (.int .i64 x425001_3) := (blk_cell BK424.out 1).trans rfl
        have hfz42_0 := blk_frozen BK424.out 0
        have hfz42_1 := blk_frozen BK424.out 1
        go_wp2
        refine bodyPost_ret (results_ct rfl _ _ gb424 78 #[.int .i64 0, .int .i64 0] (0, 0) _ rfl (by (with_reducible repeat (first | refine blk_drewN ?_ _ | refine blk_drew ?_ | refine blk_alloc ?_ _)); refine blk_put (cs := #[.int .i64 0, .int .i64 x425001_3]) ?_ 1 _ rfl; (with_reducible repeat (first | refine blk_drewN ?_ _ | refine blk_drew ?_ | refine blk_alloc ?_ _)); refine blk_put (cs := #[.int .i64 x425000_3, .int .i64 x425001_3]) ?_ 0 _ rfl; (with_reducible repeat (first | refine blk_drewN ?_ _ | refine blk_drew ?_ | refine blk_alloc ?_ _)); exact BK424.out) Try.underlying78 rfl (by kernel_rfl)) rfl ?_
        exact ⟨by first | rfl | (simp [errW_none, errW_some] <;> rfl) | (simp only [← hji19]; first | rfl | (simp [errW_none, errW_some] <;> rfl)) | (simp [*, errW_none, errW_some] <;> rfl), bl_ HB.out⟩
       rw [if_pos c22] at H
       have c22b0 := decide_eq_true c22
       clear c22
       have H' := am_ H
       clear H
       go_wp2
       go_loopg [9] k3 (fun kq v9 w' => ∃ (x9_4 : Int) (x425000_4 : Int) (x425001_4 : Int), v9 = .int .i64 x9_4 ∧ Aside0 (impl_GapClash.l2 kq x4_2 (rd l0 (ji19)) x8_3 x9_4 = some (r1, r2, r3)) ∧ Aside0 (kq ≤ k3) ∧ Aside0 (Kd.R Kd.bool 4 w' w.heap.size (fun _ => True) v427 x4_2) ∧ Aside0 (w'.heap[gb424]? = some (.cells #[.int .i64 x425000_4, .int .i64 x425001_4] 78 (0, 0))) ∧ Aside0 (Below w.heap.size w w'))
       case atStart => exact ⟨(x8_3), (x425000_3), (x425001_3), sd_, H', ⟨Nat.le_refl _⟩, ⟨kr_ HO_4.out⟩, ⟨bk_ BK424.out⟩, ⟨bl_ HB.out⟩⟩
       case round =>
        clear H'
        try clear c1
        try clear p1
        try clear q1
        try clear hx1
        try clear hf1
        try clear c2
        try clear p2
        try clear p4
        try clear q4
        try clear hx4
        try clear c5
        try clear c6
        try clear p6
        try clear c9
        try clear p16
        try clear q16
        try clear hx16
        try clear hf16
        try clear hcz7_0
        try clear hcz7_1
        try clear hfz7_0
        try clear hfz7_1
        try clear hx16_0
        try clear hx429_0
        try clear hx431_0
        try clear p429
        try clear p431
        try clear q429
        try clear q431
        obtain ⟨x9_4, x425000_4, x425001_4, rfl, HA, HK4, HO_4, BK424, HB⟩ := hrel
        cases gk with
        | zero => exact absurd HA.out (by simp [impl_GapClash.l2])
        | succ k4 =>
         have H := HA.out
         clear HA
         simp only [impl_GapClash.l2] at H
         by_cases c23 : (wrap64 (x8_3 + x9_4)) ≤ (rd l0 (ji19))
         rotate_left
         ·rw [if_neg c23] at H
          have c23b0 : decide ((wrap64 (x8_3 + x9_4)) ≤ (rd l0 (ji19))) = false := decide_eq_false c23
          clear c23
          have H' := am_ H
          clear H
          go_wp2
          go_roundg k4
          case measure => have := HJ1.out; have := HK2.out; have := HK3.out; have := HK4.out; omega
          case rel => exact ⟨(wrap64 (x8_3 + 1)), (x425000_4), (x425001_4), sd_, H', ⟨by have := HJ1.out; have := HK2.out; have := HK3.out; have := HK4.out; omega⟩, ⟨kr_ HO_4.out⟩, ⟨bk_ BK424.out⟩, ⟨bl_ HB.out⟩⟩
         rw [if_pos c23] at H
         have c23b0 := decide_eq_true c23
         clear c23
         obtain ⟨c24, H⟩ := in_ H
         have c24b0 := decide_eq_true c24
         clear c24
         obtain ⟨c25, H⟩ := in_ H
         have c25b0 := decide_eq_true c25
         clear c25
         obtain ⟨bq26, hbq26⟩ : ∃ b_ : Bool, b_ = (rdOf false x4_2 x8_3) := ⟨_, rfl⟩
         replace H : (if bq26 = true then (impl_GapClash.l2 k4 x4_2 (rd l0 (ji19)) x8_3 (wrap64 (x9_4 + 1))) else (if 0 ≤ x9_4 then (if x9_4 < (x4_2.length : Int) then (if rdOf false x4_2 x9_4 = true then (impl_GapClash.l2 k4 x4_2 (rd l0 (ji19)) x8_3 (wrap64 (x9_4 + 1))) else (if 0 ≤ (wrap64 (x8_3 + x9_4)) then (if (wrap64 (x8_3 + x9_4)) < (x4_2.length : Int) then (if rdOf false x4_2 (wrap64 (x8_3 + x9_4)) = true then (some (x8_3, x9_4, true)) else (impl_GapClash.l2 k4 x4_2 (rd l0 (ji19)) x8_3 (wrap64 (x9_4 + 1)))) else (none)) else (none))) else (none)) else (none))) = some (r1, r2, r3) := by rw [← hbq26] at H; exact H
         have Nbq26 := am_ hbq26
         clear hbq26
         by_cases c27 : bq26 = true
         ·subst c27
          rw [if_pos rfl] at H
          have H' := am_ H
          clear H
          obtain ⟨Ao28, co28, eo28⟩ := Kd.R_slice HO_4.out
          subst eo28
          obtain ⟨p432, q432, ad432, e432, hx432_0⟩ := ri_ (Kd.at_bool (Kd.R_reads' HO_4.out).2.2 x8_3)
          (try rw [← Nbq26.out] at hx432_0)
          cases e432
          go_wp2
          go_roundg k4
          case measure => have := HJ1.out; have := HK2.out; have := HK3.out; have := HK4.out; omega
          case rel => exact ⟨(wrap64 (x9_4 + 1)), (x425000_4), (x425001_4), sd_, H', ⟨by have := HJ1.out; have := HK2.out; have := HK3.out; have := HK4.out; omega⟩, ⟨kr_ HO_4.out⟩, ⟨bk_ BK424.out⟩, ⟨bl_ HB.out⟩⟩
         obtain rfl := Bool.eq_false_iff.mpr c27
         rw [if_neg nf_] at H
         obtain ⟨c29, H⟩ := in_ H
         have c29b0 := decide_eq_true c29
         clear c29
         obtain ⟨c30, H⟩ := in_ H
         have c30b0 := decide_eq_true c30
         clear c30
         obtain ⟨bq31, hbq31⟩ : ∃ b_ : Bool, b_ = (rdOf false x4_2 x9_4) := ⟨_, rfl⟩
         replace H : (if bq31 = true then (impl_GapClash.l2 k4 x4_2 (rd l0 (ji19)) x8_3 (wrap64 (x9_4 + 1))) else (if 0 ≤ (wrap64 (x8_3 + x9_4)) then (if (wrap64 (x8_3 + x9_4)) < (x4_2.length : Int) then (if rdOf false x4_2 (wrap64 (x8_3 + x9_4)) = true then (some (x8_3, x9_4, true)) else (impl_GapClash.l2 k4 x4_2 (rd l0 (ji19)) x8_3 (wrap64 (x9_4 + 1)))) else (none)) else (none))) = some (r1, r2, r3) := by rw [← hbq31] at H; exact H
         have Nbq31 := am_ hbq31
         clear hbq31
         by_cases c32 : bq31 = true
         ·subst c32
          rw [if_pos rfl] at H
          have H' := am_ H
          clear H
          obtain ⟨Ao33, co33, eo33⟩ := Kd.R_slice HO_4.out
          subst eo33
          obtain ⟨p432, q432, ad432, e432, hx432_0⟩ := ri_ (Kd.at_bool (Kd.R_reads' HO_4.out).2.2 x8_3)
          (try rw [← Nbq26.out] at hx432_0)
          (try rw [← Nbq31.out] at hx432_0)
          cases e432
          obtain ⟨p433, q433, ad433, e433, hx433_0⟩ := ri_ (Kd.at_bool (Kd.R_reads' HO_4.out).2.2 x9_4)
          (try rw [← Nbq26.out] at hx433_0)
          (try rw [← Nbq31.out] at hx433_0)
          obtain rfl : ad432 = ad433 := (by injection e433)
          go_wp2
          go_roundg k4
          case measure => have := HJ1.out; have := HK2.out; have := HK3.out; have := HK4.out; omega
          case rel => exact ⟨(wrap64 (x9_4 + 1)), (x425000_4), (x425001_4), sd_, H', ⟨by have := HJ1.out; have := HK2.out; have := HK3.out; have := HK4.out; omega⟩, ⟨kr_ HO_4.out⟩, ⟨bk_ BK424.out⟩, ⟨bl_ HB.out⟩⟩
         obtain rfl := Bool.eq_false_iff.mpr c32
         rw [if_neg nf_] at H
         obtain ⟨ji34, hji34⟩ : ∃ j_ : Int, (wrap64 (x8_3 + x9_4)) = j_ := ⟨_, rfl⟩
         replace H : (if 0 ≤ (ji34) then (if (ji34) < (x4_2.length : Int) then (if rdOf false x4_2 (ji34) = true then (some (x8_3, x9_4, true)) else (impl_GapClash.l2 k4 x4_2 (rd l0 (ji19)) x8_3 (wrap64 (x9_4 + 1)))) else (none)) else (none)) = some (r1, r2, r3) := by first | (rw [hji34] at H; exact H) | (simp only [hji34] at H ⊢; exact H)
         (try rw [hji34] at c23b0)
         have hji34w : (IntKind.i64.wrap (x8_3 + x9_4)) = ji34 := (i64_w _).trans hji34
         obtain ⟨c35, H⟩ := in_ H
         have c35b0 := decide_eq_true c35
         clear c35
         obtain ⟨c36, H⟩ := in_ H
         have c36b0 := decide_eq_true c36
         clear c36
         obtain ⟨bq37, hbq37⟩ : ∃ b_ : Bool, b_ = (rdOf false x4_2 (ji34)) := ⟨_, rfl⟩
         replace H : (if bq37 = true then (some (x8_3, x9_4, true)) else (impl_GapClash.l2 k4 x4_2 (rd l0 (ji19)) x8_3 (wrap64 (x9_4 + 1)))) = some (r1, r2, r3) := by rw [← hbq37] at H; exact H
         have Nbq37 := am_ hbq37
         clear hbq37
         by_cases c38 : bq37 = true
         ·subst c38
          rw [if_pos rfl] at H
          simp only [Option.some.injEq, Prod.mk.injEq] at H
          obtain ⟨rfl, rfl, rfl⟩ := H
          obtain ⟨Ao39, co39, eo39⟩ := Kd.R_slice HO_4.out
          subst eo39
          obtain ⟨p432, q432, ad432, e432, hx432_0⟩ := ri_ (Kd.at_bool (Kd.R_reads' HO_4.out).2.2 x8_3)
          (try rw [← Nbq26.out] at hx432_0)
          (try rw [← Nbq31.out] at hx432_0)
          (try rw [← Nbq37.out] at hx432_0)
          cases e432
          obtain ⟨p433, q433, ad433, e433, hx433_0⟩ := ri_ (Kd.at_bool (Kd.R_reads' HO_4.out).2.2 x9_4)
          (try rw [← Nbq26.out] at hx433_0)
          (try rw [← Nbq31.out] at hx433_0)
          (try rw [← Nbq37.out] at hx433_0)
          obtain rfl : ad432 = ad433 := (by injection e433)
          obtain ⟨p434, q434, ad434, e434, hx434_0⟩ := ri_ (Kd.at_bool (Kd.R_reads' HO_4.out).2.2 (ji34))
          (try rw [← Nbq26.out] at hx434_0)
          (try rw [← Nbq31.out] at hx434_0)
          (try rw [← Nbq37.out] at hx434_0)
          obtain rfl : ad432 = ad434 := (by injection e434)
          have hcz40_0 : wr.cell? ⟨gb424, 0, none⟩ = some (.int .i64 x425000_4) := (blk_cell BK424.out 0).trans rfl
          have hcz40_1 : wr.cell? ⟨gb424, 1, none⟩ = some (.int .i64 x425001_4) := (blk_cell BK424.out 1).trans rfl
          have hfz40_0 := blk_frozen BK424.out 0
          have hfz40_1 := blk_frozen BK424.out 1
          go_wp2
          refine bodyPost_ret (results_ct rfl _ _ gb424 78 #[.int .i64 x8_3, .int .i64 x9_4] (0, 0) _ rfl (by (with_reducible repeat (first | refine blk_drewN ?_ _ | refine blk_drew ?_ | refine blk_alloc ?_ _)); refine blk_put (cs := #[.int .i64 x8_3, .int .i64 x425001_4]) ?_ 1 _ rfl; (with_reducible repeat (first | refine blk_drewN ?_ _ | refine blk_drew ?_ | refine blk_alloc ?_ _)); refine blk_put (cs := #[.int .i64 x425000_4, .int .i64 x425001_4]) ?_ 0 _ rfl; (with_reducible repeat (first | refine blk_drewN ?_ _ | refine blk_drew ?_ | refine blk_alloc ?_ _)); exact BK424.out) Try.underlying78 rfl (by kernel_rfl)) rfl ?_
          exact ⟨by first | rfl | (simp [errW_none, errW_some] <;> rfl) | (simp only [← hji19, ← hji34]; first | rfl | (simp [errW_none, errW_some] <;> rfl)) | (simp [*, errW_none, errW_some] <;> rfl), bl_ HB.out⟩
         obtain rfl := Bool.eq_false_iff.mpr c38
         rw [if_neg nf_] at H
         have H' := am_ H
         clear H
         obtain ⟨Ao41, co41, eo41⟩ := Kd.R_slice HO_4.out
         subst eo41
         obtain ⟨p432, q432, ad432, e432, hx432_0⟩ := ri_ (Kd.at_bool (Kd.R_reads' HO_4.out).2.2 x8_3)
         (try rw [← Nbq26.out] at hx432_0)
         (try rw [← Nbq31.out] at hx432_0)
         (try rw [← Nbq37.out] at hx432_0)
         cases e432
         obtain ⟨p433, q433, ad433, e433, hx433_0⟩ := ri_ (Kd.at_bool (Kd.R_reads' HO_4.out).2.2 x9_4)
         (try rw [← Nbq26.out] at hx433_0)
         (try rw [← Nbq31.out] at hx433_0)
         (try rw [← Nbq37.out] at hx433_0)
         obtain rfl : ad432 = ad433 := (by injection e433)
         obtain ⟨p434, q434, ad434, e434, hx434_0⟩ := ri_ (Kd.at_bool (Kd.R_reads' HO_4.out).2.2 (ji34))
         (try rw [← Nbq26.out] at hx434_0)
         (try rw [← Nbq31.out] at hx434_0)
         (try rw [← Nbq37.out] at hx434_0)
         obtain rfl : ad432 = ad434 := (by injection e434)
         go_wp2
         go_roundg k4
         case measure => have := HJ1.out; have := HK2.out; have := HK3.out; have := HK4.out; omega
         case rel => exact ⟨(wrap64 (x9_4 + 1)), (x425000_4), (x425001_4), sd_, H', ⟨by have := HJ1.out; have := HK2.out; have := HK3.out; have := HK4.out; omega⟩, ⟨kr_ HO_4.out⟩, ⟨bk_ BK424.out⟩, ⟨bl_ HB.out⟩⟩
def slices_Equal_int_int.l0 : Nat → List Int → List Int → Int → Int → Option (Bool)
 | 0, _, _, _, _ => none
 | k + 1, x0, x1, x12, x13 => if x13 < x12 then (if 0 ≤ x13 then (if x13 < (x0.length : Int) then (if x13 < (x1.length : Int) then (if (rd x0 x13) = (rd x1 x13) then (slices_Equal_int_int.l0 k x0 x1 x12 (wrap64 (x13 + 1))) else (some false)) else (none)) else (none)) else (none)) else (some true)
def slices_Equal_int_int.f (k : Nat) (l0 : List Int) (l1 : List Int) : Option (Bool) := if (l0.length : Int) = (l1.length : Int) then (slices_Equal_int_int.l0 k l0 l1 (l0.length : Int) 0) else (some false)
theorem slices_Equal_int_int.calls (k : Nat) (A0 : Option Addr) (c0 : Nat) (l0 : List Int) (A1 : Option Addr) (c1 : Nat) (l1 : List Int) (r : Bool) (w : World) (hr0 : Kd.C (Kd.int .i64) w A0 l0.length l0) (hc0 : l0.length ≤ c0) (hr1 : Kd.C (Kd.int .i64) w A1 l1.length l1) (hc1 : l1.length ≤ c1) (h : slices_Equal_int_int.f k l0 l1 = some r) :
 Calls Try.prog 93 #[.slice A0 l0.length c0, .slice A1 l1.length c1] w fun e w' => e = .returned (.bool r) ∧ Drawn0 w w' := by
 have HR0 := am_ hr0
 have HC0 := am_ hc0
 clear hr0 hc0
 have HR1 := am_ hr1
 have HC1 := am_ hc1
 clear hr1 hc1
 have H := h
 clear h
 unfold slices_Equal_int_int.f at H
 by_cases c3 : (l0.length : Int) = (l1.length : Int)
 rotate_left
 ·rw [if_neg c3] at H
  have c3b0 : ((l0.length : Int) == (l1.length : Int)) = false := beq_eq_false_iff_ne.mpr c3
  have c3b1 : ((l0.length : Int) != (l1.length : Int)) = true := bne_iff_ne.mpr c3
  have c3b2 : (l0.length == l1.length) = false := by first | simpa using c3 | (simp at c3 ⊢; omega)
  obtain rfl := Option.some.inj H
  go_enter Try.func93, Try.ntmps93
  go_wp2
  repeat (go_quiet (fail); try go_wp2)
  go_ret
  exact ⟨sd_, dr_⟩
 rw [if_pos c3] at H
 have c3b0 : ((l0.length : Int) == (l1.length : Int)) = true := beq_iff_eq.mpr c3
 have c3b1 : ((l0.length : Int) != (l1.length : Int)) = false := bne_eq_false_iff_eq.mpr c3
 have c3b2 : (l0.length == l1.length) = true := by first | simpa using c3 | (simp at c3 ⊢; omega)
 clear c3
 have H' := am_ H
 clear H
 go_enter Try.func93, Try.ntmps93
 go_wp2
 repeat (go_quiet (fail); try go_wp2)
 go_loopg [13] k (fun kq v13 w' => ∃ (x13_1 : Int), v13 = .int .i64 x13_1 ∧ Aside0 (slices_Equal_int_int.l0 kq l0 l1 (l0.length : Int) x13_1 = some r) ∧ Aside0 (kq ≤ k) ∧ Drawn0 w w')
 case atStart => exact ⟨(0), sd_, H', ⟨Nat.le_refl _⟩, dr_⟩
 case round =>
  clear H'
  try clear c1
  try clear p2
  obtain ⟨x13_1, rfl, HA, HK1, ⟨m1, rfl⟩⟩ := hrel
  cases gk with
  | zero => exact absurd HA.out (by simp [slices_Equal_int_int.l0])
  | succ k1 =>
   have H := HA.out
   clear HA
   simp only [slices_Equal_int_int.l0] at H
   by_cases c4 : x13_1 < (l0.length : Int)
   rotate_left
   ·rw [if_neg c4] at H
    have c4b0 : decide (x13_1 < (l0.length : Int)) = false := decide_eq_false c4
    clear c4
    obtain rfl := Option.some.inj H
    go_wp2
    repeat (go_quiet (fail); try go_wp2)
    go_ret
    exact ⟨sd_, dr_⟩
   rw [if_pos c4] at H
   have c4b0 := decide_eq_true c4
   clear c4
   obtain ⟨c5, H⟩ := in_ H
   have c5b0 := decide_eq_true c5
   clear c5
   obtain ⟨c6, H⟩ := in_ H
   have c6b0 := decide_eq_true c6
   clear c6
   obtain ⟨c7, H⟩ := in_ H
   have c7b0 := decide_eq_true c7
   clear c7
   by_cases c8 : (rd l0 x13_1) = (rd l1 x13_1)
   ·rw [if_pos c8] at H
    have c8b0 : ((rd l0 x13_1) == (rd l1 x13_1)) = true := beq_iff_eq.mpr c8
    have c8b1 : ((rd l0 x13_1) != (rd l1 x13_1)) = false := bne_eq_false_iff_eq.mpr c8
    clear c8
    have H' := am_ H
    clear H
    obtain ⟨p435, q435, ad435, e435, hx435_0⟩ := ri_ (Kd.at_int HR0.out x13_1)
    cases e435
    obtain ⟨p436, q436, ad436, e436, hx436_0⟩ := ri_ (Kd.at_int HR1.out x13_1)
    cases e436
    go_wp2
    repeat (go_quiet (fail); try go_wp2)
    go_roundg k1
    case measure => have := HK1.out; omega
    case rel => exact ⟨(wrap64 (x13_1 + 1)), sd_, H', ⟨by have := HK1.out; omega⟩, dr_⟩
   rw [if_neg c8] at H
   have c8b0 : ((rd l0 x13_1) == (rd l1 x13_1)) = false := beq_eq_false_iff_ne.mpr c8
   have c8b1 : ((rd l0 x13_1) != (rd l1 x13_1)) = true := bne_iff_ne.mpr c8
   obtain rfl := Option.some.inj H
   obtain ⟨p435, q435, ad435, e435, hx435_0⟩ := ri_ (Kd.at_int HR0.out x13_1)
   cases e435
   obtain ⟨p436, q436, ad436, e436, hx436_0⟩ := ri_ (Kd.at_int HR1.out x13_1)
   cases e436
   go_wp2
   repeat (go_quiet (fail); try go_wp2)
   go_ret
   exact ⟨sd_, dr_⟩
end Go.Proofs.Ytddgegejeoihaaa.PFnArf
end
