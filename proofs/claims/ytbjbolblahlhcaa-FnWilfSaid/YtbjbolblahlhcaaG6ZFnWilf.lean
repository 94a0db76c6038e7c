/- Part 6 of the claim for FnWilf, of the chain from the printed contracts and the plain laws to the row. It has no condition of its own. -/
import Derived.Test.YtbjbolblahlhcaaG1ZFnWilf
import Derived.Test.YtbjbolblahlhcaaG5ZFnWilf
section
namespace Go.Proofs.Ytbjbolblahlhcaa.PFnWilf
open Go.RowKit Go.Proofs.YtbjbolblahlhcaaW.PrintWords Go.Proofs.YtbjbolblahlhcaaW.PrintLast Go.Proofs.YtbjbolblahlhcaaW.PrintMore
open Go.Proofs.Ytbjbolblahlhcaa.SortW (bk_ kr_ t_ f_)
open Go.Proofs.Ytbjbolblahlhcaa.SqW
attribute [local go_sem] max2_int min2_int max_two min_two max_three min_three max_four min_four
set_option linter.unusedVariables false
set_option linter.unusedSimpArgs false
def impl_Generates.f (k : Nat) (l0 : List Int) (a1 : Int) : Option (Bool) := (impl_usable.f k l0).bind fun t377 => (if t377 = true then ((impl_within.f a1 0 1000000).bind fun t378 => (if t378 = true then (if 0 < (l0.length : Int) then ((impl_leasts.f k l0 (rd l0 0)).bind fun t380 => (if (rd l0 0) = 0 then (none) else (if 0 ≤ (Int.tmod a1 (rd l0 0)) then (if (Int.tmod a1 (rd l0 0)) < (t380.length : Int) then (if (rd t380 (Int.tmod a1 (rd l0 0))) ≥ 0 then (some (decide ((rd t380 (Int.tmod a1 (rd l0 0))) ≤ a1))) else (some false)) else (none)) else (none)))) else (none)) else (some false))) else (some false))
def impl_Generates.T3 : Bool × List (List Nat × List Nat) := (true, [([], []), ([], []), ([1], [1]), ([2], [2]), ([0, 3], [0, 3]), ([], []), ([], []), ([6], [6]), ([7], [7]), ([5, 8], [5, 8]), ([4, 9], [4, 9]), ([10], [10]), ([11, 4, 0, 1, 2, 3, 4, 5, 6, 7, 8, 9, 10, 11], [11])])
def impl_Generates.B3 : List Nat := [0, 0, 2, 6, 15, 0, 0, 64, 192, 480, 1023, 2047, 4095]
theorem impl_Generates.tab3 : rtab .any (opsOf Try.f124 3) = impl_Generates.T3 := by kernel_rfl
theorem impl_Generates.bits3 : waitsOk impl_Generates.T3.2 impl_Generates.B3 = true := by kernel_rfl
set_option maxHeartbeats 8000000 in
set_option maxRecDepth 100000 in
theorem impl_Generates.calls (k : Nat) (A0 : Option Addr) (c0 : Nat) (l0 : List Int) (a1 : Int) (r : Bool) (w : World) (hr0 : Kd.C (Kd.int .i64) w A0 l0.length l0) (hc0 : l0.length ≤ c0) (h : impl_Generates.f k l0 a1 = some r) :
 Calls Try.prog 124 #[.slice A0 l0.length c0, .int .i64 a1] w fun e w' => e = .returned (.bool r) ∧ Below w.heap.size w w' := by
 have HR0 := Aside0.mk hr0
 have HC0 := Aside0.mk hc0
 clear hr0 hc0
 have HB := Aside0.mk (Below.refl w.heap.size w)
 have H := h
 clear h
 unfold impl_Generates.f at H
 obtain ⟨t377, A3, H⟩ := ob_ H
 (try dsimp only at H)
 by_cases c4 : t377 = true
 ·subst c4
  rw [if_pos rfl] at H
  obtain ⟨t378, A5, H⟩ := ob_ H
  (try dsimp only at H)
  by_cases c6 : t378 = true
  ·subst c6
   rw [if_pos rfl] at H
   by_cases c7 : 0 < (l0.length : Int)
   ·rw [if_pos c7] at H
    have c7b0 : decide (0 < (l0.length : Int)) = true := decide_eq_true c7
    have c7b1 : decide (0 < l0.length) = true := decide_eq_true (by omega)
    clear c7
    obtain ⟨t380, A8, H⟩ := ob_ H
    (try dsimp only at H)
    by_cases c9 : (rd l0 0) = 0
    ·rw [if_pos c9] at H
     exact absurd H (by simp)
    ·rw [if_neg c9] at H
     have c9b0 : ((rd l0 0) == 0) = false := beq_eq_false_iff_ne.mpr c9
     have c9b1 : ((rd l0 0) != 0) = true := bne_iff_ne.mpr c9
     obtain ⟨ji10, hji10⟩ : ∃ j_ : Int, (Int.tmod a1 (rd l0 0)) = j_ := ⟨_, rfl⟩
     replace H : (if 0 ≤ (ji10) then (if (ji10) < (t380.length : Int) then (if (rd t380 (ji10)) ≥ 0 then (some (decide ((rd t380 (ji10)) ≤ a1))) else (some false)) else (none)) else (none)) = some r := by first | (rw [hji10] at H; exact H) | (simp only [hji10] at H ⊢; exact H)
     (try rw [hji10] at A3)
     (try rw [hji10] at A5)
     (try rw [hji10] at A8)
     by_cases c11 : 0 ≤ (ji10)
     ·rw [if_pos c11] at H
      have c11b0 : decide (0 ≤ (ji10)) = true := decide_eq_true c11
      clear c11
      by_cases c12 : (ji10) < (t380.length : Int)
      ·rw [if_pos c12] at H
       have c12b0 : decide ((ji10) < (t380.length : Int)) = true := decide_eq_true c12
       clear c12
       by_cases c13 : (rd t380 (ji10)) ≥ 0
       ·rw [if_pos c13] at H
        have c13b0 : decide (0 ≤ (rd t380 (ji10))) = true := decide_eq_true c13
        clear c13
        obtain rfl := Option.some.inj H
        go_enter Try.func124, Try.ntmps124
        try go_wp2_with (first | ((with_reducible refine gate_callee (f := 121) rfl ?_); refine gl_ 7 Try.func121 #[.slice A0 l0.length c0] ?_; (with_reducible refine (impl_usable.calls k _ _ l0 true _ ?side1 ?side2 A3.out).mono ?_); (case side1 => repeat (first | exact HR0.out | (with_reducible refine Kd.C_alloc ?_ _) | (with_reducible refine Kd.C_drewN ?_ _) | (with_reducible refine Kd.C_drew ?_))); (case side2 => exact HC0.out); rintro e w' ⟨rfl, ⟨nd, rfl⟩⟩; refine ⟨_, rfl, ?_⟩) | (go_at_call 77; (with_reducible refine (impl_within.calls a1 0 1000000 true _ A5.out).mono ?_); rintro e w' ⟨rfl, ⟨nd, rfl⟩⟩))
        replace HB := Aside0.mk (below_drew1 HB.out)
        have p379 : 0 ≤ (0 : Int) := (by omega)
        have q379 : 0 < (l0.length : Int) := od_
        obtain ⟨ad379, e379, hx379_0⟩ := Kd.at_int HR0.out 0 p379 q379
        have hw379_0 := hx379_0
        (try rw [show ((0 : Int)).toNat = 0 from rfl] at hw379_0)
        (try rw [show 0 * 1 = 0 from rfl] at hw379_0)
        (try rw [Addr.add_zero'] at hw379_0)
        cases e379
        have qi379 : (0 < l0.length) = True := eq_true (by omega)
        (try rw [show ((0 : Int)).toNat = 0 from rfl] at hx379_0)
        (try rw [Addr.add_zero'] at hx379_0)
        replace hx379_0 := (HB.out.cell (World.block_lt_of_cell? w _ hx379_0)).trans hx379_0
        replace p379 := eq_true p379
        replace q379 := eq_true q379
        have p383 : 0 ≤ (0 : Int) := (by omega)
        have q383 : 0 < (l0.length : Int) := od_
        obtain ⟨ad383, e383, hx383_0⟩ := Kd.at_int HR0.out 0 p383 q383
        have hw383_0 := hx383_0
        (try rw [show ((0 : Int)).toNat = 0 from rfl] at hw383_0)
        (try rw [show 0 * 1 = 0 from rfl] at hw383_0)
        (try rw [Addr.add_zero'] at hw383_0)
        obtain rfl : ad379 = ad383 := (by injection e383)
        have qi383 : (0 < l0.length) = True := eq_true (by omega)
        (try rw [show ((0 : Int)).toNat = 0 from rfl] at hx383_0)
        (try rw [Addr.add_zero'] at hx383_0)
        replace hx383_0 := (HB.out.cell (World.block_lt_of_cell? w _ hx383_0)).trans hx383_0
        replace p383 := eq_true p383
        replace q383 := eq_true q383
        refine start_ (n := 13) (S := fun w' => w'.cell? ad379 = some (.int .i64 (rd l0 0)) ∧ w'.cell? ad379 = some (.int .i64 (rd l0 0))) (ds := []) (fl_ 13 0) (by kernel_rfl) rfl rfl ⟨((HB.out.cell (World.block_lt_of_cell? w _ hw379_0)).trans hw379_0), ((HB.out.cell (World.block_lt_of_cell? w _ hw383_0)).trans hw383_0)⟩ (fun hHeld => ?_); refine with_tabW impl_Generates.tab3 impl_Generates.bits3 (fun HT_ HW_ => ?_)
        generalize w.drew = w14 at HB hx379_0 hx383_0 hHeld ⊢
        refine pu_ 0 14 (fl_ 13 1) ?_
        refine pu_ 1 15 (fl_ 13 2) ?_
        refine pu_ 2 16 (fl_ 13 3) ?_
        refine pu_ 5 19 (fm_ 13 39) ?_
        refine pu_ 6 20 (fm_ 13 103) ?_
        refine pu_ 7 21 (fm_ 13 231) ?_
        refine ta_ 3 17 (fm_ 13 239) ?_
        refine ta_ 8 22 (fm_ 13 495) ?_
        refine pu_ 9 23 (fm_ 13 1007) ?_
        refine on_ 4 18 (fl_ 13 10) fun K hK => ?_
        refine go_ Try.func133 #[.slice (some ad379) l0.length c0, .int .i64 (rd l0 0)] ?_
        with_reducible refine (impl_leasts.calls k _ _ l0 (rd l0 0) t380 _ ?side1 ?side2 A8.out).mono ?_
        (case side1 => exact cs_ HR0 HB)
        (case side2 => exact HC0.out)
        rintro e w15 ⟨v381, rfl, ho0, hb⟩
        refine ⟨_, rfl, ?_⟩
        have HO382 := rl_ ho0 HB
        replace HB := bs_ HB hb
        (try clear hb)
        (try clear hb2)
        (try clear hk)
        (try clear hi)
        (try clear ho0)
        obtain ⟨Ao16, co16, eo16⟩ := Kd.R_slice HO382.out
        (first | subst eo16 | (injection eo16 with f1_ f2_ f3_; have f4_ := f1_.symm; have f5_ := f3_.symm; clear f1_ f2_ f3_; subst f4_; subst f5_))
        have p384 : 0 ≤ ((ji10) : Int) := od_
        have q384 : (ji10) < (t380.length : Int) := od_
        obtain ⟨ad384, e384, hx384_0⟩ := Kd.at_int (Kd.R_reads' HO382.out).2.2 (ji10) p384 q384
        cases e384
        replace p384 := eq_true p384
        replace q384 := eq_true q384
        refine hK.out _ _ ⟨((HB.out.cell (World.block_lt_of_cell? w _ hw379_0)).trans hw379_0), ((HB.out.cell (World.block_lt_of_cell? w _ hw383_0)).trans hw383_0)⟩ (fun hHeld => ?_)
        clear hK K
        refine no_ 18 ?_
        refine pu_ 10 24 (fl_ 13 11) ?_
        have HSall_ := hHeld
        refine on_ 11 25 (fl_ 13 12) fun K hK => ?_
        refine value_ (w1 := ?_) (v := ?_) (by rfl) rfl ?_ ?_
        rotate_left 2
        ·go_simp
         constructor
         ·rfl
         ·rfl
        refine hK.out _ _ HSall_ (fun hHeld => ?_)
        clear hK K HSall_
        refine no_ 25 ?_
        refine pu_ 12 5 (fl_ 13 13) ?_
        refine done_ (done_of HT_.out (by kernel_rfl)) ?_
        try go_wp2
        go_ret
        exact ⟨by first | rfl | (simp [errW_none, errW_some] <;> rfl) | (simp only [← hji10]; first | rfl | (simp [errW_none, errW_some] <;> rfl)) | (simp [*, errW_none, errW_some] <;> rfl), bl_ HB.out⟩
       ·rw [if_neg c13] at H
        have c13b0 : decide (0 ≤ (rd t380 (ji10))) = false := decide_eq_false c13
        clear c13
        obtain rfl := Option.some.inj H
        go_enter Try.func124, Try.ntmps124
        try go_wp2_with (first | ((with_reducible refine gate_callee (f := 121) rfl ?_); refine gl_ 7 Try.func121 #[.slice A0 l0.length c0] ?_; (with_reducible refine (impl_usable.calls k _ _ l0 true _ ?side1 ?side2 A3.out).mono ?_); (case side1 => repeat (first | exact HR0.out | (with_reducible refine Kd.C_alloc ?_ _) | (with_reducible refine Kd.C_drewN ?_ _) | (with_reducible refine Kd.C_drew ?_))); (case side2 => exact HC0.out); rintro e w' ⟨rfl, ⟨nd, rfl⟩⟩; refine ⟨_, rfl, ?_⟩) | (go_at_call 77; (with_reducible refine (impl_within.calls a1 0 1000000 true _ A5.out).mono ?_); rintro e w' ⟨rfl, ⟨nd, rfl⟩⟩))
        replace HB := Aside0.mk (below_drew1 HB.out)
        have p379 : 0 ≤ (0 : Int) := (by omega)
        have q379 : 0 < (l0.length : Int) := od_
        obtain ⟨ad379, e379, hx379_0⟩ := Kd.at_int HR0.out 0 p379 q379
        have hw379_0 := hx379_0
        (try rw [show ((0 : Int)).toNat = 0 from rfl] at hw379_0)
        (try rw [show 0 * 1 = 0 from rfl] at hw379_0)
        (try rw [Addr.add_zero'] at hw379_0)
        cases e379
        have qi379 : (0 < l0.length) = True := eq_true (by omega)
        (try rw [show ((0 : Int)).toNat = 0 from rfl] at hx379_0)
        (try rw [Addr.add_zero'] at hx379_0)
        replace hx379_0 := (HB.out.cell (World.block_lt_of_cell? w _ hx379_0)).trans hx379_0
        replace p379 := eq_true p379
        replace q379 := eq_true q379
        have p383 : 0 ≤ (0 : Int) := (by omega)
        have q383 : 0 < (l0.length : Int) := od_
        obtain ⟨ad383, e383, hx383_0⟩ := Kd.at_int HR0.out 0 p383 q383
        have hw383_0 := hx383_0
        (try rw [show ((0 : Int)).toNat = 0 from rfl] at hw383_0)
        (try rw [show 0 * 1 = 0 from rfl] at hw383_0)
        (try rw [Addr.add_zero'] at hw383_0)
        obtain rfl : ad379 = ad383 := (by injection e383)
        have qi383 : (0 < l0.length) = True := eq_true (by omega)
        (try rw [show ((0 : Int)).toNat = 0 from rfl] at hx383_0)
        (try rw [Addr.add_zero'] at hx383_0)
        replace hx383_0 := (HB.out.cell (World.block_lt_of_cell? w _ hx383_0)).trans hx383_0
        replace p383 := eq_true p383
        replace q383 := eq_true q383
        refine start_ (n := 13) (S := fun w' => w'.cell? ad379 = some (.int .i64 (rd l0 0)) ∧ w'.cell? ad379 = some (.int .i64 (rd l0 0))) (ds := []) (fl_ 13 0) (by kernel_rfl) rfl rfl ⟨((HB.out.cell (World.block_lt_of_cell? w _ hw379_0)).trans hw379_0), ((HB.out.cell (World.block_lt_of_cell? w _ hw383_0)).trans hw383_0)⟩ (fun hHeld => ?_); refine with_tabW impl_Generates.tab3 impl_Generates.bits3 (fun HT_ HW_ => ?_)
        generalize w.drew = w17 at HB hx379_0 hx383_0 hHeld ⊢
        refine pu_ 0 14 (fl_ 13 1) ?_
        refine pu_ 1 15 (fl_ 13 2) ?_
        refine pu_ 2 16 (fl_ 13 3) ?_
        refine pu_ 5 19 (fm_ 13 39) ?_
        refine pu_ 6 20 (fm_ 13 103) ?_
        refine pu_ 7 21 (fm_ 13 231) ?_
        refine ta_ 3 17 (fm_ 13 239) ?_
        refine ta_ 8 22 (fm_ 13 495) ?_
        refine pu_ 9 23 (fm_ 13 1007) ?_
        refine on_ 4 18 (fl_ 13 10) fun K hK => ?_
        refine go_ Try.func133 #[.slice (some ad379) l0.length c0, .int .i64 (rd l0 0)] ?_
        with_reducible refine (impl_leasts.calls k _ _ l0 (rd l0 0) t380 _ ?side1 ?side2 A8.out).mono ?_
        (case side1 => exact cs_ HR0 HB)
        (case side2 => exact HC0.out)
        rintro e w18 ⟨v381, rfl, ho0, hb⟩
        refine ⟨_, rfl, ?_⟩
        have HO382 := rl_ ho0 HB
        replace HB := bs_ HB hb
        (try clear hb)
        (try clear hb2)
        (try clear hk)
        (try clear hi)
        (try clear ho0)
        obtain ⟨Ao19, co19, eo19⟩ := Kd.R_slice HO382.out
        (first | subst eo19 | (injection eo19 with f1_ f2_ f3_; have f4_ := f1_.symm; have f5_ := f3_.symm; clear f1_ f2_ f3_; subst f4_; subst f5_))
        have p384 : 0 ≤ ((ji10) : Int) := od_
        have q384 : (ji10) < (t380.length : Int) := od_
        obtain ⟨ad384, e384, hx384_0⟩ := Kd.at_int (Kd.R_reads' HO382.out).2.2 (ji10) p384 q384
        cases e384
        replace p384 := eq_true p384
        replace q384 := eq_true q384
        refine hK.out _ _ ⟨((HB.out.cell (World.block_lt_of_cell? w _ hw379_0)).trans hw379_0), ((HB.out.cell (World.block_lt_of_cell? w _ hw383_0)).trans hw383_0)⟩ (fun hHeld => ?_)
        clear hK K
        refine no_ 18 ?_
        refine pu_ 10 24 (fl_ 13 11) ?_
        have HSall_ := hHeld
        refine on_ 11 25 (fl_ 13 12) fun K hK => ?_
        refine value_ (w1 := ?_) (v := ?_) (by rfl) rfl ?_ ?_
        rotate_left 2
        ·go_simp
         constructor
         ·rfl
         ·rfl
        refine hK.out _ _ HSall_ (fun hHeld => ?_)
        clear hK K HSall_
        refine no_ 25 ?_
        refine pu_ 12 5 (fl_ 13 13) ?_
        refine done_ (done_of HT_.out (by kernel_rfl)) ?_
        try go_wp2
        go_ret
        exact ⟨by first | rfl | (simp [errW_none, errW_some] <;> rfl) | (simp only [← hji10]; first | rfl | (simp [errW_none, errW_some] <;> rfl)) | (simp [*, errW_none, errW_some] <;> rfl), bl_ HB.out⟩
      ·rw [if_neg c12] at H
       exact absurd H (by simp)
     ·rw [if_neg c11] at H
      exact absurd H (by simp)
   ·rw [if_neg c7] at H
    exact absurd H (by simp)
  ·obtain rfl := Bool.eq_false_iff.mpr c6
   rw [if_neg nf_] at H
   obtain rfl := Option.some.inj H
   go_enter Try.func124, Try.ntmps124
   go_wp2_with (first | ((with_reducible refine gate_callee (f := 121) rfl ?_); refine gl_ 7 Try.func121 #[.slice A0 l0.length c0] ?_; (with_reducible refine (impl_usable.calls k _ _ l0 true _ ?side1 ?side2 A3.out).mono ?_); (case side1 => repeat (first | exact HR0.out | (with_reducible refine Kd.C_alloc ?_ _) | (with_reducible refine Kd.C_drewN ?_ _) | (with_reducible refine Kd.C_drew ?_))); (case side2 => exact HC0.out); rintro e w' ⟨rfl, ⟨nd, rfl⟩⟩; refine ⟨_, rfl, ?_⟩) | (go_at_call 77; (with_reducible refine (impl_within.calls a1 0 1000000 false _ A5.out).mono ?_); rintro e w' ⟨rfl, ⟨nd, rfl⟩⟩))
   go_ret
   exact ⟨er_, bl_ HB.out⟩
 ·obtain rfl := Bool.eq_false_iff.mpr c4
  rw [if_neg nf_] at H
  obtain rfl := Option.some.inj H
  go_enter Try.func124, Try.ntmps124
  go_wp2_with (first | ((with_reducible refine gate_callee (f := 121) rfl ?_); refine gl_ 7 Try.func121 #[.slice A0 l0.length c0] ?_; (with_reducible refine (impl_usable.calls k _ _ l0 false _ ?side1 ?side2 A3.out).mono ?_); (case side1 => repeat (first | exact HR0.out | (with_reducible refine Kd.C_alloc ?_ _) | (with_reducible refine Kd.C_drewN ?_ _) | (with_reducible refine Kd.C_drew ?_))); (case side2 => exact HC0.out); rintro e w' ⟨rfl, ⟨nd, rfl⟩⟩; refine ⟨_, rfl, ?_⟩))
  go_ret
  exact ⟨er_, bl_ HB.out⟩
end Go.Proofs.Ytbjbolblahlhcaa.PFnWilf
end
section
namespace Go.Proofs.Ytbjbolblahlhcaa.PFnWilf
open Go.RowKit Go.Proofs.YtbjbolblahlhcaaW.PrintWords Go.Proofs.YtbjbolblahlhcaaW.PrintLast Go.Proofs.YtbjbolblahlhcaaW.PrintMore
open Go.Proofs.Ytbjbolblahlhcaa.SortW (bk_ kr_ t_ f_)
open Go.Proofs.Ytbjbolblahlhcaa.SqW
attribute [local go_sem] max2_int min2_int max_two min_two max_three min_three max_four min_four
set_option linter.unusedVariables false
set_option linter.unusedSimpArgs false
mutual
def impl_IsSemigroup.j0 : Nat → List Int → Bool → Option (Bool)
 | 0, _, _ => none
 | k + 1, x3, x27 => if x27 = true then (some false) else (impl_IsSemigroup.l0 k x3 1)
def impl_IsSemigroup.l0 : Nat → List Int → Int → Option (Bool)
 | 0, _, _ => none
 | k + 1, x3, x4 => if x4 < (x3.length : Int) then (if 0 ≤ x4 then (if x4 ≤ (x3.length : Int) then ((impl_Generates.f k (x3.take (x4 : Int).toNat) (rd x3 x4)).bind fun t392 => (if t392 = true then (some false) else (impl_IsSemigroup.l0 k x3 (wrap64 (x4 + 1))))) else (none)) else (none)) else (if 0 < (x3.length : Int) then ((impl_leasts.f k x3 (rd x3 0)).bind fun t394 => (impl_IsSemigroup.l1 k x3 t394 (t394.length : Int) 0)) else (none))
def impl_IsSemigroup.l1 : Nat → List Int → List Int → Int → Int → Option (Bool)
 | 0, _, _, _, _ => none
 | k + 1, x3, x46, x47, x48 => if x48 < x47 then (if 0 ≤ x48 then (if x48 < (x46.length : Int) then (if 0 < (x3.length : Int) then (if (wrap64 ((rd x46 x48) - (rd x3 0))) ≥ 200 then (some false) else (impl_IsSemigroup.l1 k x3 x46 x47 (wrap64 (x48 + 1)))) else (none)) else (none)) else (none)) else (some true)
end
def impl_IsSemigroup.f (k : Nat) (l0_0 : List Int) : Option (Bool) := (impl_within.f (l0_0.length : Int) 1 12).bind fun t386 => (if t386 = true then ((impl_allWithin.f k l0_0 1 60).bind fun t387 => (if t387 = true then ((impl_IsAscending.f k l0_0).bind fun t388 => (if t388 = true then ((impl_GcdOfList.f k l0_0).bind fun t389 => (impl_IsSemigroup.j0 k l0_0 (t389 != 1))) else (impl_IsSemigroup.j0 k l0_0 true))) else (impl_IsSemigroup.j0 k l0_0 true))) else (impl_IsSemigroup.j0 k l0_0 true))
def impl_IsSemigroup.T7 : Bool × List (List Nat × List Nat) := (true, [([], []), ([], []), ([0, 1], [0, 1]), ([], []), ([], []), ([3, 4], [3, 4]), ([5], [5]), ([2, 6], [2, 6])])
def impl_IsSemigroup.B7 : List Nat := [0, 0, 3, 0, 0, 24, 56, 127]
theorem impl_IsSemigroup.tab7 : rtab .any (opsOf Try.f92 7) = impl_IsSemigroup.T7 := by kernel_rfl
theorem impl_IsSemigroup.bits7 : waitsOk impl_IsSemigroup.T7.2 impl_IsSemigroup.B7 = true := by kernel_rfl
set_option maxHeartbeats 8000000 in
set_option maxRecDepth 100000 in
theorem impl_IsSemigroup.calls (k : Nat) (A0_0 : Option Addr) (c0_0 : Nat) (l0_0 : List Int) (r : Bool) (w : World) (hr0_0 : Kd.C (Kd.int .i64) w A0_0 l0_0.length l0_0) (hc0_0 : l0_0.length ≤ c0_0) (h : impl_IsSemigroup.f k l0_0 = some r) :
 Calls Try.prog 92 #[.agg #[.slice A0_0 l0_0.length c0_0]] w fun e w' => e = .returned (.bool r) ∧ Below w.heap.size w w' := by
 have hu41 := Try.underlying41
 have HR0_0 := Aside0.mk hr0_0
 have HC0_0 := Aside0.mk hc0_0
 clear hr0_0 hc0_0
 have HB := Aside0.mk (Below.refl w.heap.size w)
 have H := h
 clear h
 unfold impl_IsSemigroup.f at H
 have HC2 := Aside0.mk H
 clear H
 go_enter Try.func92, Try.ntmps92
 go_upto_region 2 with (first | ((with_reducible refine gate_dst (N := 1) rfl ?_); refine be_ 1 #[.slice A0_0 l0_0.length c0_0] 41 fun gb385 hg w3 hbox hb => ?_; have BK385 := Aside0.mk (hbox); have GW385 := ge_ hg HB; have GE385 := ge_ hg HB; replace HB := bs_ HB hb; clear hb hbox hg; have hcz4_0 := bc_ BK385; have hfz4_0 := blk_frozen BK385.out 0))
 (try simp only [Act.put, List.setIfInBounds_toArray, List.set_cons_zero, List.set_cons_succ])
 go_cut [27] (fun v27 wc => ∃ (kq : Nat) (x27_1 : Bool), v27 = .bool x27_1 ∧ Aside0 (impl_IsSemigroup.j0 kq l0_0 x27_1 = some r) ∧ Aside0 (kq ≤ k) ∧ Aside0 (wc.heap[gb385]? = some (.cells #[(.slice A0_0 l0_0.length c0_0)] 41 (0, 0))) ∧ Aside0 (Below w.heap.size w wc))
 case first =>
  have H := HC2.out
  clear HC2
  obtain ⟨t386, A5, H⟩ := ob_ H
  (try dsimp only at H)
  by_cases c6 : t386 = true
  ·subst c6
   rw [if_pos rfl] at H
   obtain ⟨t387, A7, H⟩ := ob_ H
   (try dsimp only at H)
   by_cases c8 : t387 = true
   ·subst c8
    rw [if_pos rfl] at H
    obtain ⟨t388, A9, H⟩ := ob_ H
    (try dsimp only at H)
    by_cases c10 : t388 = true
    ·subst c10
     rw [if_pos rfl] at H
     obtain ⟨t389, A11, H⟩ := ob_ H
     (try dsimp only at H)
     have H' := Aside0.mk H
     clear H
     go_wp2_with (first | ((with_reducible refine gate_callee (f := 77) rfl ?_); refine gl_ 11 Try.func77 #[.int .i64 (l0_0.length : Int), .int .i64 1, .int .i64 12] ?_; (with_reducible refine (impl_within.calls (l0_0.length : Int) 1 12 true _ A5.out).mono ?_); rintro e w' ⟨rfl, ⟨nd, rfl⟩⟩; refine ⟨_, rfl, ?_⟩) | (go_at_call 88; (with_reducible refine (impl_allWithin.calls k _ _ l0_0 1 60 true _ ?side1 ?side2 A7.out).mono ?_); (case side1 => exact cs_ HR0_0 HB); (case side2 => exact HC0_0.out); rintro e w' ⟨rfl, ⟨nd, rfl⟩⟩) | (go_at_call 89; (with_reducible refine (impl_IsAscending.calls k _ _ l0_0 true _ ?side1 ?side2 A9.out).mono ?_); (case side1 => exact cs_ HR0_0 HB); (case side2 => exact HC0_0.out); rintro e w' ⟨rfl, ⟨nd, rfl⟩⟩) | (go_at_call 122; (with_reducible refine (impl_GcdOfList.calls k _ _ l0_0 t389 _ ?side1 ?side2 A11.out).mono ?_); (case side1 => exact cs_ HR0_0 HB); (case side2 => exact HC0_0.out); rintro e w12 ⟨rfl, hb⟩; replace BK385 := bb_ BK385 hb; replace HB := bs_ HB hb; (try clear hb); (try clear hb2); (try clear hk); (try clear hi)))
     go_meet
     case rel => exact ⟨_, ((t389 != 1)), sd_, H', ⟨le_⟩, ⟨bk_ BK385.out⟩, ⟨bl_ HB.out⟩⟩
    ·obtain rfl := Bool.eq_false_iff.mpr c10
     rw [if_neg nf_] at H
     have H' := Aside0.mk H
     clear H
     go_wp2_with (first | ((with_reducible refine gate_callee (f := 77) rfl ?_); refine gl_ 11 Try.func77 #[.int .i64 (l0_0.length : Int), .int .i64 1, .int .i64 12] ?_; (with_reducible refine (impl_within.calls (l0_0.length : Int) 1 12 true _ A5.out).mono ?_); rintro e w' ⟨rfl, ⟨nd, rfl⟩⟩; refine ⟨_, rfl, ?_⟩) | (go_at_call 88; (with_reducible refine (impl_allWithin.calls k _ _ l0_0 1 60 true _ ?side1 ?side2 A7.out).mono ?_); (case side1 => exact cs_ HR0_0 HB); (case side2 => exact HC0_0.out); rintro e w' ⟨rfl, ⟨nd, rfl⟩⟩) | (go_at_call 89; (with_reducible refine (impl_IsAscending.calls k _ _ l0_0 false _ ?side1 ?side2 A9.out).mono ?_); (case side1 => exact cs_ HR0_0 HB); (case side2 => exact HC0_0.out); rintro e w' ⟨rfl, ⟨nd, rfl⟩⟩))
     go_meet
     case rel => exact ⟨_, (true), sd_, H', ⟨le_⟩, ⟨bk_ BK385.out⟩, ⟨bl_ HB.out⟩⟩
   ·obtain rfl := Bool.eq_false_iff.mpr c8
    rw [if_neg nf_] at H
    have H' := Aside0.mk H
    clear H
    go_wp2_with (first | ((with_reducible refine gate_callee (f := 77) rfl ?_); refine gl_ 11 Try.func77 #[.int .i64 (l0_0.length : Int), .int .i64 1, .int .i64 12] ?_; (with_reducible refine (impl_within.calls (l0_0.length : Int) 1 12 true _ A5.out).mono ?_); rintro e w' ⟨rfl, ⟨nd, rfl⟩⟩; refine ⟨_, rfl, ?_⟩) | (go_at_call 88; (with_reducible refine (impl_allWithin.calls k _ _ l0_0 1 60 false _ ?side1 ?side2 A7.out).mono ?_); (case side1 => exact cs_ HR0_0 HB); (case side2 => exact HC0_0.out); rintro e w' ⟨rfl, ⟨nd, rfl⟩⟩))
    go_meet
    case rel => exact ⟨_, (true), sd_, H', ⟨le_⟩, ⟨bk_ BK385.out⟩, ⟨bl_ HB.out⟩⟩
  ·obtain rfl := Bool.eq_false_iff.mpr c6
   rw [if_neg nf_] at H
   have H' := Aside0.mk H
   clear H
   go_wp2_with (first | ((with_reducible refine gate_callee (f := 77) rfl ?_); refine gl_ 11 Try.func77 #[.int .i64 (l0_0.length : Int), .int .i64 1, .int .i64 12] ?_; (with_reducible refine (impl_within.calls (l0_0.length : Int) 1 12 false _ A5.out).mono ?_); rintro e w' ⟨rfl, ⟨nd, rfl⟩⟩; refine ⟨_, rfl, ?_⟩))
   go_meet
   case rel => exact ⟨_, (true), sd_, H', ⟨le_⟩, ⟨bk_ BK385.out⟩, ⟨bl_ HB.out⟩⟩
 case rest =>
  clear HC2
  try clear c1
  try clear p2
  try clear c6
  try clear c7
  try clear c8
  try clear c9
  try clear c10
  try clear hcz4_0
  try clear hfz4_0
  obtain ⟨kq, x27_1, rfl, HA, HJ1, BK385, HB⟩ := hcut
  cases kq with
  | zero => exact absurd HA.out (by simp [impl_IsSemigroup.j0])
  | succ kj1 =>
   have H := HA.out
   clear HA
   simp only [impl_IsSemigroup.j0] at H
   by_cases c13 : x27_1 = true
   ·subst c13
    rw [if_pos rfl] at H
    obtain rfl := Option.some.inj H
    go_wp2
    go_ret
    exact ⟨er_, bl_ HB.out⟩
   ·obtain rfl := Bool.eq_false_iff.mpr c13
    rw [if_neg nf_] at H
    have H' := Aside0.mk H
    clear H
    go_wp2
    go_loopg [4] kj1 (fun kq v4 w' => ∃ (x4_2 : Int), v4 = .int .i64 x4_2 ∧ Aside0 (impl_IsSemigroup.l0 kq l0_0 x4_2 = some r) ∧ Aside0 (kq ≤ kj1) ∧ Aside0 (w'.heap[gb385]? = some (.cells #[(.slice A0_0 l0_0.length c0_0)] 41 (0, 0))) ∧ Aside0 (Below w.heap.size w w'))
    case atStart => exact ⟨(1), sd_, H', ⟨Nat.le_refl _⟩, ⟨bk_ BK385.out⟩, ⟨bl_ HB.out⟩⟩
    case round =>
     clear H'
     try clear c1
     try clear p2
     try clear c6
     try clear c7
     try clear c8
     try clear c9
     try clear c10
     try clear c13
     try clear hcz4_0
     try clear hfz4_0
     try clear p2
     obtain ⟨x4_2, rfl, HA, HK2, BK385, HB⟩ := hrel
     cases gk with
     | zero => exact absurd HA.out (by simp [impl_IsSemigroup.l0])
     | succ k2 =>
      have H := HA.out
      clear HA
      simp only [impl_IsSemigroup.l0] at H
      by_cases c14 : x4_2 < (l0_0.length : Int)
      ·rw [if_pos c14] at H
       have c14b0 : decide (x4_2 < (l0_0.length : Int)) = true := decide_eq_true c14
       clear c14
       by_cases c15 : 0 ≤ x4_2
       ·rw [if_pos c15] at H
        have c15b0 := eq_true c15
        have c15b1 : decide (0 ≤ x4_2) = true := decide_eq_true c15
        clear c15
        by_cases c16 : x4_2 ≤ (l0_0.length : Int)
        ·rw [if_pos c16] at H
         have c16b0 := eq_true c16
         have c16b1 : decide (x4_2 ≤ (l0_0.length : Int)) = true := decide_eq_true c16
         clear c16
         obtain ⟨t392, A17, H⟩ := ob_ H
         (try dsimp only at H)
         by_cases c18 : t392 = true
         ·subst c18
          rw [if_pos rfl] at H
          obtain rfl := Option.some.inj H
          try go_wp2
          replace BK385 := Aside0.mk (blk_drew BK385.out)
          replace HB := Aside0.mk (below_drew1 HB.out)
          obtain ⟨i020, hi020, _, hsz20, _⟩ := info_parts info3
          obtain ⟨hcut20, hA20, hC20⟩ := print_take_of (P := Try.prog) (Value.int .i64) 0 22 3 .i64 Try.underlying22 hi020 hsz20 A0_0 c0_0 l0_0 x4_2 (od_) (od_) HC0_0.out
          have HR390 := Aside0.mk (Kd.C_of_reads (h1 := fun _ => rfl) (hA20 _ (Kd.reads_of_C HR0_0.out)))
          have HC390 := Aside0.mk hC20
          clear hA20 hC20 hi020 hsz20
          have p391 : 0 ≤ (x4_2 : Int) := od_
          have q391 : x4_2 < (l0_0.length : Int) := od_
          obtain ⟨ad391, e391, hx391_0⟩ := Kd.at_int HR0_0.out x4_2 p391 q391
          have hw391_0 := hx391_0
          cases e391
          replace hx391_0 := (HB.out.cell (World.block_lt_of_cell? w _ hx391_0)).trans hx391_0
          replace p391 := eq_true p391
          replace q391 := eq_true q391
          refine start_ (n := 8) (S := fun w' => w'.cell? (ad391.add (x4_2).toNat) = some (.int .i64 (rd l0_0 x4_2))) (ds := []) (fl_ 8 0) (by kernel_rfl) rfl rfl (((HB.out.cell (World.block_lt_of_cell? w _ hw391_0)).trans hw391_0)) (fun hHeld => ?_); refine with_tabW impl_IsSemigroup.tab7 impl_IsSemigroup.bits7 (fun HT_ HW_ => ?_)
          generalize wr.drew = w19 at BK385 HB HR390 hx391_0 hHeld ⊢
          refine pu_ 0 34 (fl_ 8 1) ?_
          refine pu_ 1 35 (fl_ 8 2) ?_
          refine pu_ 2 36 (fl_ 8 3) ?_
          refine pu_ 3 37 (fl_ 8 4) ?_
          refine pu_ 4 38 (fl_ 8 5) ?_
          refine pu_ 5 39 (fl_ 8 6) ?_
          refine ta_ 6 40 (fl_ 8 7) ?_
          refine on_ 7 41 (fl_ 8 8) fun K hK => ?_
          refine goes_ Try.func124 (by kernel_rfl) rfl #[.slice (some ad391) (l0_0.take (x4_2 : Int).toNat).length c0_0, .int .i64 (rd l0_0 x4_2)] (by rfl) rfl rfl (by (try simp only [List.map_toArray, List.map_cons, List.map_nil]); first | done | (rw [show (l0_0.take (x4_2 : Int).toNat).length = x4_2.toNat from (by rw [List.length_take]; have h_ : (x4_2 : Int) ≤ (l0_0.length : Int) := od_; omega)] <;> rfl) | rfl | (simp only [List.length_drop, List.length_take]; rfl)) ?_
          with_reducible refine (impl_Generates.calls k2 _ _ (l0_0.take (x4_2 : Int).toNat) (rd l0_0 x4_2) true _ ?side1 ?side2 A17.out).mono ?_
          (case side1 => exact cs_ HR390 HB)
          (case side2 => exact HC390.out)
          rintro e w21 ⟨rfl, hb⟩
          refine ⟨_, rfl, ?_⟩
          replace BK385 := bb_ BK385 hb
          replace HB := bs_ HB hb
          (try clear hb)
          (try clear hb2)
          (try clear hk)
          (try clear hi)
          refine hK.out _ _ (((HB.out.cell (World.block_lt_of_cell? w _ hw391_0)).trans hw391_0)) (fun hHeld => ?_)
          clear hK K
          refine no_ 41 ?_
          refine done_ (done_of HT_.out (by kernel_rfl)) ?_
          try go_wp2
          go_ret
          exact ⟨er_, bl_ HB.out⟩
         ·obtain rfl := Bool.eq_false_iff.mpr c18
          rw [if_neg nf_] at H
          have H' := Aside0.mk H
          clear H
          try go_wp2
          replace BK385 := Aside0.mk (blk_drew BK385.out)
          replace HB := Aside0.mk (below_drew1 HB.out)
          obtain ⟨i023, hi023, _, hsz23, _⟩ := info_parts info3
          obtain ⟨hcut23, hA23, hC23⟩ := print_take_of (P := Try.prog) (Value.int .i64) 0 22 3 .i64 Try.underlying22 hi023 hsz23 A0_0 c0_0 l0_0 x4_2 (od_) (od_) HC0_0.out
          have HR390 := Aside0.mk (Kd.C_of_reads (h1 := fun _ => rfl) (hA23 _ (Kd.reads_of_C HR0_0.out)))
          have HC390 := Aside0.mk hC23
          clear hA23 hC23 hi023 hsz23
          have p391 : 0 ≤ (x4_2 : Int) := od_
          have q391 : x4_2 < (l0_0.length : Int) := od_
          obtain ⟨ad391, e391, hx391_0⟩ := Kd.at_int HR0_0.out x4_2 p391 q391
          have hw391_0 := hx391_0
          cases e391
          replace hx391_0 := (HB.out.cell (World.block_lt_of_cell? w _ hx391_0)).trans hx391_0
          replace p391 := eq_true p391
          replace q391 := eq_true q391
          refine start_ (n := 8) (S := fun w' => w'.cell? (ad391.add (x4_2).toNat) = some (.int .i64 (rd l0_0 x4_2))) (ds := []) (fl_ 8 0) (by kernel_rfl) rfl rfl (((HB.out.cell (World.block_lt_of_cell? w _ hw391_0)).trans hw391_0)) (fun hHeld => ?_); refine with_tabW impl_IsSemigroup.tab7 impl_IsSemigroup.bits7 (fun HT_ HW_ => ?_)
          generalize wr.drew = w22 at BK385 HB HR390 hx391_0 hHeld ⊢
          refine pu_ 0 34 (fl_ 8 1) ?_
          refine pu_ 1 35 (fl_ 8 2) ?_
          refine pu_ 2 36 (fl_ 8 3) ?_
          refine pu_ 3 37 (fl_ 8 4) ?_
          refine pu_ 4 38 (fl_ 8 5) ?_
          refine pu_ 5 39 (fl_ 8 6) ?_
          refine ta_ 6 40 (fl_ 8 7) ?_
          refine on_ 7 41 (fl_ 8 8) fun K hK => ?_
          refine goes_ Try.func124 (by kernel_rfl) rfl #[.slice (some ad391) (l0_0.take (x4_2 : Int).toNat).length c0_0, .int .i64 (rd l0_0 x4_2)] (by rfl) rfl rfl (by (try simp only [List.map_toArray, List.map_cons, List.map_nil]); first | done | (rw [show (l0_0.take (x4_2 : Int).toNat).length = x4_2.toNat from (by rw [List.length_take]; have h_ : (x4_2 : Int) ≤ (l0_0.length : Int) := od_; omega)] <;> rfl) | rfl | (simp only [List.length_drop, List.length_take]; rfl)) ?_
          with_reducible refine (impl_Generates.calls k2 _ _ (l0_0.take (x4_2 : Int).toNat) (rd l0_0 x4_2) false _ ?side1 ?side2 A17.out).mono ?_
          (case side1 => exact cs_ HR390 HB)
          (case side2 => exact HC390.out)
          rintro e w24 ⟨rfl, hb⟩
          refine ⟨_, rfl, ?_⟩
          replace BK385 := bb_ BK385 hb
          replace HB := bs_ HB hb
          (try clear hb)
          (try clear hb2)
          (try clear hk)
          (try clear hi)
          refine hK.out _ _ (((HB.out.cell (World.block_lt_of_cell? w _ hw391_0)).trans hw391_0)) (fun hHeld => ?_)
          clear hK K
          refine no_ 41 ?_
          refine done_ (done_of HT_.out (by kernel_rfl)) ?_
          try go_wp2
          go_roundg k2
          case measure => have := HJ1.out; have := HK2.out; omega
          case rel => exact ⟨(wrap64 (x4_2 + 1)), sd_, H', ⟨by have := HJ1.out; have := HK2.out; omega⟩, ⟨bk_ BK385.out⟩, ⟨bl_ HB.out⟩⟩
        ·rw [if_neg c16] at H
         exact absurd H (by simp)
       ·rw [if_neg c15] at H
        exact absurd H (by simp)
      ·rw [if_neg c14] at H
       have c14b0 : decide (x4_2 < (l0_0.length : Int)) = false := decide_eq_false c14
       clear c14
       by_cases c25 : 0 < (l0_0.length : Int)
       ·rw [if_pos c25] at H
        have c25b0 : decide (0 < (l0_0.length : Int)) = true := decide_eq_true c25
        have c25b1 : decide (0 < l0_0.length) = true := decide_eq_true (by omega)
        clear c25
        obtain ⟨t394, A26, H⟩ := ob_ H
        (try dsimp only at H)
        have H' := Aside0.mk H
        clear H
        have p393 : 0 ≤ (0 : Int) := (by omega)
        have q393 : 0 < (l0_0.length : Int) := od_
        obtain ⟨ad393, e393, hx393_0⟩ := Kd.at_int HR0_0.out 0 p393 q393
        cases e393
        have qi393 : (0 < l0_0.length) = True := eq_true (by omega)
        (try rw [show ((0 : Int)).toNat = 0 from rfl] at hx393_0)
        (try rw [Addr.add_zero'] at hx393_0)
        replace hx393_0 := (HB.out.cell (World.block_lt_of_cell? w _ hx393_0)).trans hx393_0
        replace p393 := eq_true p393
        replace q393 := eq_true q393
        go_wp2_with (first | ((with_reducible refine gate_callee (f := 133) rfl ?_); refine gl_ 46 Try.func133 #[.slice (some ad393) l0_0.length c0_0, .int .i64 (rd l0_0 0)] ?_; (with_reducible refine (impl_leasts.calls k2 _ _ l0_0 (rd l0_0 0) t394 _ ?side1 ?side2 A26.out).mono ?_); (case side1 => exact cs_ HR0_0 HB); (case side2 => exact HC0_0.out); rintro e w27 ⟨v395, rfl, ho0, hb⟩; refine ⟨_, rfl, ?_⟩; have HO396 := rl_ ho0 HB; replace BK385 := bb_ BK385 hb; replace HB := bs_ HB hb; (try clear hb); (try clear hb2); (try clear hk); (try clear hi); (try clear ho0); obtain ⟨Ao28, co28, eo28⟩ := Kd.R_slice HO396.out; subst eo28))
        go_loopg [48] k2 (fun kq v48 w' => ∃ (x48_3 : Int), v48 = .int .i64 x48_3 ∧ Aside0 (impl_IsSemigroup.l1 kq l0_0 t394 (t394.length : Int) x48_3 = some r) ∧ Aside0 (kq ≤ k2) ∧ Aside0 (Kd.R (Kd.int .i64) 3 w' w.heap.size (fun _ => True) (.slice Ao28 t394.length co28) t394) ∧ Aside0 (w'.heap[gb385]? = some (.cells #[(.slice (some ad393) l0_0.length c0_0)] 41 (0, 0))) ∧ Aside0 (Below w.heap.size w w'))
        case atStart => exact ⟨(0), sd_, H', ⟨Nat.le_refl _⟩, ⟨kr_ HO396.out⟩, ⟨bk_ BK385.out⟩, ⟨bl_ HB.out⟩⟩
        case round =>
         clear H'
         try clear c1
         try clear c2
         try clear p2
         try clear p3
         try clear q3
         try clear hx3
         try clear qi3
         try clear c6
         try clear p6
         try clear c7
         try clear c8
         try clear c9
         try clear c10
         try clear c12
         try clear c13
         try clear c14
         try clear c14b0
         try clear c15
         try clear c15b0
         try clear c15b1
         try clear c16
         try clear c16b0
         try clear c16b1
         try clear c18
         try clear c25
         try clear c25b0
         try clear c25b1
         try clear hcz4_0
         try clear hfz4_0
         try clear hx391_0
         try clear hx393_0
         try clear p2
         try clear p391
         try clear p393
         try clear q391
         try clear q393
         obtain ⟨x48_3, rfl, HA, HK3, HO_46, BK385, HB⟩ := hrel
         cases gk with
         | zero => exact absurd HA.out (by simp [impl_IsSemigroup.l1])
         | succ k3 =>
          have H := HA.out
          clear HA
          simp only [impl_IsSemigroup.l1] at H
          by_cases c29 : x48_3 < (t394.length : Int)
          ·rw [if_pos c29] at H
           have c29b0 : decide (x48_3 < (t394.length : Int)) = true := decide_eq_true c29
           clear c29
           by_cases c30 : 0 ≤ x48_3
           ·rw [if_pos c30] at H
            have c30b0 : decide (0 ≤ x48_3) = true := decide_eq_true c30
            clear c30
            by_cases c31 : x48_3 < (t394.length : Int)
            ·rw [if_pos c31] at H
             have c31b0 : decide (x48_3 < (t394.length : Int)) = true := decide_eq_true c31
             clear c31
             by_cases c32 : 0 < (l0_0.length : Int)
             ·rw [if_pos c32] at H
              have c32b0 : decide (0 < (l0_0.length : Int)) = true := decide_eq_true c32
              have c32b1 : decide (0 < l0_0.length) = true := decide_eq_true (by omega)
              clear c32
              by_cases c33 : (wrap64 ((rd t394 x48_3) - (rd l0_0 0))) ≥ 200
              ·rw [if_pos c33] at H
               have c33b0 : decide (200 ≤ (wrap64 ((rd t394 x48_3) - (rd l0_0 0)))) = true := decide_eq_true c33
               clear c33
               obtain rfl := Option.some.inj H
               have p397 : 0 ≤ (x48_3 : Int) := od_
               have q397 : x48_3 < (t394.length : Int) := od_
               obtain ⟨ad397, e397, hx397_0⟩ := Kd.at_int (Kd.R_reads' HO_46.out).2.2 x48_3 p397 q397
               cases e397
               replace p397 := eq_true p397
               replace q397 := eq_true q397
               have p398 : 0 ≤ (0 : Int) := (by omega)
               have q398 : 0 < (l0_0.length : Int) := od_
               obtain ⟨ad398, e398, hx398_0⟩ := Kd.at_int HR0_0.out 0 p398 q398
               obtain rfl : ad393 = ad398 := (by injection e398)
               have qi398 : (0 < l0_0.length) = True := eq_true (by omega)
               (try rw [show ((0 : Int)).toNat = 0 from rfl] at hx398_0)
               (try rw [Addr.add_zero'] at hx398_0)
               replace hx398_0 := (HB.out.cell (World.block_lt_of_cell? w _ hx398_0)).trans hx398_0
               replace p398 := eq_true p398
               replace q398 := eq_true q398
               go_wp2
               go_ret
               exact ⟨er_, bl_ HB.out⟩
              ·rw [if_neg c33] at H
               have c33b0 : decide (200 ≤ (wrap64 ((rd t394 x48_3) - (rd l0_0 0)))) = false := decide_eq_false c33
               clear c33
               have H' := Aside0.mk H
               clear H
               have p397 : 0 ≤ (x48_3 : Int) := od_
               have q397 : x48_3 < (t394.length : Int) := od_
               obtain ⟨ad397, e397, hx397_0⟩ := Kd.at_int (Kd.R_reads' HO_46.out).2.2 x48_3 p397 q397
               cases e397
               replace p397 := eq_true p397
               replace q397 := eq_true q397
               have p398 : 0 ≤ (0 : Int) := (by omega)
               have q398 : 0 < (l0_0.length : Int) := od_
               obtain ⟨ad398, e398, hx398_0⟩ := Kd.at_int HR0_0.out 0 p398 q398
               obtain rfl : ad393 = ad398 := (by injection e398)
               have qi398 : (0 < l0_0.length) = True := eq_true (by omega)
               (try rw [show ((0 : Int)).toNat = 0 from rfl] at hx398_0)
               (try rw [Addr.add_zero'] at hx398_0)
               replace hx398_0 := (HB.out.cell (World.block_lt_of_cell? w _ hx398_0)).trans hx398_0
               replace p398 := eq_true p398
               replace q398 := eq_true q398
               go_wp2
               go_roundg k3
               case measure => have := HJ1.out; have := HK2.out; have := HK3.out; omega
               case rel => exact ⟨(wrap64 (x48_3 + 1)), sd_, H', ⟨by have := HJ1.out; have := HK2.out; have := HK3.out; omega⟩, ⟨kr_ HO_46.out⟩, ⟨bk_ BK385.out⟩, ⟨bl_ HB.out⟩⟩
             ·rw [if_neg c32] at H
              exact absurd H (by simp)
            ·rw [if_neg c31] at H
             exact absurd H (by simp)
           ·rw [if_neg c30] at H
            exact absurd H (by simp)
          ·rw [if_neg c29] at H
           have c29b0 : decide (x48_3 < (t394.length : Int)) = false := decide_eq_false c29
           clear c29
           obtain rfl := Option.some.inj H
           go_wp2
           go_ret
           exact ⟨er_, bl_ HB.out⟩
       ·rw [if_neg c25] at H
        exact absurd H (by simp)
end Go.Proofs.Ytbjbolblahlhcaa.PFnWilf
end
section
namespace Go.Proofs.Ytbjbolblahlhcaa.PFnWilf
open Go.RowKit Go.Proofs.YtbjbolblahlhcaaW.PrintWords Go.Proofs.YtbjbolblahlhcaaW.PrintLast Go.Proofs.YtbjbolblahlhcaaW.PrintMore
open Go.Proofs.Ytbjbolblahlhcaa.SortW (bk_ kr_ t_ f_)
open Go.Proofs.Ytbjbolblahlhcaa.SqW
attribute [local go_sem] max2_int min2_int max_two min_two max_three min_three max_four min_four
set_option linter.unusedVariables false
set_option linter.unusedSimpArgs false
def impl_table.l0 : Nat → List Int → List Bool → Int → Int → List Int → Option (List Bool)
 | 0, _, _, _, _, _ => none
 | k + 1, x5, x6, x19, x20, x400000 => if x20 < x19 then (if 0 < (x400000.length : Int) then (if (rd x400000 0) = 0 then (none) else (if 0 ≤ (Int.tmod x20 (rd x400000 0)) then (if (Int.tmod x20 (rd x400000 0)) < (x5.length : Int) then (if 0 ≤ x20 then (if x20 < (x6.length : Int) then (impl_table.l0 k x5 (x6.set (x20 : Int).toNat (decide ((rd x5 (Int.tmod x20 (rd x400000 0))) ≤ x20))) x19 (wrap64 (x20 + 1)) x400000) else (none)) else (none)) else (none)) else (none))) else (none)) else (some x6)
def impl_table.f (k : Nat) (l0_0 : List Int) (a1 : Int) : Option (List Bool) := if 0 < (l0_0.length : Int) then ((impl_leasts.f k l0_0 (rd l0_0 0)).bind fun t401 => (if 0 ≤ (wrap64 (a1 + 1)) then (if (wrap64 (a1 + 1) : Int).toNat ≤ 281474976710656 then ((some (List.replicate (wrap64 (a1 + 1) : Int).toNat false : List Bool)).bind fun y404 => (impl_table.l0 k t401 y404 (y404.length : Int) 0 l0_0)) else (none)) else (none))) else (none)
def impl_table.T1 : Bool × List (List Nat × List Nat) := (true, [([], []), ([0], [0]), ([], []), ([2], [2]), ([3], [3]), ([4], [4]), ([1, 5], [1, 5]), ([6, 6, 0, 1, 2, 3, 4, 5, 6], [6])])
def impl_table.B1 : List Nat := [0, 1, 0, 4, 12, 28, 63, 127]
theorem impl_table.tab1 : rtab .any (opsOf Try.f134 1) = impl_table.T1 := by kernel_rfl
theorem impl_table.bits1 : waitsOk impl_table.T1.2 impl_table.B1 = true := by kernel_rfl
set_option maxHeartbeats 8000000 in
set_option maxRecDepth 100000 in
theorem impl_table.calls (k : Nat) (A0_0 : Option Addr) (c0_0 : Nat) (l0_0 : List Int) (a1 : Int) (r : List Bool) (w : World) (hr0_0 : Kd.C (Kd.int .i64) w A0_0 l0_0.length l0_0) (hc0_0 : l0_0.length ≤ c0_0) (h : impl_table.f k l0_0 a1 = some r) :
 Calls Try.prog 134 #[.agg #[.slice A0_0 l0_0.length c0_0], .int .i64 a1] w fun e w' => ∃ v0_ : Value, e = .returned (v0_) ∧ Kd.R Kd.bool 4 w' w.heap.size (fun _ => True) v0_ r ∧ Below w.heap.size w w' := by
 have hu41 := Try.underlying41
 have HR0_0 := Aside0.mk hr0_0
 have HC0_0 := Aside0.mk hc0_0
 clear hr0_0 hc0_0
 have HB := Aside0.mk (Below.refl w.heap.size w)
 have H := h
 clear h
 unfold impl_table.f at H
 by_cases c3 : 0 < (l0_0.length : Int)
 ·rw [if_pos c3] at H
  have c3b0 : decide (0 < (l0_0.length : Int)) = true := decide_eq_true c3
  have c3b1 : decide (0 < l0_0.length) = true := decide_eq_true (by omega)
  clear c3
  obtain ⟨t401, A4, H⟩ := ob_ H
  (try dsimp only at H)
  obtain ⟨ji5, hji5⟩ : ∃ j_ : Int, (wrap64 (a1 + 1)) = j_ := ⟨_, rfl⟩
  replace H : (if 0 ≤ (ji5) then (if (ji5 : Int).toNat ≤ 281474976710656 then ((some (List.replicate (ji5 : Int).toNat false : List Bool)).bind fun y404 => (impl_table.l0 k t401 y404 (y404.length : Int) 0 l0_0)) else (none)) else (none)) = some r := by first | (rw [hji5] at H; exact H) | (simp only [hji5] at H ⊢; exact H)
  (try rw [hji5] at A4)
  have hji5w : (IntKind.i64.wrap (a1 + 1)) = ji5 := (i64_w _).trans hji5
  by_cases c6 : 0 ≤ (ji5)
  ·rw [if_pos c6] at H
   have c6b0 := eq_true c6
   have c6b1 : decide (0 ≤ (ji5)) = true := decide_eq_true c6
   clear c6
   by_cases c7 : (ji5 : Int).toNat ≤ 281474976710656
   ·rw [if_pos c7] at H
    have c7b0 := eq_true c7
    have c7b1 : decide ((ji5 : Int).toNat ≤ 281474976710656) = true := decide_eq_true c7
    clear c7
    obtain ⟨y404, hy404⟩ : ∃ y_ : List Bool, y_ = (List.replicate (ji5 : Int).toNat false) := ⟨_, rfl⟩
    replace H : (impl_table.l0 k t401 y404 (y404.length : Int) 0 l0_0) = some r := by first | (rw [hy404]; with_reducible exact H) | (have H2_ := (Option.bind_some _ _).symm.trans H; rw [hy404]; with_reducible exact H2_) | (have H2_ := (Option.bind_some _ _).symm.trans H; with_reducible exact H2_) | with_reducible exact H | (rw [hy404]; exact H) | exact H
    have Ny404 := Aside0.mk hy404
    clear hy404
    have H' := Aside0.mk H
    clear H
    go_enter Try.func134, Try.ntmps134
    try go_wp2_with (first | ((with_reducible refine gate_dst (N := 2) rfl ?_); refine be_ 2 #[.slice A0_0 l0_0.length c0_0] 41 fun gb399 hg w8 hbox hb => ?_; have BK399 := Aside0.mk (hbox); have GW399 := ge_ hg HB; have GE399 := ge_ hg HB; replace HB := bs_ HB hb; clear hb hbox hg))
    replace BK399 := Aside0.mk (blk_drew BK399.out)
    replace HB := Aside0.mk (below_drew1 HB.out)
    have p400 : 0 ≤ (0 : Int) := (by omega)
    have q400 : 0 < (l0_0.length : Int) := od_
    obtain ⟨ad400, e400, hx400_0⟩ := Kd.at_int HR0_0.out 0 p400 q400
    have hw400_0 := hx400_0
    (try rw [show ((0 : Int)).toNat = 0 from rfl] at hw400_0)
    (try rw [show 0 * 1 = 0 from rfl] at hw400_0)
    (try rw [Addr.add_zero'] at hw400_0)
    cases e400
    have qi400 : (0 < l0_0.length) = True := eq_true (by omega)
    (try rw [show ((0 : Int)).toNat = 0 from rfl] at hx400_0)
    (try rw [Addr.add_zero'] at hx400_0)
    replace hx400_0 := (HB.out.cell (World.block_lt_of_cell? w _ hx400_0)).trans hx400_0
    replace p400 := eq_true p400
    replace q400 := eq_true q400
    refine start_ (n := 8) (S := fun w' => w'.cell? ⟨gb399, 0, none⟩ = some (.slice (some ad400) l0_0.length c0_0) ∧ w'.cell? ad400 = some (.int .i64 (rd l0_0 0))) (ds := []) (fl_ 8 0) (by kernel_rfl) rfl rfl ⟨(blk_cell BK399.out 0).trans rfl, ((HB.out.cell (World.block_lt_of_cell? w _ hw400_0)).trans hw400_0)⟩ (fun hHeld => ?_); refine with_tabW impl_table.tab1 impl_table.bits1 (fun HT_ HW_ => ?_)
    generalize w8.drew = w9 at BK399 HB hx400_0 hHeld ⊢
    refine pu_ 0 8 (fl_ 8 1) ?_
    refine pu_ 2 10 (fm_ 8 5) ?_
    refine ta_ 1 9 (fl_ 8 3) ?_
    refine ta_ 3 11 (fl_ 8 4) ?_
    refine pu_ 4 12 (fl_ 8 5) ?_
    refine ta_ 5 13 (fl_ 8 6) ?_
    refine on_ 6 14 (fl_ 8 7) fun K hK => ?_
    refine go_ Try.func133 #[.slice (some ad400) l0_0.length c0_0, .int .i64 (rd l0_0 0)] ?_
    with_reducible refine (impl_leasts.calls k _ _ l0_0 (rd l0_0 0) t401 _ ?side1 ?side2 A4.out).mono ?_
    (case side1 => exact cs_ HR0_0 HB)
    (case side2 => exact HC0_0.out)
    rintro e w10 ⟨v402, rfl, ho0, hb⟩
    refine ⟨_, rfl, ?_⟩
    have HO403 := rl_ ho0 HB
    replace BK399 := bb_ BK399 hb
    replace HB := bs_ HB hb
    (try clear hb)
    (try clear hb2)
    (try clear hk)
    (try clear hi)
    (try clear ho0)
    refine hK.out _ _ ⟨(blk_cell BK399.out 0).trans rfl, ((HB.out.cell (World.block_lt_of_cell? w _ hw400_0)).trans hw400_0)⟩ (fun hHeld => ?_)
    clear hK K
    refine no_ 14 ?_
    refine pu_ 7 5 (fl_ 8 8) ?_
    refine done_ (done_of HT_.out (by kernel_rfl)) ?_
    try go_wp2_with (first | ((with_reducible refine gate_dst (N := 17) rfl ?_); refine Kd.R_make Kd.bool _ 4 rfl (N := 17) rfl 97 _ _ rfl ji5 rfl rfl Try.underlying97 (.bool false) 1 info4 rfl (by decide) (by omega) false (ok := fun _ => True) (okp := fun _ => True) rfl (fun _ hk => hk) trivial (od_) (Nat.le_trans (Nat.mul_le_mul_right _ (od_ : ji5.toNat ≤ 281474976710656)) (by omega)) (Below.refl _ _) (Nat.le_refl _) ?_; intro v405 w11 ho12 hb hg_ hnew_; clear hg_ hnew_; (first | rw [← Ny404.out] at ho12 | (simp only [Int.reduceToNat] at ho12; rw [← Ny404.out] at ho12)); replace HO403 := rb_ HO403 hb; have HO406 := rl_ ho12 HB; replace BK399 := bb_ BK399 hb; replace HB := bs_ HB hb; clear hb ho12; obtain ⟨Ao13, co13, eo13⟩ := Kd.R_slice HO406.out; subst eo13))
    go_loopg [20] k (fun kq v20 w' => ∃ (x6_1 : List Bool) (x20_1 : Int), v20 = .int .i64 x20_1 ∧ Aside0 (impl_table.l0 kq t401 x6_1 (y404.length : Int) x20_1 l0_0 = some r) ∧ Aside0 (kq ≤ k) ∧ Aside0 (Kd.R (Kd.int .i64) 3 w' w.heap.size (fun _ => True) v402 t401) ∧ Aside0 (Kd.R Kd.bool 4 w' w.heap.size (fun _ => True) (.slice Ao13 y404.length co13) x6_1) ∧ Aside0 (w'.heap[gb399]? = some (.cells #[(.slice (some ad400) l0_0.length c0_0)] 41 (0, 0))) ∧ Aside0 (Below w.heap.size w w'))
    case atStart => exact ⟨(y404), (0), sd_, H', ⟨Nat.le_refl _⟩, ⟨kr_ HO403.out⟩, ⟨kr_ HO406.out⟩, ⟨bk_ BK399.out⟩, ⟨bl_ HB.out⟩⟩
    case round =>
     clear H'
     try clear c1
     try clear p2
     try clear c3
     try clear c3b0
     try clear c3b1
     try clear p4
     try clear q4
     try clear hx4
     try clear qi4
     try clear c6
     try clear c6b0
     try clear c6b1
     try clear p6
     try clear c7
     try clear c7b0
     try clear c7b1
     try clear c13
     try clear hx400_0
     try clear p400
     try clear q400
     obtain ⟨x6_1, x20_1, rfl, HA, HK1, HO_5, HO_6, BK399, HB⟩ := hrel
     have hl6_1 := (Kd.R_reads' HO_6.out).1
     rw [hl6_1] at HO_6
     (try simp only [hl6_1])
     (try simp only [hl6_1] at BK399)
     (try simp only [hl6_1] at HO_5)
     cases gk with
     | zero => exact absurd HA.out (by simp [impl_table.l0])
     | succ k1 =>
      have H := HA.out
      clear HA
      simp only [impl_table.l0] at H
      by_cases c14 : x20_1 < (y404.length : Int)
      ·rw [if_pos c14] at H
       have c14b0 : decide (x20_1 < (y404.length : Int)) = true := decide_eq_true c14
       (try simp only [hl6_1] at c14b0)
       clear c14
       by_cases c15 : 0 < (l0_0.length : Int)
       ·rw [if_pos c15] at H
        have c15b0 : decide (0 < (l0_0.length : Int)) = true := decide_eq_true c15
        (try simp only [hl6_1] at c15b0)
        have c15b1 : decide (0 < l0_0.length) = true := decide_eq_true (by omega)
        (try simp only [hl6_1] at c15b1)
        clear c15
        by_cases c16 : (rd l0_0 0) = 0
        ·rw [if_pos c16] at H
         exact absurd H (by simp)
        ·rw [if_neg c16] at H
         have c16b0 : ((rd l0_0 0) == 0) = false := beq_eq_false_iff_ne.mpr c16
         have c16b1 : ((rd l0_0 0) != 0) = true := bne_iff_ne.mpr c16
         obtain ⟨ji17, hji17⟩ : ∃ j_ : Int, (Int.tmod x20_1 (rd l0_0 0)) = j_ := ⟨_, rfl⟩
         replace H : (if 0 ≤ (ji17) then (if (ji17) < (t401.length : Int) then (if 0 ≤ x20_1 then (if x20_1 < (x6_1.length : Int) then (impl_table.l0 k1 t401 (x6_1.set (x20_1 : Int).toNat (decide ((rd t401 (ji17)) ≤ x20_1))) (y404.length : Int) (wrap64 (x20_1 + 1)) l0_0) else (none)) else (none)) else (none)) else (none)) = some r := by first | (rw [hji17] at H; exact H) | (simp only [hji17] at H ⊢; exact H)
         by_cases c18 : 0 ≤ (ji17)
         ·rw [if_pos c18] at H
          have c18b0 : decide (0 ≤ (ji17)) = true := decide_eq_true c18
          clear c18
          by_cases c19 : (ji17) < (t401.length : Int)
          ·rw [if_pos c19] at H
           have c19b0 : decide ((ji17) < (t401.length : Int)) = true := decide_eq_true c19
           (try simp only [hl6_1] at c19b0)
           clear c19
           by_cases c20 : 0 ≤ x20_1
           ·rw [if_pos c20] at H
            have c20b0 : decide (0 ≤ x20_1) = true := decide_eq_true c20
            clear c20
            by_cases c21 : x20_1 < (x6_1.length : Int)
            ·rw [if_pos c21] at H
             have c21b0 : decide (x20_1 < (x6_1.length : Int)) = true := decide_eq_true c21
             (try simp only [hl6_1] at c21b0)
             clear c21
             obtain ⟨y409, hy409⟩ : ∃ y_ : List Bool, y_ = (x6_1.set (x20_1 : Int).toNat (decide ((rd t401 (ji17)) ≤ x20_1))) := ⟨_, rfl⟩
             replace H : (impl_table.l0 k1 t401 y409 (y404.length : Int) (wrap64 (x20_1 + 1)) l0_0) = some r := by first | (rw [hy409]; with_reducible exact H) | (have H2_ := (Option.bind_some _ _).symm.trans H; rw [hy409]; with_reducible exact H2_) | (have H2_ := (Option.bind_some _ _).symm.trans H; with_reducible exact H2_) | with_reducible exact H | (rw [hy409]; exact H) | exact H
             have Ny409 := Aside0.mk hy409
             clear hy409
             have H' := Aside0.mk H
             clear H
             have hcz23_0 := bc_ BK399
             have hfz23_0 := blk_frozen BK399.out 0
             have p407 : 0 ≤ (0 : Int) := (by omega)
             have q407 : 0 < (l0_0.length : Int) := od_
             obtain ⟨ad407, e407, hx407_0⟩ := Kd.at_int HR0_0.out 0 p407 q407
             obtain rfl : ad400 = ad407 := (by injection e407)
             have qi407 : (0 < l0_0.length) = True := eq_true (by omega)
             (try rw [show ((0 : Int)).toNat = 0 from rfl] at hx407_0)
             (try rw [Addr.add_zero'] at hx407_0)
             replace hx407_0 := (HB.out.cell (World.block_lt_of_cell? w _ hx407_0)).trans hx407_0
             replace p407 := eq_true p407
             replace q407 := eq_true q407
             obtain ⟨Ao24, co24, eo24⟩ := Kd.R_slice HO_5.out
             subst eo24
             have p408 : 0 ≤ ((ji17) : Int) := od_
             have q408 : (ji17) < (t401.length : Int) := od_
             obtain ⟨ad408, e408, hx408_0⟩ := Kd.at_int (Kd.R_reads' HO_5.out).2.2 (ji17) p408 q408
             cases e408
             replace p408 := eq_true p408
             replace q408 := eq_true q408
             have p22 : 0 ≤ (x20_1 : Int) := od_
             have q22 : (x20_1 : Int) < ((x6_1.length : Int) : Int) := od_
             obtain ⟨go22, co22, eo22, gb22, gl22, cl22, HG22⟩ := Kd.R_form HO_6.out (by omega)
             (first | cases eo22 | (injection eo22 with ea_ en_ ec_; (first | subst ea_ | (injection ea_ with ea_; subst ea_)); subst ec_; clear en_))
             have GB22 := Aside0.mk gb22
             have GG22 := Aside0.mk HG22
             clear gb22 gl22 HG22
             obtain ⟨hx22_0, hf22_0⟩ := Kd.R_celln false HO_6.out (x20_1 : Int) p22 q22
             replace p22 := eq_true p22
             replace q22 := eq_true q22
             have HP25 := Kd.R_putg HO_6.out (x20_1 : Int) (decide ((rd t401 (ji17)) ≤ x20_1))
             go_wp2_with (first | ((with_reducible refine gate_store (t := 4) (p := 36) rfl ?_); refine store_event (t := 4) (p := 36) (v := ?vo_w26) (w1 := (wr.setCell ⟨go22, (x20_1 : Int).toNat, none⟩ (.bool (decide ((rd t401 (ji17)) ≤ x20_1))))) ?hg ?ho ?hn ?hr ?_; (case ho => rfl); (case hg => rfl); (case hn => rfl); (case hr => first | (go_simp; done) | (go_simp; rfl)); intro w26 hw; have hg : wr.grownBy w26 (some go22) := (by rw [hw]; exact HP25.2); have hp_ : Kd.R Kd.bool 4 w26 w.heap.size (fun _ => True) (.slice (some ⟨go22, 0, none⟩) x6_1.length co13) y409 := (by rw [hw, Ny409.out]; exact HP25.1); clear HP25; replace HO_5 := Aside0.mk (Kd.R_over' (v := (.slice (some ⟨go22, 0, none⟩) x6_1.length co13)) (kr_ HO_5.out) (Kd.R_typed HO_6.out) (by decide) hg); replace BK399 := Aside0.mk (blk_grown (g := gb399) (o := .cells #[.slice (some ad400) l0_0.length c0_0] 41 (0, 0)) (bk_ BK399.out) hg (Kd.R_ne HO_6.out BK399.out (by decide))); replace HO_6 := Aside0.mk (hp_); replace HB := Aside0.mk ((by rw [hw]; exact below_set (HB.out) GB22.out : Below w.heap.size w w26)); clear hg hw hp_))
             (try simp only [← hl6_1])
             go_roundg k1
             case measure => have := HK1.out; omega
             case rel => exact ⟨(y409), (wrap64 (x20_1 + 1)), sd_, H', ⟨by have := HK1.out; omega⟩, ⟨by (try simp only [hl6_1]); (with_reducible repeat (first | apply Kd.R_alloc | apply Kd.R_drewN | apply Kd.R_drew)); exact HO_5.out⟩, ⟨by (try simp only [hl6_1]); (with_reducible repeat (first | apply Kd.R_alloc | apply Kd.R_drewN | apply Kd.R_drew)); exact HO_6.out⟩, ⟨by (try simp only [hl6_1]); (with_reducible repeat (first | refine blk_drewN ?_ _ | refine blk_drew ?_ | refine blk_alloc ?_ _)); exact BK399.out⟩, ⟨bl_ HB.out⟩⟩
            ·rw [if_neg c21] at H
             exact absurd H (by simp)
           ·rw [if_neg c20] at H
            exact absurd H (by simp)
          ·rw [if_neg c19] at H
           exact absurd H (by simp)
         ·rw [if_neg c18] at H
          exact absurd H (by simp)
       ·rw [if_neg c15] at H
        exact absurd H (by simp)
      ·rw [if_neg c14] at H
       have c14b0 : decide (x20_1 < (y404.length : Int)) = false := decide_eq_false c14
       (try simp only [hl6_1] at c14b0)
       clear c14
       obtain rfl := Option.some.inj H
       go_wp2
       go_ret
       exact ⟨_, by first | rfl | (simp [errW_none, errW_some] <;> rfl) | (simp only [← hji5]; first | rfl | (simp [errW_none, errW_some] <;> rfl)) | (simp [*, errW_none, errW_some] <;> rfl), kr_ HO_6.out, bl_ HB.out⟩
   ·rw [if_neg c7] at H
    exact absurd H (by simp)
  ·rw [if_neg c6] at H
   exact absurd H (by simp)
 ·rw [if_neg c3] at H
  exact absurd H (by simp)
def impl_Gaps.l0 : Nat → List Int → List Bool → Int → Int → Option (List Int)
 | 0, _, _, _, _ => none
 | k + 1, x3, x11, x12, x13 => if x13 < x12 then (if 0 ≤ x13 then (if x13 < (x11.length : Int) then (if rdOf false x11 x13 = true then (impl_Gaps.l0 k x3 x11 x12 (wrap64 (x13 + 1))) else (if x3.length < 17592186044416 then (impl_Gaps.l0 k (x3 ++ [x13]) x11 x12 (wrap64 (x13 + 1))) else (none))) else (none)) else (none)) else (some x3)
def impl_Gaps.f (k : Nat) (l0_0 : List Int) : Option (List Int) := (impl_IsSemigroup.f k l0_0).bind fun t411 => (if t411 = true then ((impl_table.f k l0_0 200).bind fun t415 => (impl_Gaps.l0 k (([] : List Int)) t415 (t415.length : Int) 0)) else (some ([] : List Int)))
set_option maxHeartbeats 8000000 in
set_option maxRecDepth 100000 in
theorem impl_Gaps.calls (k : Nat) (A0_0 : Option Addr) (c0_0 : Nat) (l0_0 : List Int) (r : List Int) (w : World) (hr0_0 : Kd.C (Kd.int .i64) w A0_0 l0_0.length l0_0) (hc0_0 : l0_0.length ≤ c0_0) (h : impl_Gaps.f k l0_0 = some r) :
 Calls Try.prog 135 #[.agg #[.slice A0_0 l0_0.length c0_0]] w fun e w' => ∃ v0_ : Value, e = .returned (v0_) ∧ Kd.R (Kd.int .i64) 3 w' w.heap.size (fun _ => True) v0_ r ∧ Below w.heap.size w w' := by
 have hu41 := Try.underlying41
 have HR0_0 := Aside0.mk hr0_0
 have HC0_0 := Aside0.mk hc0_0
 clear hr0_0 hc0_0
 have HB := Aside0.mk (Below.refl w.heap.size w)
 have H := h
 clear h
 unfold impl_Gaps.f at H
 obtain ⟨t411, A2, H⟩ := ob_ H
 (try dsimp only at H)
 by_cases c3 : t411 = true
 ·subst c3
  rw [if_pos rfl] at H
  obtain ⟨y412, hy412⟩ : ∃ y_ : List Int, y_ = (([] : List Int)) := ⟨_, rfl⟩
  replace H : ((impl_table.f k l0_0 200).bind fun t415 => (impl_Gaps.l0 k y412 t415 (t415.length : Int) 0)) = some r := by first | (rw [hy412]; with_reducible exact H) | (have H2_ := (Option.bind_some _ _).symm.trans H; rw [hy412]; with_reducible exact H2_) | (have H2_ := (Option.bind_some _ _).symm.trans H; with_reducible exact H2_) | with_reducible exact H | (rw [hy412]; exact H) | exact H
  have Ny412 := Aside0.mk hy412
  clear hy412
  obtain ⟨t415, A4, H⟩ := ob_ H
  (try dsimp only at H)
  have H' := Aside0.mk H
  clear H
  go_enter Try.func135, Try.ntmps135
  go_wp2_with (first | ((with_reducible refine gate_dst (N := 1) rfl ?_); refine be_ 1 #[.slice A0_0 l0_0.length c0_0] 41 fun gb410 hg w5 hbox hb => ?_; have BK410 := Aside0.mk (hbox); have GW410 := ge_ hg HB; have GE410 := ge_ hg HB; replace HB := bs_ HB hb; clear hb hbox hg; have hcz6_0 := bc_ BK410; have hfz6_0 := blk_frozen BK410.out 0) | ((with_reducible refine gate_callee (f := 92) rfl ?_); refine gl_ 7 Try.func92 #[.agg #[.slice A0_0 l0_0.length c0_0]] ?_; (with_reducible refine (impl_IsSemigroup.calls k _ _ l0_0 true _ ?side1 ?side2 A2.out).mono ?_); (case side1 => exact cs_ HR0_0 HB); (case side2 => exact HC0_0.out); rintro e w7 ⟨rfl, hb⟩; refine ⟨_, rfl, ?_⟩; replace BK410 := bb_ BK410 hb; replace HB := bs_ HB hb; (try clear hb); (try clear hb2); (try clear hk); (try clear hi)) | ((with_reducible refine gate_dst (N := 9) rfl ?_); refine Kd.R_lit (Kd.int .i64) _ 3 ?hg (N := 9) ?hd (xs := ([] : List Int)) (inner := []) (ok := fun _ => True) (okp := fun _ => True) ?hr ?hp (fun _ hk => hk) trivial (Below.refl _ _) (Nat.le_refl _) (by simp) ?_; (case hd => rfl); (case hg => rfl); (case hr => first | (go_simp; done) | (go_simp; rfl)); (case hp => exact (Reps.none _ _)); intro v413 w8 ho9 hb hg_ hnew_; clear hg_ hnew_; (first | rw [← Ny412.out] at ho9 | (simp only [Int.reduceToNat] at ho9; rw [← Ny412.out] at ho9)); have HO414 := rl_ ho9 HB; replace BK410 := bb_ BK410 hb; replace HB := bs_ HB hb; clear hb ho9; have hcz10_0 := bc_ BK410; have hfz10_0 := blk_frozen BK410.out 0) | ((with_reducible refine gate_callee (f := 134) rfl ?_); refine gl_ 11 Try.func134 #[.agg #[.slice A0_0 l0_0.length c0_0], .int .i64 200] ?_; (with_reducible refine (impl_table.calls k _ _ l0_0 200 t415 _ ?side1 ?side2 A4.out).mono ?_); (case side1 => exact cs_ HR0_0 HB); (case side2 => exact HC0_0.out); rintro e w11 ⟨v416, rfl, ho0, hb⟩; refine ⟨_, rfl, ?_⟩; replace HO414 := rb_ HO414 hb; have HO417 := rl_ ho0 HB; replace BK410 := bb_ BK410 hb; replace HB := bs_ HB hb; (try clear hb); (try clear hb2); (try clear hk); (try clear hi); (try clear ho0); obtain ⟨Ao12, co12, eo12⟩ := Kd.R_slice HO417.out; subst eo12))
  go_loopg [3, 13] k (fun kq v3 v13 w' => ∃ (x3_1 : List Int) (x13_1 : Int), v13 = .int .i64 x13_1 ∧ Aside0 (impl_Gaps.l0 kq x3_1 t415 (t415.length : Int) x13_1 = some r) ∧ Aside0 (kq ≤ k) ∧ Aside0 (Kd.R (Kd.int .i64) 3 w' w.heap.size (fun _ => True) v3 x3_1) ∧ Aside0 (Kd.R Kd.bool 4 w' w.heap.size (fun _ => True) (.slice Ao12 t415.length co12) t415) ∧ Aside0 (w'.heap[gb410]? = some (.cells #[(.slice A0_0 l0_0.length c0_0)] 41 (0, 0))) ∧ Aside0 (Below w.heap.size w w'))
  case atStart => exact ⟨(y412), (0), sd_, H', ⟨Nat.le_refl _⟩, ⟨kr_ HO414.out⟩, ⟨kr_ HO417.out⟩, ⟨bk_ BK410.out⟩, ⟨bl_ HB.out⟩⟩
  case round =>
   clear H'
   try clear c1
   try clear p2
   try clear c3
   try clear c9
   try clear hcz10_0
   try clear hcz6_0
   try clear hfz10_0
   try clear hfz6_0
   obtain ⟨x3_1, x13_1, rfl, HA, HK1, HO_3, HO_11, BK410, HB⟩ := hrel
   cases gk with
   | zero => exact absurd HA.out (by simp [impl_Gaps.l0])
   | succ k1 =>
    have H := HA.out
    clear HA
    simp only [impl_Gaps.l0] at H
    by_cases c13 : x13_1 < (t415.length : Int)
    ·rw [if_pos c13] at H
     have c13b0 : decide (x13_1 < (t415.length : Int)) = true := decide_eq_true c13
     clear c13
     by_cases c14 : 0 ≤ x13_1
     ·rw [if_pos c14] at H
      have c14b0 : decide (0 ≤ x13_1) = true := decide_eq_true c14
      clear c14
      by_cases c15 : x13_1 < (t415.length : Int)
      ·rw [if_pos c15] at H
       have c15b0 : decide (x13_1 < (t415.length : Int)) = true := decide_eq_true c15
       clear c15
       obtain ⟨bq16, hbq16⟩ : ∃ b_ : Bool, b_ = (rdOf false t415 x13_1) := ⟨_, rfl⟩
       replace H : (if bq16 = true then (impl_Gaps.l0 k1 x3_1 t415 (t415.length : Int) (wrap64 (x13_1 + 1))) else (if x3_1.length < 17592186044416 then (impl_Gaps.l0 k1 (x3_1 ++ [x13_1]) t415 (t415.length : Int) (wrap64 (x13_1 + 1))) else (none))) = some r := by rw [← hbq16] at H; exact H
       have Nbq16 := Aside0.mk hbq16
       clear hbq16
       by_cases c17 : bq16 = true
       ·subst c17
        rw [if_pos rfl] at H
        have H' := Aside0.mk H
        clear H
        have p418 : 0 ≤ (x13_1 : Int) := od_
        have q418 : x13_1 < (t415.length : Int) := od_
        obtain ⟨ad418, e418, hx418_0⟩ := Kd.at_bool (Kd.R_reads' HO_11.out).2.2 x13_1 p418 q418
        (try rw [← Nbq16.out] at hx418_0)
        cases e418
        replace p418 := eq_true p418
        replace q418 := eq_true q418
        go_wp2
        go_roundg k1
        case measure => have := HK1.out; omega
        case rel => exact ⟨(x3_1), (wrap64 (x13_1 + 1)), sd_, H', ⟨by have := HK1.out; omega⟩, ⟨kr_ HO_3.out⟩, ⟨kr_ HO_11.out⟩, ⟨bk_ BK410.out⟩, ⟨bl_ HB.out⟩⟩
       ·obtain rfl := Bool.eq_false_iff.mpr c17
        rw [if_neg nf_] at H
        by_cases c18 : x3_1.length < 17592186044416
        ·rw [if_pos c18] at H
         have LMc18 := Aside0.mk c18
         clear c18
         obtain ⟨y419, hy419⟩ : ∃ y_ : List Int, y_ = (x3_1 ++ [x13_1]) := ⟨_, rfl⟩
         replace H : (impl_Gaps.l0 k1 y419 t415 (t415.length : Int) (wrap64 (x13_1 + 1))) = some r := by first | (rw [hy419]; with_reducible exact H) | (have H2_ := (Option.bind_some _ _).symm.trans H; rw [hy419]; with_reducible exact H2_) | (have H2_ := (Option.bind_some _ _).symm.trans H; with_reducible exact H2_) | with_reducible exact H | (rw [hy419]; exact H) | exact H
         have Ny419 := Aside0.mk hy419
         clear hy419
         have H' := Aside0.mk H
         clear H
         have p418 : 0 ≤ (x13_1 : Int) := od_
         have q418 : x13_1 < (t415.length : Int) := od_
         obtain ⟨ad418, e418, hx418_0⟩ := Kd.at_bool (Kd.R_reads' HO_11.out).2.2 x13_1 p418 q418
         (try rw [← Nbq16.out] at hx418_0)
         cases e418
         replace p418 := eq_true p418
         replace q418 := eq_true q418
         go_wp2_with (first | ((with_reducible refine gate_builtin (b := .append) (xs := #[.tmp 20, .tmp 22]) rfl ?_); at_builtin; refine Kd.R_append (Kd.int .i64) (w0 := w) w.heap.size rfl (.tmp 20) (.tmp 22) 22 3 (.int .i64 0) 8 rfl Try.underlying22 info3 rfl (by decide) (by omega) u3 x3_1 x13_1 [.int .i64 x13_1] (fun _ => True) (fun _ => False) rfl rfl ?aP (fun _ hk => hk.elim) ?aF ?aO ?aB ?aS ?aL ?_; (case aP => exact rfl); (case aB => exact (bl_ HB.out)); (case aF => exact (fun _ _ => trivial)); (case aO => exact (kr_ HO_3.out)); (case aS => exact (below_size (bl_ HB.out))); (case aL => have := LMc18.out; omega); intro v420 w19 ho hb hg hat; rw [← Ny419.out] at ho; have n0_ := Aside0.mk (Kd.R_over' (kr_ HO_11.out) (Kd.R_typed (kr_ HO_3.out)) (by decide) hg); have n1_ := Aside0.mk (blk_grown (g := gb410) (o := .cells #[.slice A0_0 l0_0.length c0_0] 41 (0, 0)) (bk_ BK410.out) hg (Kd.R_ne HO_3.out BK410.out (by decide))); have n2_ := Aside0.mk (hb); have n3_ := Aside0.mk (ho); clear HO_11; clear BK410; clear HB; clear HO_3; have HO_11 := n0_; have BK410 := n1_; have HB := n2_; have HO421 := n3_; clear n0_ n1_ n2_ n3_; clear ho hb hg hat))
         go_roundg k1
         case measure => have := HK1.out; omega
         case rel => exact ⟨(y419), (wrap64 (x13_1 + 1)), sd_, H', ⟨by have := HK1.out; omega⟩, ⟨kr_ HO421.out⟩, ⟨kr_ HO_11.out⟩, ⟨bk_ BK410.out⟩, ⟨bl_ HB.out⟩⟩
        ·rw [if_neg c18] at H
         exact absurd H (by simp)
      ·rw [if_neg c15] at H
       exact absurd H (by simp)
     ·rw [if_neg c14] at H
      exact absurd H (by simp)
    ·rw [if_neg c13] at H
     have c13b0 : decide (x13_1 < (t415.length : Int)) = false := decide_eq_false c13
     clear c13
     obtain rfl := Option.some.inj H
     go_wp2
     go_ret
     exact ⟨_, er_, kr_ HO_3.out, bl_ HB.out⟩
 ·obtain rfl := Bool.eq_false_iff.mpr c3
  rw [if_neg nf_] at H
  obtain rfl := Option.some.inj H
  go_enter Try.func135, Try.ntmps135
  go_wp2_with (first | ((with_reducible refine gate_dst (N := 1) rfl ?_); refine be_ 1 #[.slice A0_0 l0_0.length c0_0] 41 fun gb410 hg w20 hbox hb => ?_; have BK410 := Aside0.mk (hbox); have GW410 := ge_ hg HB; have GE410 := ge_ hg HB; replace HB := bs_ HB hb; clear hb hbox hg; have hcz21_0 := bc_ BK410; have hfz21_0 := blk_frozen BK410.out 0) | ((with_reducible refine gate_callee (f := 92) rfl ?_); refine gl_ 7 Try.func92 #[.agg #[.slice A0_0 l0_0.length c0_0]] ?_; (with_reducible refine (impl_IsSemigroup.calls k _ _ l0_0 false _ ?side1 ?side2 A2.out).mono ?_); (case side1 => exact cs_ HR0_0 HB); (case side2 => exact HC0_0.out); rintro e w22 ⟨rfl, hb⟩; refine ⟨_, rfl, ?_⟩; replace BK410 := bb_ BK410 hb; replace HB := bs_ HB hb; (try clear hb); (try clear hb2); (try clear hk); (try clear hi)))
  go_ret
  exact ⟨_, er_, by first | exact Kd.R_nil _ _ _ _ _ | exact Kd.N_nil _ _ _ _ _ | exact Kd.V_nil _ _ _ _ _ | exact Kd.Q_nil _ _ _ _ _ | exact Kd.S_nil _ _ _ _ _, bl_ HB.out⟩
def impl_FrobeniusOf.f (k : Nat) (l0_0 : List Int) : Option (Int) := (impl_Gaps.f k l0_0).bind fun t423 => (if (t423.length : Int) = 0 then (some (-1)) else (if 0 ≤ (wrap64 ((t423.length : Int) - 1)) then (if (wrap64 ((t423.length : Int) - 1)) < (t423.length : Int) then (some (rd t423 (wrap64 ((t423.length : Int) - 1)))) else (none)) else (none)))
set_option maxHeartbeats 8000000 in
set_option maxRecDepth 100000 in
theorem impl_FrobeniusOf.calls (k : Nat) (A0_0 : Option Addr) (c0_0 : Nat) (l0_0 : List Int) (r : Int) (w : World) (hr0_0 : Kd.C (Kd.int .i64) w A0_0 l0_0.length l0_0) (hc0_0 : l0_0.length ≤ c0_0) (h : impl_FrobeniusOf.f k l0_0 = some r) :
 Calls Try.prog 115 #[.agg #[.slice A0_0 l0_0.length c0_0]] w fun e w' => e = .returned (.int .i64 r) ∧ Below w.heap.size w w' := by
 have hu41 := Try.underlying41
 have HR0_0 := Aside0.mk hr0_0
 have HC0_0 := Aside0.mk hc0_0
 clear hr0_0 hc0_0
 have HB := Aside0.mk (Below.refl w.heap.size w)
 have H := h
 clear h
 unfold impl_FrobeniusOf.f at H
 obtain ⟨t423, A2, H⟩ := ob_ H
 (try dsimp only at H)
 by_cases c3 : (t423.length : Int) = 0
 ·rw [if_pos c3] at H
  have c3b0 : ((t423.length : Int) == 0) = true := beq_iff_eq.mpr c3
  have c3b1 : ((t423.length : Int) != 0) = false := bne_eq_false_iff_eq.mpr c3
  clear c3
  obtain rfl := Option.some.inj H
  go_enter Try.func115, Try.ntmps115
  go_wp2_with (first | ((with_reducible refine gate_dst (N := 1) rfl ?_); refine be_ 1 #[.slice A0_0 l0_0.length c0_0] 41 fun gb422 hg w4 hbox hb => ?_; have BK422 := Aside0.mk (hbox); have GW422 := ge_ hg HB; have GE422 := ge_ hg HB; replace HB := bs_ HB hb; clear hb hbox hg; have hcz5_0 := bc_ BK422; have hfz5_0 := blk_frozen BK422.out 0) | ((with_reducible refine gate_callee (f := 135) rfl ?_); refine gl_ 5 Try.func135 #[.agg #[.slice A0_0 l0_0.length c0_0]] ?_; (with_reducible refine (impl_Gaps.calls k _ _ l0_0 t423 _ ?side1 ?side2 A2.out).mono ?_); (case side1 => exact cs_ HR0_0 HB); (case side2 => exact HC0_0.out); rintro e w6 ⟨v424, rfl, ho0, hb⟩; refine ⟨_, rfl, ?_⟩; have HO425 := rl_ ho0 HB; replace BK422 := bb_ BK422 hb; replace HB := bs_ HB hb; (try clear hb); (try clear hb2); (try clear hk); (try clear hi); (try clear ho0); obtain ⟨Ao7, co7, eo7⟩ := Kd.R_slice HO425.out; subst eo7))
  go_ret
  exact ⟨er_, bl_ HB.out⟩
 ·rw [if_neg c3] at H
  have c3b0 : ((t423.length : Int) == 0) = false := beq_eq_false_iff_ne.mpr c3
  have c3b1 : ((t423.length : Int) != 0) = true := bne_iff_ne.mpr c3
  have c3b2 : ¬ (t423 = []) := fun h_ => c3 (by rw [h_]; rfl)
  obtain ⟨ji8, hji8⟩ : ∃ j_ : Int, (wrap64 ((t423.length : Int) - 1)) = j_ := ⟨_, rfl⟩
  replace H : (if 0 ≤ (ji8) then (if (ji8) < (t423.length : Int) then (some (rd t423 (ji8))) else (none)) else (none)) = some r := by first | (rw [hji8] at H; exact H) | (simp only [hji8] at H ⊢; exact H)
  (try rw [hji8] at A2)
  have hji8w : (IntKind.i64.wrap ((t423.length : Int) - 1)) = ji8 := (i64_w _).trans hji8
  by_cases c9 : 0 ≤ (ji8)
  ·rw [if_pos c9] at H
   have c9b0 : decide (0 ≤ (ji8)) = true := decide_eq_true c9
   clear c9
   by_cases c10 : (ji8) < (t423.length : Int)
   ·rw [if_pos c10] at H
    have c10b0 : decide ((ji8) < (t423.length : Int)) = true := decide_eq_true c10
    clear c10
    obtain rfl := Option.some.inj H
    go_enter Try.func115, Try.ntmps115
    go_wp2_with (first | ((with_reducible refine gate_dst (N := 1) rfl ?_); refine be_ 1 #[.slice A0_0 l0_0.length c0_0] 41 fun gb422 hg w11 hbox hb => ?_; have BK422 := Aside0.mk (hbox); have GW422 := ge_ hg HB; have GE422 := ge_ hg HB; replace HB := bs_ HB hb; clear hb hbox hg; have hcz12_0 := bc_ BK422; have hfz12_0 := blk_frozen BK422.out 0) | ((with_reducible refine gate_callee (f := 135) rfl ?_); refine gl_ 5 Try.func135 #[.agg #[.slice A0_0 l0_0.length c0_0]] ?_; (with_reducible refine (impl_Gaps.calls k _ _ l0_0 t423 _ ?side1 ?side2 A2.out).mono ?_); (case side1 => exact cs_ HR0_0 HB); (case side2 => exact HC0_0.out); rintro e w13 ⟨v424, rfl, ho0, hb⟩; refine ⟨_, rfl, ?_⟩; have HO425 := rl_ ho0 HB; replace BK422 := bb_ BK422 hb; replace HB := bs_ HB hb; (try clear hb); (try clear hb2); (try clear hk); (try clear hi); (try clear ho0); obtain ⟨Ao14, co14, eo14⟩ := Kd.R_slice HO425.out; subst eo14; have p426 : 0 ≤ ((ji8) : Int) := od_; have q426 : (ji8) < (t423.length : Int) := od_; obtain ⟨ad426, e426, hx426_0⟩ := Kd.at_int (Kd.R_reads' HO425.out).2.2 (ji8) p426 q426; cases e426; replace p426 := eq_true p426; replace q426 := eq_true q426))
    go_ret
    exact ⟨by first | rfl | (simp [errW_none, errW_some] <;> rfl) | (simp only [← hji8]; first | rfl | (simp [errW_none, errW_some] <;> rfl)) | (simp [*, errW_none, errW_some] <;> rfl), bl_ HB.out⟩
   ·rw [if_neg c10] at H
    exact absurd H (by simp)
  ·rw [if_neg c9] at H
   exact absurd H (by simp)
def impl_ConductorOf.f (k : Nat) (l0_0 : List Int) : Option (Int) := (impl_FrobeniusOf.f k l0_0).bind fun t428 => (some (wrap64 (t428 + 1)))
set_option maxHeartbeats 8000000 in
set_option maxRecDepth 100000 in
theorem impl_ConductorOf.calls (k : Nat) (A0_0 : Option Addr) (c0_0 : Nat) (l0_0 : List Int) (r : Int) (w : World) (hr0_0 : Kd.C (Kd.int .i64) w A0_0 l0_0.length l0_0) (hc0_0 : l0_0.length ≤ c0_0) (h : impl_ConductorOf.f k l0_0 = some r) :
 Calls Try.prog 93 #[.agg #[.slice A0_0 l0_0.length c0_0]] w fun e w' => e = .returned (.int .i64 r) ∧ Below w.heap.size w w' := by
 have hu41 := Try.underlying41
 have HR0_0 := Aside0.mk hr0_0
 have HC0_0 := Aside0.mk hc0_0
 clear hr0_0 hc0_0
 have HB := Aside0.mk (Below.refl w.heap.size w)
 have H := h
 clear h
 unfold impl_ConductorOf.f at H
 obtain ⟨t428, A2, H⟩ := ob_ H
 (try dsimp only at H)
 obtain rfl := Option.some.inj H
 go_enter Try.func93, Try.ntmps93
 go_wp2_with (first | ((with_reducible refine gate_dst (N := 1) rfl ?_); refine be_ 1 #[.slice A0_0 l0_0.length c0_0] 41 fun gb427 hg w3 hbox hb => ?_; have BK427 := Aside0.mk (hbox); have GW427 := ge_ hg HB; have GE427 := ge_ hg HB; replace HB := bs_ HB hb; clear hb hbox hg; have hcz4_0 := bc_ BK427; have hfz4_0 := blk_frozen BK427.out 0) | ((with_reducible refine gate_callee (f := 115) rfl ?_); refine gl_ 4 Try.func115 #[.agg #[.slice A0_0 l0_0.length c0_0]] ?_; (with_reducible refine (impl_FrobeniusOf.calls k _ _ l0_0 t428 _ ?side1 ?side2 A2.out).mono ?_); (case side1 => exact cs_ HR0_0 HB); (case side2 => exact HC0_0.out); rintro e w5 ⟨rfl, hb⟩; refine ⟨_, rfl, ?_⟩; replace BK427 := bb_ BK427 hb; replace HB := bs_ HB hb; (try clear hb); (try clear hb2); (try clear hk); (try clear hi)))
 go_ret
 exact ⟨er_, bl_ HB.out⟩
def impl_SmallElements.l0 : Nat → List Int → List Bool → Int → Int → Option (List Int)
 | 0, _, _, _, _ => none
 | k + 1, x3, x4, x13, x14 => if x14 < x13 then (if 0 ≤ x14 then (if x14 < (x4.length : Int) then (if rdOf false x4 x14 = true then (if x3.length < 17592186044416 then (impl_SmallElements.l0 k (x3 ++ [x14]) x4 x13 (wrap64 (x14 + 1))) else (none)) else (impl_SmallElements.l0 k x3 x4 x13 (wrap64 (x14 + 1)))) else (none)) else (none)) else (some x3)
def impl_SmallElements.f (k : Nat) (l0_0 : List Int) : Option (List Int) := (impl_IsSemigroup.f k l0_0).bind fun t430 => (if t430 = true then ((impl_table.f k l0_0 200).bind fun t434 => ((impl_ConductorOf.f k l0_0).bind fun t437 => (impl_SmallElements.l0 k (([] : List Int)) t434 t437 0))) else (some ([] : List Int)))
set_option maxHeartbeats 8000000 in
set_option maxRecDepth 100000 in
theorem impl_SmallElements.calls (k : Nat) (A0_0 : Option Addr) (c0_0 : Nat) (l0_0 : List Int) (r : List Int) (w : World) (hr0_0 : Kd.C (Kd.int .i64) w A0_0 l0_0.length l0_0) (hc0_0 : l0_0.length ≤ c0_0) (h : impl_SmallElements.f k l0_0 = some r) :
 Calls Try.prog 94 #[.agg #[.slice A0_0 l0_0.length c0_0]] w fun e w' => ∃ v0_ : Value, e = .returned (v0_) ∧ Kd.R (Kd.int .i64) 3 w' w.heap.size (fun _ => True) v0_ r ∧ Below w.heap.size w w' := by
 have hu41 := Try.underlying41
 have HR0_0 := Aside0.mk hr0_0
 have HC0_0 := Aside0.mk hc0_0
 clear hr0_0 hc0_0
 have HB := Aside0.mk (Below.refl w.heap.size w)
 have H := h
 clear h
 unfold impl_SmallElements.f at H
 obtain ⟨t430, A2, H⟩ := ob_ H
 (try dsimp only at H)
 by_cases c3 : t430 = true
 ·subst c3
  rw [if_pos rfl] at H
  obtain ⟨y431, hy431⟩ : ∃ y_ : List Int, y_ = (([] : List Int)) := ⟨_, rfl⟩
  replace H : ((impl_table.f k l0_0 200).bind fun t434 => ((impl_ConductorOf.f k l0_0).bind fun t437 => (impl_SmallElements.l0 k y431 t434 t437 0))) = some r := by first | (rw [hy431]; with_reducible exact H) | (have H2_ := (Option.bind_some _ _).symm.trans H; rw [hy431]; with_reducible exact H2_) | (have H2_ := (Option.bind_some _ _).symm.trans H; with_reducible exact H2_) | with_reducible exact H | (rw [hy431]; exact H) | exact H
  have Ny431 := Aside0.mk hy431
  clear hy431
  obtain ⟨t434, A4, H⟩ := ob_ H
  (try dsimp only at H)
  obtain ⟨t437, A5, H⟩ := ob_ H
  (try dsimp only at H)
  have H' := Aside0.mk H
  clear H
  go_enter Try.func94, Try.ntmps94
  go_wp2_with (first | ((with_reducible refine gate_dst (N := 1) rfl ?_); refine be_ 1 #[.slice A0_0 l0_0.length c0_0] 41 fun gb429 hg w6 hbox hb => ?_; have BK429 := Aside0.mk (hbox); have GW429 := ge_ hg HB; have GE429 := ge_ hg HB; replace HB := bs_ HB hb; clear hb hbox hg; have hcz7_0 := bc_ BK429; have hfz7_0 := blk_frozen BK429.out 0) | ((with_reducible refine gate_callee (f := 92) rfl ?_); refine gl_ 7 Try.func92 #[.agg #[.slice A0_0 l0_0.length c0_0]] ?_; (with_reducible refine (impl_IsSemigroup.calls k _ _ l0_0 true _ ?side1 ?side2 A2.out).mono ?_); (case side1 => exact cs_ HR0_0 HB); (case side2 => exact HC0_0.out); rintro e w8 ⟨rfl, hb⟩; refine ⟨_, rfl, ?_⟩; replace BK429 := bb_ BK429 hb; replace HB := bs_ HB hb; (try clear hb); (try clear hb2); (try clear hk); (try clear hi)) | ((with_reducible refine gate_dst (N := 9) rfl ?_); refine Kd.R_lit (Kd.int .i64) _ 3 ?hg (N := 9) ?hd (xs := ([] : List Int)) (inner := []) (ok := fun _ => True) (okp := fun _ => True) ?hr ?hp (fun _ hk => hk) trivial (Below.refl _ _) (Nat.le_refl _) (by simp) ?_; (case hd => rfl); (case hg => rfl); (case hr => first | (go_simp; done) | (go_simp; rfl)); (case hp => exact (Reps.none _ _)); intro v432 w9 ho10 hb hg_ hnew_; clear hg_ hnew_; (first | rw [← Ny431.out] at ho10 | (simp only [Int.reduceToNat] at ho10; rw [← Ny431.out] at ho10)); have HO433 := rl_ ho10 HB; replace BK429 := bb_ BK429 hb; replace HB := bs_ HB hb; clear hb ho10; have hcz11_0 := bc_ BK429; have hfz11_0 := blk_frozen BK429.out 0) | ((with_reducible refine gate_callee (f := 134) rfl ?_); refine gl_ 11 Try.func134 #[.agg #[.slice A0_0 l0_0.length c0_0], .int .i64 200] ?_; (with_reducible refine (impl_table.calls k _ _ l0_0 200 t434 _ ?side1 ?side2 A4.out).mono ?_); (case side1 => exact cs_ HR0_0 HB); (case side2 => exact HC0_0.out); rintro e w12 ⟨v435, rfl, ho0, hb⟩; refine ⟨_, rfl, ?_⟩; replace HO433 := rb_ HO433 hb; have HO436 := rl_ ho0 HB; replace BK429 := bb_ BK429 hb; replace HB := bs_ HB hb; (try clear hb); (try clear hb2); (try clear hk); (try clear hi); (try clear ho0); have hcz13_0 := bc_ BK429; have hfz13_0 := blk_frozen BK429.out 0) | ((with_reducible refine gate_callee (f := 93) rfl ?_); refine gl_ 13 Try.func93 #[.agg #[.slice A0_0 l0_0.length c0_0]] ?_; (with_reducible refine (impl_ConductorOf.calls k _ _ l0_0 t437 _ ?side1 ?side2 A5.out).mono ?_); (case side1 => exact cs_ HR0_0 HB); (case side2 => exact HC0_0.out); rintro e w14 ⟨rfl, hb⟩; refine ⟨_, rfl, ?_⟩; replace HO433 := rb_ HO433 hb; replace HO436 := rb_ HO436 hb; replace BK429 := bb_ BK429 hb; replace HB := bs_ HB hb; (try clear hb); (try clear hb2); (try clear hk); (try clear hi)))
  go_loopg [3, 14] k (fun kq v3 v14 w' => ∃ (x3_1 : List Int) (x14_1 : Int), v14 = .int .i64 x14_1 ∧ Aside0 (impl_SmallElements.l0 kq x3_1 t434 t437 x14_1 = some r) ∧ Aside0 (kq ≤ k) ∧ Aside0 (Kd.R (Kd.int .i64) 3 w' w.heap.size (fun _ => True) v3 x3_1) ∧ Aside0 (Kd.R Kd.bool 4 w' w.heap.size (fun _ => True) v435 t434) ∧ Aside0 (w'.heap[gb429]? = some (.cells #[(.slice A0_0 l0_0.length c0_0)] 41 (0, 0))) ∧ Aside0 (Below w.heap.size w w'))
  case atStart => exact ⟨(y431), (0), sd_, H', ⟨Nat.le_refl _⟩, ⟨kr_ HO433.out⟩, ⟨kr_ HO436.out⟩, ⟨bk_ BK429.out⟩, ⟨bl_ HB.out⟩⟩
  case round =>
   clear H'
   try clear c1
   try clear p2
   try clear c3
   try clear c9
   try clear c13
   try clear hcz11_0
   try clear hcz13_0
   try clear hcz7_0
   try clear hfz11_0
   try clear hfz13_0
   try clear hfz7_0
   obtain ⟨x3_1, x14_1, rfl, HA, HK1, HO_3, HO_4, BK429, HB⟩ := hrel
   cases gk with
   | zero => exact absurd HA.out (by simp [impl_SmallElements.l0])
   | succ k1 =>
    have H := HA.out
    clear HA
    simp only [impl_SmallElements.l0] at H
    by_cases c15 : x14_1 < t437
    ·rw [if_pos c15] at H
     have c15b0 : decide (x14_1 < t437) = true := decide_eq_true c15
     clear c15
     by_cases c16 : 0 ≤ x14_1
     ·rw [if_pos c16] at H
      have c16b0 : decide (0 ≤ x14_1) = true := decide_eq_true c16
      clear c16
      by_cases c17 : x14_1 < (t434.length : Int)
      ·rw [if_pos c17] at H
       have c17b0 : decide (x14_1 < (t434.length : Int)) = true := decide_eq_true c17
       clear c17
       obtain ⟨bq18, hbq18⟩ : ∃ b_ : Bool, b_ = (rdOf false t434 x14_1) := ⟨_, rfl⟩
       replace H : (if bq18 = true then (if x3_1.length < 17592186044416 then (impl_SmallElements.l0 k1 (x3_1 ++ [x14_1]) t434 t437 (wrap64 (x14_1 + 1))) else (none)) else (impl_SmallElements.l0 k1 x3_1 t434 t437 (wrap64 (x14_1 + 1)))) = some r := by rw [← hbq18] at H; exact H
       have Nbq18 := Aside0.mk hbq18
       clear hbq18
       by_cases c19 : bq18 = true
       ·subst c19
        rw [if_pos rfl] at H
        by_cases c20 : x3_1.length < 17592186044416
        ·rw [if_pos c20] at H
         have LMc20 := Aside0.mk c20
         clear c20
         obtain ⟨y439, hy439⟩ : ∃ y_ : List Int, y_ = (x3_1 ++ [x14_1]) := ⟨_, rfl⟩
         replace H : (impl_SmallElements.l0 k1 y439 t434 t437 (wrap64 (x14_1 + 1))) = some r := by first | (rw [hy439]; with_reducible exact H) | (have H2_ := (Option.bind_some _ _).symm.trans H; rw [hy439]; with_reducible exact H2_) | (have H2_ := (Option.bind_some _ _).symm.trans H; with_reducible exact H2_) | with_reducible exact H | (rw [hy439]; exact H) | exact H
         have Ny439 := Aside0.mk hy439
         clear hy439
         have H' := Aside0.mk H
         clear H
         obtain ⟨Ao21, co21, eo21⟩ := Kd.R_slice HO_4.out
         subst eo21
         have p438 : 0 ≤ (x14_1 : Int) := od_
         have q438 : x14_1 < (t434.length : Int) := od_
         obtain ⟨ad438, e438, hx438_0⟩ := Kd.at_bool (Kd.R_reads' HO_4.out).2.2 x14_1 p438 q438
         (try rw [← Nbq18.out] at hx438_0)
         cases e438
         replace p438 := eq_true p438
         replace q438 := eq_true q438
         go_wp2_with (first | ((with_reducible refine gate_builtin (b := .append) (xs := #[.tmp 21, .tmp 23]) rfl ?_); at_builtin; refine Kd.R_append (Kd.int .i64) (w0 := w) w.heap.size rfl (.tmp 21) (.tmp 23) 22 3 (.int .i64 0) 8 rfl Try.underlying22 info3 rfl (by decide) (by omega) u3 x3_1 x14_1 [.int .i64 x14_1] (fun _ => True) (fun _ => False) rfl rfl ?aP (fun _ hk => hk.elim) ?aF ?aO ?aB ?aS ?aL ?_; (case aP => exact rfl); (case aB => exact (bl_ HB.out)); (case aF => exact (fun _ _ => trivial)); (case aO => exact (kr_ HO_3.out)); (case aS => exact (below_size (bl_ HB.out))); (case aL => have := LMc20.out; omega); intro v440 w22 ho hb hg hat; rw [← Ny439.out] at ho; have n0_ := Aside0.mk (Kd.R_over' (kr_ HO_4.out) (Kd.R_typed (kr_ HO_3.out)) (by decide) hg); have n1_ := Aside0.mk (blk_grown (g := gb429) (o := .cells #[.slice A0_0 l0_0.length c0_0] 41 (0, 0)) (bk_ BK429.out) hg (Kd.R_ne HO_3.out BK429.out (by decide))); have n2_ := Aside0.mk (hb); have n3_ := Aside0.mk (ho); clear HO_4; clear BK429; clear HB; clear HO_3; have HO_4 := n0_; have BK429 := n1_; have HB := n2_; have HO441 := n3_; clear n0_ n1_ n2_ n3_; clear ho hb hg hat))
         go_roundg k1
         case measure => have := HK1.out; omega
         case rel => exact ⟨(y439), (wrap64 (x14_1 + 1)), sd_, H', ⟨by have := HK1.out; omega⟩, ⟨kr_ HO441.out⟩, ⟨kr_ HO_4.out⟩, ⟨bk_ BK429.out⟩, ⟨bl_ HB.out⟩⟩
        ·rw [if_neg c20] at H
         exact absurd H (by simp)
       ·obtain rfl := Bool.eq_false_iff.mpr c19
        rw [if_neg nf_] at H
        have H' := Aside0.mk H
        clear H
        obtain ⟨Ao23, co23, eo23⟩ := Kd.R_slice HO_4.out
        subst eo23
        have p438 : 0 ≤ (x14_1 : Int) := od_
        have q438 : x14_1 < (t434.length : Int) := od_
        obtain ⟨ad438, e438, hx438_0⟩ := Kd.at_bool (Kd.R_reads' HO_4.out).2.2 x14_1 p438 q438
        (try rw [← Nbq18.out] at hx438_0)
        cases e438
        replace p438 := eq_true p438
        replace q438 := eq_true q438
        go_wp2
        go_roundg k1
        case measure => have := HK1.out; omega
        case rel => exact ⟨(x3_1), (wrap64 (x14_1 + 1)), sd_, H', ⟨by have := HK1.out; omega⟩, ⟨kr_ HO_3.out⟩, ⟨kr_ HO_4.out⟩, ⟨bk_ BK429.out⟩, ⟨bl_ HB.out⟩⟩
      ·rw [if_neg c17] at H
       exact absurd H (by simp)
     ·rw [if_neg c16] at H
      exact absurd H (by simp)
    ·rw [if_neg c15] at H
     have c15b0 : decide (x14_1 < t437) = false := decide_eq_false c15
     clear c15
     obtain rfl := Option.some.inj H
     go_wp2
     go_ret
     exact ⟨_, er_, kr_ HO_3.out, bl_ HB.out⟩
 ·obtain rfl := Bool.eq_false_iff.mpr c3
  rw [if_neg nf_] at H
  obtain rfl := Option.some.inj H
  go_enter Try.func94, Try.ntmps94
  go_wp2_with (first | ((with_reducible refine gate_dst (N := 1) rfl ?_); refine be_ 1 #[.slice A0_0 l0_0.length c0_0] 41 fun gb429 hg w24 hbox hb => ?_; have BK429 := Aside0.mk (hbox); have GW429 := ge_ hg HB; have GE429 := ge_ hg HB; replace HB := bs_ HB hb; clear hb hbox hg; have hcz25_0 := bc_ BK429; have hfz25_0 := blk_frozen BK429.out 0) | ((with_reducible refine gate_callee (f := 92) rfl ?_); refine gl_ 7 Try.func92 #[.agg #[.slice A0_0 l0_0.length c0_0]] ?_; (with_reducible refine (impl_IsSemigroup.calls k _ _ l0_0 false _ ?side1 ?side2 A2.out).mono ?_); (case side1 => exact cs_ HR0_0 HB); (case side2 => exact HC0_0.out); rintro e w26 ⟨rfl, hb⟩; refine ⟨_, rfl, ?_⟩; replace BK429 := bb_ BK429 hb; replace HB := bs_ HB hb; (try clear hb); (try clear hb2); (try clear hk); (try clear hi)))
  go_ret
  exact ⟨_, er_, by first | exact Kd.R_nil _ _ _ _ _ | exact Kd.N_nil _ _ _ _ _ | exact Kd.V_nil _ _ _ _ _ | exact Kd.Q_nil _ _ _ _ _ | exact Kd.S_nil _ _ _ _ _, bl_ HB.out⟩
def impl_LeftCount.f (k : Nat) (l0_0 : List Int) : Option (Int) := (impl_IsSemigroup.f k l0_0).bind fun t443 => (if t443 = true then ((impl_SmallElements.f k l0_0).bind fun t444 => (some (t444.length : Int))) else (some (-1)))
set_option maxHeartbeats 8000000 in
set_option maxRecDepth 100000 in
theorem impl_LeftCount.calls (k : Nat) (A0_0 : Option Addr) (c0_0 : Nat) (l0_0 : List Int) (r : Int) (w : World) (hr0_0 : Kd.C (Kd.int .i64) w A0_0 l0_0.length l0_0) (hc0_0 : l0_0.length ≤ c0_0) (h : impl_LeftCount.f k l0_0 = some r) :
 Calls Try.prog 32 #[.agg #[.slice A0_0 l0_0.length c0_0]] w fun e w' => e = .returned (.int .i64 r) ∧ Below w.heap.size w w' := by
 have hu41 := Try.underlying41
 have HR0_0 := Aside0.mk hr0_0
 have HC0_0 := Aside0.mk hc0_0
 clear hr0_0 hc0_0
 have HB := Aside0.mk (Below.refl w.heap.size w)
 have H := h
 clear h
 unfold impl_LeftCount.f at H
 obtain ⟨t443, A2, H⟩ := ob_ H
 (try dsimp only at H)
 by_cases c3 : t443 = true
 ·subst c3
  rw [if_pos rfl] at H
  obtain ⟨t444, A4, H⟩ := ob_ H
  (try dsimp only at H)
  obtain rfl := Option.some.inj H
  go_enter Try.func32, Try.ntmps32
  go_wp2_with (first | ((with_reducible refine gate_dst (N := 1) rfl ?_); refine be_ 1 #[.slice A0_0 l0_0.length c0_0] 41 fun gb442 hg w5 hbox hb => ?_; have BK442 := Aside0.mk (hbox); have GW442 := ge_ hg HB; have GE442 := ge_ hg HB; replace HB := bs_ HB hb; clear hb hbox hg; have hcz6_0 := bc_ BK442; have hfz6_0 := blk_frozen BK442.out 0) | ((with_reducible refine gate_callee (f := 92) rfl ?_); refine gl_ 4 Try.func92 #[.agg #[.slice A0_0 l0_0.length c0_0]] ?_; (with_reducible refine (impl_IsSemigroup.calls k _ _ l0_0 true _ ?side1 ?side2 A2.out).mono ?_); (case side1 => exact cs_ HR0_0 HB); (case side2 => exact HC0_0.out); rintro e w7 ⟨rfl, hb⟩; refine ⟨_, rfl, ?_⟩; replace BK442 := bb_ BK442 hb; replace HB := bs_ HB hb; (try clear hb); (try clear hb2); (try clear hk); (try clear hi); have hcz8_0 := bc_ BK442; have hfz8_0 := blk_frozen BK442.out 0) | ((with_reducible refine gate_callee (f := 94) rfl ?_); refine gl_ 7 Try.func94 #[.agg #[.slice A0_0 l0_0.length c0_0]] ?_; (with_reducible refine (impl_SmallElements.calls k _ _ l0_0 t444 _ ?side1 ?side2 A4.out).mono ?_); (case side1 => exact cs_ HR0_0 HB); (case side2 => exact HC0_0.out); rintro e w9 ⟨v445, rfl, ho0, hb⟩; refine ⟨_, rfl, ?_⟩; have HO446 := rl_ ho0 HB; replace BK442 := bb_ BK442 hb; replace HB := bs_ HB hb; (try clear hb); (try clear hb2); (try clear hk); (try clear hi); (try clear ho0); obtain ⟨Ao10, co10, eo10⟩ := Kd.R_slice HO446.out; subst eo10))
  go_ret
  exact ⟨er_, bl_ HB.out⟩
 ·obtain rfl := Bool.eq_false_iff.mpr c3
  rw [if_neg nf_] at H
  obtain rfl := Option.some.inj H
  go_enter Try.func32, Try.ntmps32
  go_wp2_with (first | ((with_reducible refine gate_dst (N := 1) rfl ?_); refine be_ 1 #[.slice A0_0 l0_0.length c0_0] 41 fun gb442 hg w11 hbox hb => ?_; have BK442 := Aside0.mk (hbox); have GW442 := ge_ hg HB; have GE442 := ge_ hg HB; replace HB := bs_ HB hb; clear hb hbox hg; have hcz12_0 := bc_ BK442; have hfz12_0 := blk_frozen BK442.out 0) | ((with_reducible refine gate_callee (f := 92) rfl ?_); refine gl_ 4 Try.func92 #[.agg #[.slice A0_0 l0_0.length c0_0]] ?_; (with_reducible refine (impl_IsSemigroup.calls k _ _ l0_0 false _ ?side1 ?side2 A2.out).mono ?_); (case side1 => exact cs_ HR0_0 HB); (case side2 => exact HC0_0.out); rintro e w13 ⟨rfl, hb⟩; refine ⟨_, rfl, ?_⟩; replace BK442 := bb_ BK442 hb; replace HB := bs_ HB hb; (try clear hb); (try clear hb2); (try clear hk); (try clear hi)))
  go_ret
  exact ⟨er_, bl_ HB.out⟩
end Go.Proofs.Ytbjbolblahlhcaa.PFnWilf
end
