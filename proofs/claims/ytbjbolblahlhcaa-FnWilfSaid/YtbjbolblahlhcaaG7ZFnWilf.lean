/- Part 7 of the claim for FnWilf, of the chain from the printed contracts and the plain laws to the row. It has no condition of its own. -/
import Derived.Test.YtbjbolblahlhcaaG1ZFnWilf
import Derived.Test.YtbjbolblahlhcaaG3ZFnWilf
import Derived.Test.YtbjbolblahlhcaaG4ZFnWilf
import Derived.Test.YtbjbolblahlhcaaG5ZFnWilf
import Derived.Test.YtbjbolblahlhcaaG6ZFnWilf
import Derived.Test.YtbjbolblahlhcaaG2ZFnWilf
section
namespace Go.Proofs.Ytbjbolblahlhcaa.PFnWilf
open Go.RowKit Go.Proofs.YtbjbolblahlhcaaW.PrintWords Go.Proofs.YtbjbolblahlhcaaW.PrintLast Go.Proofs.YtbjbolblahlhcaaW.PrintMore
open Go.Proofs.Ytbjbolblahlhcaa.SortW (bk_ kr_ t_ f_)
open Go.Proofs.Ytbjbolblahlhcaa.SqW
attribute [local go_sem] max2_int min2_int max_two min_two max_three min_three max_four min_four
set_option linter.unusedVariables false
set_option linter.unusedSimpArgs false
def impl_WilfNumber.f (k : Nat) (l0_0 : List Int) : Option (Int) := (impl_IsSemigroup.f k l0_0).bind fun t448 => (if t448 = true then ((impl_LeftCount.f k l0_0).bind fun t449 => ((impl_ConductorOf.f k l0_0).bind fun t450 => (some (wrap64 ((wrap64 ((l0_0.length : Int) * t449)) - t450))))) else (some (-1)))
def impl_WilfNumber.T3 : Bool × List (List Nat × List Nat) := (true, [([], []), ([0], [0]), ([1], [1]), ([], []), ([3], [3]), ([2, 4], [2, 4]), ([], []), ([6, 4], [6]), ([5, 7], [5, 7]), ([8, 7, 0, 1, 2, 3, 4, 5, 6, 7, 8], [8])])
def impl_WilfNumber.B3 : List Nat := [0, 1, 3, 0, 8, 31, 0, 88, 255, 511]
theorem impl_WilfNumber.tab3 : rtab .any (opsOf Try.f31 3) = impl_WilfNumber.T3 := by kernel_rfl
theorem impl_WilfNumber.bits3 : waitsOk impl_WilfNumber.T3.2 impl_WilfNumber.B3 = true := by kernel_rfl
set_option maxHeartbeats 8000000 in
set_option maxRecDepth 100000 in
theorem impl_WilfNumber.calls (k : Nat) (A0_0 : Option Addr) (c0_0 : Nat) (l0_0 : List Int) (r : Int) (w : World) (hr0_0 : Kd.C (Kd.int .i64) w A0_0 l0_0.length l0_0) (hc0_0 : l0_0.length ≤ c0_0) (h : impl_WilfNumber.f k l0_0 = some r) :
 Calls Try.prog 31 #[.agg #[.slice A0_0 l0_0.length c0_0]] w fun e w' => e = .returned (.int .i64 r) ∧ Below w.heap.size w w' := by
 have hu41 := Try.underlying41
 have HR0_0 := Aside0.mk hr0_0
 have HC0_0 := Aside0.mk hc0_0
 clear hr0_0 hc0_0
 have HB := Aside0.mk (Below.refl w.heap.size w)
 have H := h
 clear h
 unfold impl_WilfNumber.f at H
 obtain ⟨t448, A2, H⟩ := ob_ H
 (try dsimp only at H)
 by_cases c3 : t448 = true
 ·subst c3
  rw [if_pos rfl] at H
  obtain ⟨t449, A4, H⟩ := ob_ H
  (try dsimp only at H)
  obtain ⟨t450, A5, H⟩ := ob_ H
  (try dsimp only at H)
  obtain rfl := Option.some.inj H
  go_enter Try.func31, Try.ntmps31
  try go_wp2_with (first | ((with_reducible refine gate_dst (N := 1) rfl ?_); refine be_ 1 #[.slice A0_0 l0_0.length c0_0] 41 fun gb447 hg w6 hbox hb => ?_; have BK447 := Aside0.mk (hbox); have GW447 := ge_ hg HB; have GE447 := ge_ hg HB; replace HB := bs_ HB hb; clear hb hbox hg; have hcz7_0 := bc_ BK447; have hfz7_0 := blk_frozen BK447.out 0) | ((with_reducible refine gate_callee (f := 92) rfl ?_); refine gl_ 4 Try.func92 #[.agg #[.slice A0_0 l0_0.length c0_0]] ?_; (with_reducible refine (impl_IsSemigroup.calls k _ _ l0_0 true _ ?side1 ?side2 A2.out).mono ?_); (case side1 => exact cs_ HR0_0 HB); (case side2 => exact HC0_0.out); rintro e w8 ⟨rfl, hb⟩; refine ⟨_, rfl, ?_⟩; replace BK447 := bb_ BK447 hb; replace HB := bs_ HB hb; (try clear hb); (try clear hb2); (try clear hk); (try clear hi)))
  replace BK447 := Aside0.mk (blk_drew BK447.out)
  replace HB := Aside0.mk (below_drew1 HB.out)
  refine start_ (n := 10) (S := fun w' => w'.cell? ⟨gb447, 0, none⟩ = some (.slice A0_0 l0_0.length c0_0)) (ds := []) (fl_ 10 0) (by kernel_rfl) rfl rfl ((blk_cell BK447.out 0).trans rfl) (fun hHeld => ?_); refine with_tabW impl_WilfNumber.tab3 impl_WilfNumber.bits3 (fun HT_ HW_ => ?_)
  generalize w8.drew = w9 at BK447 HB hHeld ⊢
  refine pu_ 0 6 (fl_ 10 1) ?_
  refine ta_ 1 7 (fl_ 10 2) ?_
  refine pu_ 2 8 (fl_ 10 3) ?_
  refine ta_ 3 9 (fl_ 10 4) ?_
  refine ta_ 6 12 (fm_ 10 79) ?_
  refine on_ 4 10 (fm_ 10 95) fun K hK => ?_
  refine go_ Try.func32 #[.agg #[.slice A0_0 l0_0.length c0_0]] ?_
  with_reducible refine (impl_LeftCount.calls k _ _ l0_0 t449 _ ?side1 ?side2 A4.out).mono ?_
  (case side1 => exact cs_ HR0_0 HB)
  (case side2 => exact HC0_0.out)
  rintro e w10 ⟨rfl, hb⟩
  refine ⟨_, rfl, ?_⟩
  replace BK447 := bb_ BK447 hb
  replace HB := bs_ HB hb
  (try clear hb)
  (try clear hb2)
  (try clear hk)
  (try clear hi)
  refine hK.out _ _ ((blk_cell BK447.out 0).trans rfl) (fun hHeld => ?_)
  clear hK K
  refine no_ 10 ?_
  refine pu_ 5 11 (fl_ 10 7) ?_
  refine on_ 7 13 (fl_ 10 8) fun K hK => ?_
  refine go_ Try.func93 #[.agg #[.slice A0_0 l0_0.length c0_0]] ?_
  with_reducible refine (impl_ConductorOf.calls k _ _ l0_0 t450 _ ?side1 ?side2 A5.out).mono ?_
  (case side1 => exact cs_ HR0_0 HB)
  (case side2 => exact HC0_0.out)
  rintro e w11 ⟨rfl, hb⟩
  refine ⟨_, rfl, ?_⟩
  replace BK447 := bb_ BK447 hb
  replace HB := bs_ HB hb
  (try clear hb)
  (try clear hb2)
  (try clear hk)
  (try clear hi)
  refine hK.out _ _ ((blk_cell BK447.out 0).trans rfl) (fun hHeld => ?_)
  clear hK K
  refine no_ 13 ?_
  refine pu_ 8 14 (fl_ 10 9) ?_
  refine pu_ 9 2 (fl_ 10 10) ?_
  refine done_ (done_of HT_.out (by kernel_rfl)) ?_
  try go_wp2
  go_ret
  exact ⟨er_, bl_ HB.out⟩
 ·obtain rfl := Bool.eq_false_iff.mpr c3
  rw [if_neg nf_] at H
  obtain rfl := Option.some.inj H
  go_enter Try.func31, Try.ntmps31
  go_wp2_with (first | ((with_reducible refine gate_dst (N := 1) rfl ?_); refine be_ 1 #[.slice A0_0 l0_0.length c0_0] 41 fun gb447 hg w12 hbox hb => ?_; have BK447 := Aside0.mk (hbox); have GW447 := ge_ hg HB; have GE447 := ge_ hg HB; replace HB := bs_ HB hb; clear hb hbox hg; have hcz13_0 := bc_ BK447; have hfz13_0 := blk_frozen BK447.out 0) | ((with_reducible refine gate_callee (f := 92) rfl ?_); refine gl_ 4 Try.func92 #[.agg #[.slice A0_0 l0_0.length c0_0]] ?_; (with_reducible refine (impl_IsSemigroup.calls k _ _ l0_0 false _ ?side1 ?side2 A2.out).mono ?_); (case side1 => exact cs_ HR0_0 HB); (case side2 => exact HC0_0.out); rintro e w14 ⟨rfl, hb⟩; refine ⟨_, rfl, ?_⟩; replace BK447 := bb_ BK447 hb; replace HB := bs_ HB hb; (try clear hb); (try clear hb2); (try clear hk); (try clear hi)))
  go_ret
  exact ⟨er_, bl_ HB.out⟩
def impl_GenusOf.f (k : Nat) (l0_0 : List Int) : Option (Int) := (impl_IsSemigroup.f k l0_0).bind fun t452 => (if t452 = true then ((impl_Gaps.f k l0_0).bind fun t453 => (some (t453.length : Int))) else (some (-1)))
set_option maxHeartbeats 8000000 in
set_option maxRecDepth 100000 in
theorem impl_GenusOf.calls (k : Nat) (A0_0 : Option Addr) (c0_0 : Nat) (l0_0 : List Int) (r : Int) (w : World) (hr0_0 : Kd.C (Kd.int .i64) w A0_0 l0_0.length l0_0) (hc0_0 : l0_0.length ≤ c0_0) (h : impl_GenusOf.f k l0_0 = some r) :
 Calls Try.prog 95 #[.agg #[.slice A0_0 l0_0.length c0_0]] w fun e w' => e = .returned (.int .i64 r) ∧ Below w.heap.size w w' := by
 have hu41 := Try.underlying41
 have HR0_0 := Aside0.mk hr0_0
 have HC0_0 := Aside0.mk hc0_0
 clear hr0_0 hc0_0
 have HB := Aside0.mk (Below.refl w.heap.size w)
 have H := h
 clear h
 unfold impl_GenusOf.f at H
 obtain ⟨t452, A2, H⟩ := ob_ H
 (try dsimp only at H)
 by_cases c3 : t452 = true
 ·subst c3
  rw [if_pos rfl] at H
  obtain ⟨t453, A4, H⟩ := ob_ H
  (try dsimp only at H)
  obtain rfl := Option.some.inj H
  go_enter Try.func95, Try.ntmps95
  go_wp2_with (first | ((with_reducible refine gate_dst (N := 1) rfl ?_); refine be_ 1 #[.slice A0_0 l0_0.length c0_0] 41 fun gb451 hg w5 hbox hb => ?_; have BK451 := Aside0.mk (hbox); have GW451 := ge_ hg HB; have GE451 := ge_ hg HB; replace HB := bs_ HB hb; clear hb hbox hg; have hcz6_0 := bc_ BK451; have hfz6_0 := blk_frozen BK451.out 0) | ((with_reducible refine gate_callee (f := 92) rfl ?_); refine gl_ 4 Try.func92 #[.agg #[.slice A0_0 l0_0.length c0_0]] ?_; (with_reducible refine (impl_IsSemigroup.calls k _ _ l0_0 true _ ?side1 ?side2 A2.out).mono ?_); (case side1 => exact cs_ HR0_0 HB); (case side2 => exact HC0_0.out); rintro e w7 ⟨rfl, hb⟩; refine ⟨_, rfl, ?_⟩; replace BK451 := bb_ BK451 hb; replace HB := bs_ HB hb; (try clear hb); (try clear hb2); (try clear hk); (try clear hi); have hcz8_0 := bc_ BK451; have hfz8_0 := blk_frozen BK451.out 0) | ((with_reducible refine gate_callee (f := 135) rfl ?_); refine gl_ 7 Try.func135 #[.agg #[.slice A0_0 l0_0.length c0_0]] ?_; (with_reducible refine (impl_Gaps.calls k _ _ l0_0 t453 _ ?side1 ?side2 A4.out).mono ?_); (case side1 => exact cs_ HR0_0 HB); (case side2 => exact HC0_0.out); rintro e w9 ⟨v454, rfl, ho0, hb⟩; refine ⟨_, rfl, ?_⟩; have HO455 := rl_ ho0 HB; replace BK451 := bb_ BK451 hb; replace HB := bs_ HB hb; (try clear hb); (try clear hb2); (try clear hk); (try clear hi); (try clear ho0); obtain ⟨Ao10, co10, eo10⟩ := Kd.R_slice HO455.out; subst eo10))
  go_ret
  exact ⟨er_, bl_ HB.out⟩
 ·obtain rfl := Bool.eq_false_iff.mpr c3
  rw [if_neg nf_] at H
  obtain rfl := Option.some.inj H
  go_enter Try.func95, Try.ntmps95
  go_wp2_with (first | ((with_reducible refine gate_dst (N := 1) rfl ?_); refine be_ 1 #[.slice A0_0 l0_0.length c0_0] 41 fun gb451 hg w11 hbox hb => ?_; have BK451 := Aside0.mk (hbox); have GW451 := ge_ hg HB; have GE451 := ge_ hg HB; replace HB := bs_ HB hb; clear hb hbox hg; have hcz12_0 := bc_ BK451; have hfz12_0 := blk_frozen BK451.out 0) | ((with_reducible refine gate_callee (f := 92) rfl ?_); refine gl_ 4 Try.func92 #[.agg #[.slice A0_0 l0_0.length c0_0]] ?_; (with_reducible refine (impl_IsSemigroup.calls k _ _ l0_0 false _ ?side1 ?side2 A2.out).mono ?_); (case side1 => exact cs_ HR0_0 HB); (case side2 => exact HC0_0.out); rintro e w13 ⟨rfl, hb⟩; refine ⟨_, rfl, ?_⟩; replace BK451 := bb_ BK451 hb; replace HB := bs_ HB hb; (try clear hb); (try clear hb2); (try clear hk); (try clear hi)))
  go_ret
  exact ⟨er_, bl_ HB.out⟩
def impl_lowest.f (k : Nat) (a0 : Int) (a1 : Int) : Option (Int × Int) := (impl_GcdOf.f k a0 a1).bind fun t456 => (if t456 = 0 then (some (0, 0)) else (some (wrap64 (Int.tdiv a0 t456), wrap64 (Int.tdiv a1 t456))))
set_option maxHeartbeats 8000000 in
set_option maxRecDepth 100000 in
theorem impl_lowest.calls (k : Nat) (a0 : Int) (a1 : Int) (r1 : Int) (r2 : Int) (w : World) (h : impl_lowest.f k a0 a1 = some (r1, r2)) :
 Calls Try.prog 96 #[.int .i64 a0, .int .i64 a1] w fun e w' => e = .returned (.tuple #[.int .i64 r1, .int .i64 r2]) ∧ Below w.heap.size w w' := by
 have HB := Aside0.mk (Below.refl w.heap.size w)
 have H := h
 clear h
 unfold impl_lowest.f at H
 obtain ⟨t456, A3, H⟩ := ob_ H
 (try dsimp only at H)
 by_cases c4 : t456 = 0
 ·rw [if_pos c4] at H
  have c4b0 : (t456 == 0) = true := beq_iff_eq.mpr c4
  have c4b1 : (t456 != 0) = false := bne_eq_false_iff_eq.mpr c4
  clear c4
  simp only [Option.some.injEq, Prod.mk.injEq] at H
  obtain ⟨rfl, rfl⟩ := H
  go_enter Try.func96, Try.ntmps96
  go_wp2_with (first | (go_at_call 114; (with_reducible refine (impl_GcdOf.calls k a0 a1 t456 _ A3.out).mono ?_); rintro e w5 ⟨rfl, hb⟩; replace HB := bs_ HB hb; (try clear hb); (try clear hb2); (try clear hk); (try clear hi)))
  repeat (go_quiet (first | (go_at_call 114; (with_reducible refine (impl_GcdOf.calls k a0 a1 t456 _ A3.out).mono ?_); rintro e w5 ⟨rfl, hb⟩; have n0_ := Aside0.mk (below_step (bl_ HB.out) hb); clear HB; have HB := n0_; clear n0_; (try clear hb); (try clear hb2); (try clear hk); (try clear hi))); try go_wp2_with (first | (go_at_call 114; (with_reducible refine (impl_GcdOf.calls k a0 a1 t456 _ A3.out).mono ?_); rintro e w5 ⟨rfl, hb⟩; have n0_ := Aside0.mk (below_step (bl_ HB.out) hb); clear HB; have HB := n0_; clear n0_; (try clear hb); (try clear hb2); (try clear hk); (try clear hi))))
  go_ret2
  exact ⟨er_, bl_ HB.out⟩
 ·rw [if_neg c4] at H
  have c4b0 : (t456 == 0) = false := beq_eq_false_iff_ne.mpr c4
  have c4b1 : (t456 != 0) = true := bne_iff_ne.mpr c4
  simp only [Option.some.injEq, Prod.mk.injEq] at H
  obtain ⟨rfl, rfl⟩ := H
  go_enter Try.func96, Try.ntmps96
  go_wp2_with (first | (go_at_call 114; (with_reducible refine (impl_GcdOf.calls k a0 a1 t456 _ A3.out).mono ?_); rintro e w6 ⟨rfl, hb⟩; replace HB := bs_ HB hb; (try clear hb); (try clear hb2); (try clear hk); (try clear hi)))
  repeat (go_quiet (first | (go_at_call 114; (with_reducible refine (impl_GcdOf.calls k a0 a1 t456 _ A3.out).mono ?_); rintro e w6 ⟨rfl, hb⟩; have n0_ := Aside0.mk (below_step (bl_ HB.out) hb); clear HB; have HB := n0_; clear n0_; (try clear hb); (try clear hb2); (try clear hk); (try clear hi))); try go_wp2_with (first | (go_at_call 114; (with_reducible refine (impl_GcdOf.calls k a0 a1 t456 _ A3.out).mono ?_); rintro e w6 ⟨rfl, hb⟩; have n0_ := Aside0.mk (below_step (bl_ HB.out) hb); clear HB; have HB := n0_; clear n0_; (try clear hb); (try clear hb2); (try clear hk); (try clear hi))))
  go_ret2
  exact ⟨er_, bl_ HB.out⟩
def impl_SporadicDensity.f (k : Nat) (l0_0 : List Int) : Option (Int × Int) := (impl_IsSemigroup.f k l0_0).bind fun t458 => (if t458 = true then ((impl_GenusOf.f k l0_0).bind fun t459 => (if t459 = 0 then (some (0, 1)) else ((impl_LeftCount.f k l0_0).bind fun t460 => ((impl_ConductorOf.f k l0_0).bind fun t461 => ((impl_lowest.f k t460 t461).bind fun bt462 => (some (bt462.1, bt462.2))))))) else (some (0, 0)))
def impl_SporadicDensity.T5 : Bool × List (List Nat × List Nat) := (true, [([], []), ([0], [0]), ([], []), ([2, 1], [2]), ([1, 3, 3], [1, 3]), ([4], [4]), ([4], [4]), ([5, 4, 0, 1, 2, 3, 4, 5, 6], [5]), ([6, 7, 0, 1, 2, 3, 4, 5, 6, 7], [6])])
def impl_SporadicDensity.B5 : List Nat := [0, 1, 0, 7, 15, 31, 31, 127, 255]
theorem impl_SporadicDensity.tab5 : rtab .any (opsOf Try.f33 5) = impl_SporadicDensity.T5 := by kernel_rfl
theorem impl_SporadicDensity.bits5 : waitsOk impl_SporadicDensity.T5.2 impl_SporadicDensity.B5 = true := by kernel_rfl
set_option maxHeartbeats 8000000 in
set_option maxRecDepth 100000 in
theorem impl_SporadicDensity.calls (k : Nat) (A0_0 : Option Addr) (c0_0 : Nat) (l0_0 : List Int) (r1 : Int) (r2 : Int) (w : World) (hr0_0 : Kd.C (Kd.int .i64) w A0_0 l0_0.length l0_0) (hc0_0 : l0_0.length ≤ c0_0) (h : impl_SporadicDensity.f k l0_0 = some (r1, r2)) :
 Calls Try.prog 33 #[.agg #[.slice A0_0 l0_0.length c0_0]] w fun e w' => e = .returned (.tuple #[.int .i64 r1, .int .i64 r2]) ∧ Below w.heap.size w w' := by
 have hu41 := Try.underlying41
 have HR0_0 := Aside0.mk hr0_0
 have HC0_0 := Aside0.mk hc0_0
 clear hr0_0 hc0_0
 have HB := Aside0.mk (Below.refl w.heap.size w)
 have H := h
 clear h
 unfold impl_SporadicDensity.f at H
 obtain ⟨t458, A2, H⟩ := ob_ H
 (try dsimp only at H)
 by_cases c3 : t458 = true
 ·subst c3
  rw [if_pos rfl] at H
  obtain ⟨t459, A4, H⟩ := ob_ H
  (try dsimp only at H)
  by_cases c5 : t459 = 0
  ·rw [if_pos c5] at H
   have c5b0 : (t459 == 0) = true := beq_iff_eq.mpr c5
   have c5b1 : (t459 != 0) = false := bne_eq_false_iff_eq.mpr c5
   clear c5
   simp only [Option.some.injEq, Prod.mk.injEq] at H
   obtain ⟨rfl, rfl⟩ := H
   go_enter Try.func33, Try.ntmps33
   go_wp2_with (first | ((with_reducible refine gate_dst (N := 1) rfl ?_); refine be_ 1 #[.slice A0_0 l0_0.length c0_0] 41 fun gb457 hg w6 hbox hb => ?_; have BK457 := Aside0.mk (hbox); have GW457 := ge_ hg HB; have GE457 := ge_ hg HB; replace HB := bs_ HB hb; clear hb hbox hg; have hcz7_0 := bc_ BK457; have hfz7_0 := blk_frozen BK457.out 0) | ((with_reducible refine gate_callee (f := 92) rfl ?_); refine gl_ 5 Try.func92 #[.agg #[.slice A0_0 l0_0.length c0_0]] ?_; (with_reducible refine (impl_IsSemigroup.calls k _ _ l0_0 true _ ?side1 ?side2 A2.out).mono ?_); (case side1 => exact cs_ HR0_0 HB); (case side2 => exact HC0_0.out); rintro e w8 ⟨rfl, hb⟩; refine ⟨_, rfl, ?_⟩; replace BK457 := bb_ BK457 hb; replace HB := bs_ HB hb; (try clear hb); (try clear hb2); (try clear hk); (try clear hi); have hcz9_0 := bc_ BK457; have hfz9_0 := blk_frozen BK457.out 0) | ((with_reducible refine gate_callee (f := 95) rfl ?_); refine gl_ 8 Try.func95 #[.agg #[.slice A0_0 l0_0.length c0_0]] ?_; (with_reducible refine (impl_GenusOf.calls k _ _ l0_0 t459 _ ?side1 ?side2 A4.out).mono ?_); (case side1 => exact cs_ HR0_0 HB); (case side2 => exact HC0_0.out); rintro e w10 ⟨rfl, hb⟩; refine ⟨_, rfl, ?_⟩; replace BK457 := bb_ BK457 hb; replace HB := bs_ HB hb; (try clear hb); (try clear hb2); (try clear hk); (try clear hi)))
   go_ret2
   exact ⟨er_, bl_ HB.out⟩
  ·rw [if_neg c5] at H
   have c5b0 : (t459 == 0) = false := beq_eq_false_iff_ne.mpr c5
   have c5b1 : (t459 != 0) = true := bne_iff_ne.mpr c5
   obtain ⟨t460, A11, H⟩ := ob_ H
   (try dsimp only at H)
   obtain ⟨t461, A12, H⟩ := ob_ H
   (try dsimp only at H)
   replace H := Option.bind_eq_some_iff.mp H
   obtain ⟨⟨t462, t463⟩, A130, H⟩ := H
   (try dsimp only at H)
   have A13 := Aside0.mk A130
   clear A130
   simp only [Option.some.injEq, Prod.mk.injEq] at H
   obtain ⟨rfl, rfl⟩ := H
   go_enter Try.func33, Try.ntmps33
   try go_wp2_with (first | ((with_reducible refine gate_dst (N := 1) rfl ?_); refine be_ 1 #[.slice A0_0 l0_0.length c0_0] 41 fun gb457 hg w14 hbox hb => ?_; have BK457 := Aside0.mk (hbox); have GW457 := ge_ hg HB; have GE457 := ge_ hg HB; replace HB := bs_ HB hb; clear hb hbox hg; have hcz15_0 := bc_ BK457; have hfz15_0 := blk_frozen BK457.out 0) | ((with_reducible refine gate_callee (f := 92) rfl ?_); refine gl_ 5 Try.func92 #[.agg #[.slice A0_0 l0_0.length c0_0]] ?_; (with_reducible refine (impl_IsSemigroup.calls k _ _ l0_0 true _ ?side1 ?side2 A2.out).mono ?_); (case side1 => exact cs_ HR0_0 HB); (case side2 => exact HC0_0.out); rintro e w16 ⟨rfl, hb⟩; refine ⟨_, rfl, ?_⟩; replace BK457 := bb_ BK457 hb; replace HB := bs_ HB hb; (try clear hb); (try clear hb2); (try clear hk); (try clear hi); have hcz17_0 := bc_ BK457; have hfz17_0 := blk_frozen BK457.out 0) | ((with_reducible refine gate_callee (f := 95) rfl ?_); refine gl_ 8 Try.func95 #[.agg #[.slice A0_0 l0_0.length c0_0]] ?_; (with_reducible refine (impl_GenusOf.calls k _ _ l0_0 t459 _ ?side1 ?side2 A4.out).mono ?_); (case side1 => exact cs_ HR0_0 HB); (case side2 => exact HC0_0.out); rintro e w18 ⟨rfl, hb⟩; refine ⟨_, rfl, ?_⟩; replace BK457 := bb_ BK457 hb; replace HB := bs_ HB hb; (try clear hb); (try clear hb2); (try clear hk); (try clear hi)))
   replace BK457 := Aside0.mk (blk_drew BK457.out)
   replace HB := Aside0.mk (below_drew1 HB.out)
   refine start_ (n := 9) (S := fun w' => w'.cell? ⟨gb457, 0, none⟩ = some (.slice A0_0 l0_0.length c0_0)) (ds := []) (fl_ 9 0) (by kernel_rfl) rfl rfl ((blk_cell BK457.out 0).trans rfl) (fun hHeld => ?_); refine with_tabW impl_SporadicDensity.tab5 impl_SporadicDensity.bits5 (fun HT_ HW_ => ?_)
   generalize w18.drew = w19 at BK457 HB hHeld ⊢
   refine ta_ 0 10 (fl_ 9 1) ?_
   refine ta_ 2 12 (fm_ 9 5) ?_
   refine on_ 1 11 (fl_ 9 3) fun K hK => ?_
   refine go_ Try.func32 #[.agg #[.slice A0_0 l0_0.length c0_0]] ?_
   with_reducible refine (impl_LeftCount.calls k _ _ l0_0 t460 _ ?side1 ?side2 A11.out).mono ?_
   (case side1 => exact cs_ HR0_0 HB)
   (case side2 => exact HC0_0.out)
   rintro e w20 ⟨rfl, hb⟩
   refine ⟨_, rfl, ?_⟩
   replace BK457 := bb_ BK457 hb
   replace HB := bs_ HB hb
   (try clear hb)
   (try clear hb2)
   (try clear hk)
   (try clear hi)
   refine hK.out _ _ ((blk_cell BK457.out 0).trans rfl) (fun hHeld => ?_)
   clear hK K
   refine no_ 11 ?_
   refine on_ 3 13 (fl_ 9 4) fun K hK => ?_
   refine go_ Try.func93 #[.agg #[.slice A0_0 l0_0.length c0_0]] ?_
   with_reducible refine (impl_ConductorOf.calls k _ _ l0_0 t461 _ ?side1 ?side2 A12.out).mono ?_
   (case side1 => exact cs_ HR0_0 HB)
   (case side2 => exact HC0_0.out)
   rintro e w21 ⟨rfl, hb⟩
   refine ⟨_, rfl, ?_⟩
   replace BK457 := bb_ BK457 hb
   replace HB := bs_ HB hb
   (try clear hb)
   (try clear hb2)
   (try clear hk)
   (try clear hi)
   refine hK.out _ _ ((blk_cell BK457.out 0).trans rfl) (fun hHeld => ?_)
   clear hK K
   refine no_ 13 ?_
   refine on_ 4 14 (fl_ 9 5) fun K hK => ?_
   refine go_ Try.func96 #[.int .i64 t460, .int .i64 t461] ?_
   with_reducible refine (impl_lowest.calls k t460 t461 t462 t463 _ A13.out).mono ?_
   rintro e w22 ⟨rfl, hb⟩
   refine ⟨_, rfl, ?_⟩
   replace BK457 := bb_ BK457 hb
   replace HB := bs_ HB hb
   (try clear hb)
   (try clear hb2)
   (try clear hk)
   (try clear hi)
   refine hK.out _ _ ((blk_cell BK457.out 0).trans rfl) (fun hHeld => ?_)
   clear hK K
   refine no_ 14 ?_
   refine pu_ 5 15 (fl_ 9 6) ?_
   refine pu_ 6 16 (fl_ 9 7) ?_
   refine pu_ 7 2 (fl_ 9 8) ?_
   refine pu_ 8 3 (fl_ 9 9) ?_
   refine done_ (done_of HT_.out (by kernel_rfl)) ?_
   try go_wp2
   go_ret2
   exact ⟨er_, bl_ HB.out⟩
 ·obtain rfl := Bool.eq_false_iff.mpr c3
  rw [if_neg nf_] at H
  simp only [Option.some.injEq, Prod.mk.injEq] at H
  obtain ⟨rfl, rfl⟩ := H
  go_enter Try.func33, Try.ntmps33
  go_wp2_with (first | ((with_reducible refine gate_dst (N := 1) rfl ?_); refine be_ 1 #[.slice A0_0 l0_0.length c0_0] 41 fun gb457 hg w23 hbox hb => ?_; have BK457 := Aside0.mk (hbox); have GW457 := ge_ hg HB; have GE457 := ge_ hg HB; replace HB := bs_ HB hb; clear hb hbox hg; have hcz24_0 := bc_ BK457; have hfz24_0 := blk_frozen BK457.out 0) | ((with_reducible refine gate_callee (f := 92) rfl ?_); refine gl_ 5 Try.func92 #[.agg #[.slice A0_0 l0_0.length c0_0]] ?_; (with_reducible refine (impl_IsSemigroup.calls k _ _ l0_0 false _ ?side1 ?side2 A2.out).mono ?_); (case side1 => exact cs_ HR0_0 HB); (case side2 => exact HC0_0.out); rintro e w25 ⟨rfl, hb⟩; refine ⟨_, rfl, ?_⟩; replace BK457 := bb_ BK457 hb; replace HB := bs_ HB hb; (try clear hb); (try clear hb2); (try clear hk); (try clear hi)))
  go_ret2
  exact ⟨er_, bl_ HB.out⟩
def spec_l4Gaps.l0 : Nat → List Int → List Bool → Int → Option (List Int)
 | 0, _, _, _ => none
 | k + 1, x3, x4, x5 => if x5 < 200 then (if 0 ≤ x5 then (if x5 < (x4.length : Int) then (if rdOf false x4 x5 = true then (spec_l4Gaps.l0 k x3 x4 (wrap64 (x5 + 1))) else (if x3.length < 17592186044416 then (spec_l4Gaps.l0 k (x3 ++ [x5]) x4 (wrap64 (x5 + 1))) else (none))) else (none)) else (none)) else (some x3)
def spec_l4Gaps.f (k : Nat) (l0_0 : List Int) : Option (List Int) := (spec_l3Table.f k l0_0 200).bind fun t468 => (spec_l4Gaps.l0 k (([] : List Int)) t468 1)
set_option maxHeartbeats 8000000 in
set_option maxRecDepth 100000 in
theorem spec_l4Gaps.calls (k : Nat) (A0_0 : Option Addr) (c0_0 : Nat) (l0_0 : List Int) (r : List Int) (w : World) (hr0_0 : Kd.C (Kd.int .i64) w A0_0 l0_0.length l0_0) (hc0_0 : l0_0.length ≤ c0_0) (h : spec_l4Gaps.f k l0_0 = some r) :
 Calls Try.prog 105 #[.agg #[.slice A0_0 l0_0.length c0_0]] w fun e w' => ∃ v0_ : Value, e = .returned (v0_) ∧ Kd.R (Kd.int .i64) 3 w' w.heap.size (fun _ => True) v0_ r ∧ Below w.heap.size w w' := by
 have hu41 := Try.underlying41
 have HR0_0 := Aside0.mk hr0_0
 have HC0_0 := Aside0.mk hc0_0
 clear hr0_0 hc0_0
 have HB := Aside0.mk (Below.refl w.heap.size w)
 have H := h
 clear h
 unfold spec_l4Gaps.f at H
 obtain ⟨y465, hy465⟩ : ∃ y_ : List Int, y_ = (([] : List Int)) := ⟨_, rfl⟩
 replace H : ((spec_l3Table.f k l0_0 200).bind fun t468 => (spec_l4Gaps.l0 k y465 t468 1)) = some r := by first | (rw [hy465]; with_reducible exact H) | (have H2_ := (Option.bind_some _ _).symm.trans H; rw [hy465]; with_reducible exact H2_) | (have H2_ := (Option.bind_some _ _).symm.trans H; with_reducible exact H2_) | with_reducible exact H | (rw [hy465]; exact H) | exact H
 have Ny465 := Aside0.mk hy465
 clear hy465
 obtain ⟨t468, A2, H⟩ := ob_ H
 (try dsimp only at H)
 have H' := Aside0.mk H
 clear H
 go_enter Try.func105, Try.ntmps105
 go_wp2_with (first | ((with_reducible refine gate_dst (N := 1) rfl ?_); refine be_ 1 #[.slice A0_0 l0_0.length c0_0] 41 fun gb464 hg w3 hbox hb => ?_; have BK464 := Aside0.mk (hbox); have GW464 := ge_ hg HB; have GE464 := ge_ hg HB; replace HB := bs_ HB hb; clear hb hbox hg) | ((with_reducible refine gate_dst (N := 6) rfl ?_); refine Kd.R_lit (Kd.int .i64) _ 3 ?hg (N := 6) ?hd (xs := ([] : List Int)) (inner := []) (ok := fun _ => True) (okp := fun _ => True) ?hr ?hp (fun _ hk => hk) trivial (Below.refl _ _) (Nat.le_refl _) (by simp) ?_; (case hd => rfl); (case hg => rfl); (case hr => first | (go_simp; done) | (go_simp; rfl)); (case hp => exact (Reps.none _ _)); intro v466 w4 ho5 hb hg_ hnew_; clear hg_ hnew_; (first | rw [← Ny465.out] at ho5 | (simp only [Int.reduceToNat] at ho5; rw [← Ny465.out] at ho5)); have HO467 := rl_ ho5 HB; replace BK464 := bb_ BK464 hb; replace HB := bs_ HB hb; clear hb ho5; have hcz6_0 := bc_ BK464; have hfz6_0 := blk_frozen BK464.out 0) | ((with_reducible refine gate_callee (f := 140) rfl ?_); refine gl_ 9 Try.func140 #[.slice A0_0 l0_0.length c0_0, .int .i64 200] ?_; (with_reducible refine (spec_l3Table.calls k _ _ l0_0 200 t468 _ ?side1 ?side2 A2.out).mono ?_); (case side1 => exact cs_ HR0_0 HB); (case side2 => exact HC0_0.out); rintro e w7 ⟨v469, rfl, ho0, hb⟩; refine ⟨_, rfl, ?_⟩; replace HO467 := rb_ HO467 hb; have HO470 := rl_ ho0 HB; replace BK464 := bb_ BK464 hb; replace HB := bs_ HB hb; (try clear hb); (try clear hb2); (try clear hk); (try clear hi); (try clear ho0)))
 go_loopg [3, 5] k (fun kq v3 v5 w' => ∃ (x3_1 : List Int) (x5_1 : Int), v5 = .int .i64 x5_1 ∧ Aside0 (spec_l4Gaps.l0 kq x3_1 t468 x5_1 = some r) ∧ Aside0 (kq ≤ k) ∧ Aside0 (Kd.R (Kd.int .i64) 3 w' w.heap.size (fun _ => True) v3 x3_1) ∧ Aside0 (Kd.R Kd.bool 4 w' w.heap.size (fun _ => True) v469 t468) ∧ Aside0 (w'.heap[gb464]? = some (.cells #[(.slice A0_0 l0_0.length c0_0)] 41 (0, 0))) ∧ Aside0 (Below w.heap.size w w'))
 case atStart => exact ⟨(y465), (1), sd_, H', ⟨Nat.le_refl _⟩, ⟨kr_ HO467.out⟩, ⟨kr_ HO470.out⟩, ⟨bk_ BK464.out⟩, ⟨bl_ HB.out⟩⟩
 case round =>
  clear H'
  try clear c1
  try clear p2
  try clear hcz6_0
  try clear hfz6_0
  obtain ⟨x3_1, x5_1, rfl, HA, HK1, HO_3, HO_4, BK464, HB⟩ := hrel
  cases gk with
  | zero => exact absurd HA.out (by simp [spec_l4Gaps.l0])
  | succ k1 =>
   have H := HA.out
   clear HA
   simp only [spec_l4Gaps.l0] at H
   by_cases c8 : x5_1 < 200
   ·rw [if_pos c8] at H
    have c8b0 : decide (x5_1 < 200) = true := decide_eq_true c8
    clear c8
    by_cases c9 : 0 ≤ x5_1
    ·rw [if_pos c9] at H
     have c9b0 : decide (0 ≤ x5_1) = true := decide_eq_true c9
     clear c9
     by_cases c10 : x5_1 < (t468.length : Int)
     ·rw [if_pos c10] at H
      have c10b0 : decide (x5_1 < (t468.length : Int)) = true := decide_eq_true c10
      clear c10
      obtain ⟨bq11, hbq11⟩ : ∃ b_ : Bool, b_ = (rdOf false t468 x5_1) := ⟨_, rfl⟩
      replace H : (if bq11 = true then (spec_l4Gaps.l0 k1 x3_1 t468 (wrap64 (x5_1 + 1))) else (if x3_1.length < 17592186044416 then (spec_l4Gaps.l0 k1 (x3_1 ++ [x5_1]) t468 (wrap64 (x5_1 + 1))) else (none))) = some r := by rw [← hbq11] at H; exact H
      have Nbq11 := Aside0.mk hbq11
      clear hbq11
      by_cases c12 : bq11 = true
      ·subst c12
       rw [if_pos rfl] at H
       have H' := Aside0.mk H
       clear H
       obtain ⟨Ao13, co13, eo13⟩ := Kd.R_slice HO_4.out
       subst eo13
       have p471 : 0 ≤ (x5_1 : Int) := od_
       have q471 : x5_1 < (t468.length : Int) := od_
       obtain ⟨ad471, e471, hx471_0⟩ := Kd.at_bool (Kd.R_reads' HO_4.out).2.2 x5_1 p471 q471
       (try rw [← Nbq11.out] at hx471_0)
       cases e471
       replace p471 := eq_true p471
       replace q471 := eq_true q471
       go_wp2
       go_roundg k1
       case measure => have := HK1.out; omega
       case rel => exact ⟨(x3_1), (wrap64 (x5_1 + 1)), sd_, H', ⟨by have := HK1.out; omega⟩, ⟨kr_ HO_3.out⟩, ⟨kr_ HO_4.out⟩, ⟨bk_ BK464.out⟩, ⟨bl_ HB.out⟩⟩
      ·obtain rfl := Bool.eq_false_iff.mpr c12
       rw [if_neg nf_] at H
       by_cases c14 : x3_1.length < 17592186044416
       ·rw [if_pos c14] at H
        have LMc14 := Aside0.mk c14
        clear c14
        obtain ⟨y472, hy472⟩ : ∃ y_ : List Int, y_ = (x3_1 ++ [x5_1]) := ⟨_, rfl⟩
        replace H : (spec_l4Gaps.l0 k1 y472 t468 (wrap64 (x5_1 + 1))) = some r := by first | (rw [hy472]; with_reducible exact H) | (have H2_ := (Option.bind_some _ _).symm.trans H; rw [hy472]; with_reducible exact H2_) | (have H2_ := (Option.bind_some _ _).symm.trans H; with_reducible exact H2_) | with_reducible exact H | (rw [hy472]; exact H) | exact H
        have Ny472 := Aside0.mk hy472
        clear hy472
        have H' := Aside0.mk H
        clear H
        obtain ⟨Ao15, co15, eo15⟩ := Kd.R_slice HO_4.out
        subst eo15
        have p471 : 0 ≤ (x5_1 : Int) := od_
        have q471 : x5_1 < (t468.length : Int) := od_
        obtain ⟨ad471, e471, hx471_0⟩ := Kd.at_bool (Kd.R_reads' HO_4.out).2.2 x5_1 p471 q471
        (try rw [← Nbq11.out] at hx471_0)
        cases e471
        replace p471 := eq_true p471
        replace q471 := eq_true q471
        go_wp2_with (first | ((with_reducible refine gate_builtin (b := .append) (xs := #[.tmp 19, .tmp 21]) rfl ?_); at_builtin; refine Kd.R_append (Kd.int .i64) (w0 := w) w.heap.size rfl (.tmp 19) (.tmp 21) 22 3 (.int .i64 0) 8 rfl Try.underlying22 info3 rfl (by decide) (by omega) u3 x3_1 x5_1 [.int .i64 x5_1] (fun _ => True) (fun _ => False) rfl rfl ?aP (fun _ hk => hk.elim) ?aF ?aO ?aB ?aS ?aL ?_; (case aP => exact rfl); (case aB => exact (bl_ HB.out)); (case aF => exact (fun _ _ => trivial)); (case aO => exact (kr_ HO_3.out)); (case aS => exact (below_size (bl_ HB.out))); (case aL => have := LMc14.out; omega); intro v473 w16 ho hb hg hat; rw [← Ny472.out] at ho; have n0_ := Aside0.mk (Kd.R_over' (kr_ HO_4.out) (Kd.R_typed (kr_ HO_3.out)) (by decide) hg); have n1_ := Aside0.mk (blk_grown (g := gb464) (o := .cells #[.slice A0_0 l0_0.length c0_0] 41 (0, 0)) (bk_ BK464.out) hg (Kd.R_ne HO_3.out BK464.out (by decide))); have n2_ := Aside0.mk (hb); have n3_ := Aside0.mk (ho); clear HO_4; clear BK464; clear HB; clear HO_3; have HO_4 := n0_; have BK464 := n1_; have HB := n2_; have HO474 := n3_; clear n0_ n1_ n2_ n3_; clear ho hb hg hat))
        go_roundg k1
        case measure => have := HK1.out; omega
        case rel => exact ⟨(y472), (wrap64 (x5_1 + 1)), sd_, H', ⟨by have := HK1.out; omega⟩, ⟨kr_ HO474.out⟩, ⟨kr_ HO_4.out⟩, ⟨bk_ BK464.out⟩, ⟨bl_ HB.out⟩⟩
       ·rw [if_neg c14] at H
        exact absurd H (by simp)
     ·rw [if_neg c10] at H
      exact absurd H (by simp)
    ·rw [if_neg c9] at H
     exact absurd H (by simp)
   ·rw [if_neg c8] at H
    have c8b0 : decide (x5_1 < 200) = false := decide_eq_false c8
    clear c8
    obtain rfl := Option.some.inj H
    go_wp2
    go_ret
    exact ⟨_, er_, kr_ HO_3.out, bl_ HB.out⟩
def spec_Gaps.f (k : Nat) (l0_0 : List Int) : Option (List Int) := (spec_IsSemigroup.f k l0_0).bind fun t476 => (if t476 = true then ((spec_l4Gaps.f k l0_0).bind fun t477 => (some t477)) else (some (([] : List Int))))
set_option maxHeartbeats 8000000 in
set_option maxRecDepth 100000 in
theorem spec_Gaps.calls (k : Nat) (A0_0 : Option Addr) (c0_0 : Nat) (l0_0 : List Int) (r : List Int) (w : World) (hr0_0 : Kd.C (Kd.int .i64) w A0_0 l0_0.length l0_0) (hc0_0 : l0_0.length ≤ c0_0) (h : spec_Gaps.f k l0_0 = some r) :
 Calls Try.prog 128 #[.agg #[.slice A0_0 l0_0.length c0_0]] w fun e w' => ∃ v0_ : Value, e = .returned (v0_) ∧ Kd.R (Kd.int .i64) 3 w' w.heap.size (fun _ => True) v0_ r ∧ Below w.heap.size w w' := by
 have hu41 := Try.underlying41
 have HR0_0 := Aside0.mk hr0_0
 have HC0_0 := Aside0.mk hc0_0
 clear hr0_0 hc0_0
 have HB := Aside0.mk (Below.refl w.heap.size w)
 have H := h
 clear h
 unfold spec_Gaps.f at H
 obtain ⟨t476, A2, H⟩ := ob_ H
 (try dsimp only at H)
 by_cases c3 : t476 = true
 ·subst c3
  rw [if_pos rfl] at H
  obtain ⟨t477, A4, H⟩ := ob_ H
  (try dsimp only at H)
  obtain rfl := Option.some.inj H
  go_enter Try.func128, Try.ntmps128
  go_wp2_with (first | ((with_reducible refine gate_dst (N := 1) rfl ?_); refine be_ 1 #[.slice A0_0 l0_0.length c0_0] 41 fun gb475 hg w5 hbox hb => ?_; have BK475 := Aside0.mk (hbox); have GW475 := ge_ hg HB; have GE475 := ge_ hg HB; replace HB := bs_ HB hb; clear hb hbox hg; have hcz6_0 := bc_ BK475; have hfz6_0 := blk_frozen BK475.out 0) | ((with_reducible refine gate_callee (f := 41) rfl ?_); refine gl_ 4 Try.func41 #[.agg #[.slice A0_0 l0_0.length c0_0]] ?_; (with_reducible refine (spec_IsSemigroup.calls k _ _ l0_0 true _ ?side1 ?side2 A2.out).mono ?_); (case side1 => exact cs_ HR0_0 HB); (case side2 => exact HC0_0.out); rintro e w7 ⟨rfl, hb⟩; refine ⟨_, rfl, ?_⟩; replace BK475 := bb_ BK475 hb; replace HB := bs_ HB hb; (try clear hb); (try clear hb2); (try clear hk); (try clear hi); have hcz8_0 := bc_ BK475; have hfz8_0 := blk_frozen BK475.out 0) | ((with_reducible refine gate_callee (f := 105) rfl ?_); refine gl_ 8 Try.func105 #[.agg #[.slice A0_0 l0_0.length c0_0]] ?_; (with_reducible refine (spec_l4Gaps.calls k _ _ l0_0 t477 _ ?side1 ?side2 A4.out).mono ?_); (case side1 => exact cs_ HR0_0 HB); (case side2 => exact HC0_0.out); rintro e w9 ⟨v478, rfl, ho0, hb⟩; refine ⟨_, rfl, ?_⟩; have HO479 := rl_ ho0 HB; replace BK475 := bb_ BK475 hb; replace HB := bs_ HB hb; (try clear hb); (try clear hb2); (try clear hk); (try clear hi); (try clear ho0)))
  go_ret
  exact ⟨_, er_, kr_ HO479.out, bl_ HB.out⟩
 ·obtain rfl := Bool.eq_false_iff.mpr c3
  rw [if_neg nf_] at H
  obtain ⟨y480, hy480⟩ : ∃ y_ : List Int, y_ = (([] : List Int)) := ⟨_, rfl⟩
  replace H : (some y480) = some r := by first | (rw [hy480]; with_reducible exact H) | (have H2_ := (Option.bind_some _ _).symm.trans H; rw [hy480]; with_reducible exact H2_) | (have H2_ := (Option.bind_some _ _).symm.trans H; with_reducible exact H2_) | with_reducible exact H | (rw [hy480]; exact H) | exact H
  have Ny480 := Aside0.mk hy480
  clear hy480
  obtain rfl := Option.some.inj H
  go_enter Try.func128, Try.ntmps128
  go_wp2_with (first | ((with_reducible refine gate_dst (N := 1) rfl ?_); refine be_ 1 #[.slice A0_0 l0_0.length c0_0] 41 fun gb475 hg w10 hbox hb => ?_; have BK475 := Aside0.mk (hbox); have GW475 := ge_ hg HB; have GE475 := ge_ hg HB; replace HB := bs_ HB hb; clear hb hbox hg; have hcz11_0 := bc_ BK475; have hfz11_0 := blk_frozen BK475.out 0) | ((with_reducible refine gate_callee (f := 41) rfl ?_); refine gl_ 4 Try.func41 #[.agg #[.slice A0_0 l0_0.length c0_0]] ?_; (with_reducible refine (spec_IsSemigroup.calls k _ _ l0_0 false _ ?side1 ?side2 A2.out).mono ?_); (case side1 => exact cs_ HR0_0 HB); (case side2 => exact HC0_0.out); rintro e w12 ⟨rfl, hb⟩; refine ⟨_, rfl, ?_⟩; replace BK475 := bb_ BK475 hb; replace HB := bs_ HB hb; (try clear hb); (try clear hb2); (try clear hk); (try clear hi)) | ((with_reducible refine gate_dst (N := 6) rfl ?_); refine Kd.R_lit (Kd.int .i64) _ 3 ?hg (N := 6) ?hd (xs := ([] : List Int)) (inner := []) (ok := fun _ => True) (okp := fun _ => True) ?hr ?hp (fun _ hk => hk) trivial (Below.refl _ _) (Nat.le_refl _) (by simp) ?_; (case hd => rfl); (case hg => rfl); (case hr => first | (go_simp; done) | (go_simp; rfl)); (case hp => exact (Reps.none _ _)); intro v481 w13 ho14 hb hg_ hnew_; clear hg_ hnew_; (first | rw [← Ny480.out] at ho14 | (simp only [Int.reduceToNat] at ho14; rw [← Ny480.out] at ho14)); have HO482 := rl_ ho14 HB; replace BK475 := bb_ BK475 hb; replace HB := bs_ HB hb; clear hb ho14))
  go_ret
  exact ⟨_, er_, kr_ HO482.out, bl_ HB.out⟩
def spec_FrobeniusOf.f (k : Nat) (l0_0 : List Int) : Option (Int) := (spec_Gaps.f k l0_0).bind fun t484 => (if (t484.length : Int) = 0 then (some (-1)) else (if 0 ≤ (wrap64 ((t484.length : Int) - 1)) then (if (wrap64 ((t484.length : Int) - 1)) < (t484.length : Int) then (some (rd t484 (wrap64 ((t484.length : Int) - 1)))) else (none)) else (none)))
set_option maxHeartbeats 8000000 in
set_option maxRecDepth 100000 in
theorem spec_FrobeniusOf.calls (k : Nat) (A0_0 : Option Addr) (c0_0 : Nat) (l0_0 : List Int) (r : Int) (w : World) (hr0_0 : Kd.C (Kd.int .i64) w A0_0 l0_0.length l0_0) (hc0_0 : l0_0.length ≤ c0_0) (h : spec_FrobeniusOf.f k l0_0 = some r) :
 Calls Try.prog 72 #[.agg #[.slice A0_0 l0_0.length c0_0]] w fun e w' => e = .returned (.int .i64 r) ∧ Below w.heap.size w w' := by
 have hu41 := Try.underlying41
 have HR0_0 := Aside0.mk hr0_0
 have HC0_0 := Aside0.mk hc0_0
 clear hr0_0 hc0_0
 have HB := Aside0.mk (Below.refl w.heap.size w)
 have H := h
 clear h
 unfold spec_FrobeniusOf.f at H
 obtain ⟨t484, A2, H⟩ := ob_ H
 (try dsimp only at H)
 by_cases c3 : (t484.length : Int) = 0
 ·rw [if_pos c3] at H
  have c3b0 : ((t484.length : Int) == 0) = true := beq_iff_eq.mpr c3
  have c3b1 : ((t484.length : Int) != 0) = false := bne_eq_false_iff_eq.mpr c3
  clear c3
  obtain rfl := Option.some.inj H
  go_enter Try.func72, Try.ntmps72
  go_wp2_with (first | ((with_reducible refine gate_dst (N := 1) rfl ?_); refine be_ 1 #[.slice A0_0 l0_0.length c0_0] 41 fun gb483 hg w4 hbox hb => ?_; have BK483 := Aside0.mk (hbox); have GW483 := ge_ hg HB; have GE483 := ge_ hg HB; replace HB := bs_ HB hb; clear hb hbox hg; have hcz5_0 := bc_ BK483; have hfz5_0 := blk_frozen BK483.out 0) | ((with_reducible refine gate_callee (f := 128) rfl ?_); refine gl_ 5 Try.func128 #[.agg #[.slice A0_0 l0_0.length c0_0]] ?_; (with_reducible refine (spec_Gaps.calls k _ _ l0_0 t484 _ ?side1 ?side2 A2.out).mono ?_); (case side1 => exact cs_ HR0_0 HB); (case side2 => exact HC0_0.out); rintro e w6 ⟨v485, rfl, ho0, hb⟩; refine ⟨_, rfl, ?_⟩; have HO486 := rl_ ho0 HB; replace BK483 := bb_ BK483 hb; replace HB := bs_ HB hb; (try clear hb); (try clear hb2); (try clear hk); (try clear hi); (try clear ho0); obtain ⟨Ao7, co7, eo7⟩ := Kd.R_slice HO486.out; subst eo7))
  go_ret
  exact ⟨er_, bl_ HB.out⟩
 ·rw [if_neg c3] at H
  have c3b0 : ((t484.length : Int) == 0) = false := beq_eq_false_iff_ne.mpr c3
  have c3b1 : ((t484.length : Int) != 0) = true := bne_iff_ne.mpr c3
  have c3b2 : ¬ (t484 = []) := fun h_ => c3 (by rw [h_]; rfl)
  obtain ⟨ji8, hji8⟩ : ∃ j_ : Int, (wrap64 ((t484.length : Int) - 1)) = j_ := ⟨_, rfl⟩
  replace H : (if 0 ≤ (ji8) then (if (ji8) < (t484.length : Int) then (some (rd t484 (ji8))) else (none)) else (none)) = some r := by first | (rw [hji8] at H; exact H) | (simp only [hji8] at H ⊢; exact H)
  (try rw [hji8] at A2)
  have hji8w : (IntKind.i64.wrap ((t484.length : Int) - 1)) = ji8 := (i64_w _).trans hji8
  by_cases c9 : 0 ≤ (ji8)
  ·rw [if_pos c9] at H
   have c9b0 : decide (0 ≤ (ji8)) = true := decide_eq_true c9
   clear c9
   by_cases c10 : (ji8) < (t484.length : Int)
   ·rw [if_pos c10] at H
    have c10b0 : decide ((ji8) < (t484.length : Int)) = true := decide_eq_true c10
    clear c10
    obtain rfl := Option.some.inj H
    go_enter Try.func72, Try.ntmps72
    go_wp2_with (first | ((with_reducible refine gate_dst (N := 1) rfl ?_); refine be_ 1 #[.slice A0_0 l0_0.length c0_0] 41 fun gb483 hg w11 hbox hb => ?_; have BK483 := Aside0.mk (hbox); have GW483 := ge_ hg HB; have GE483 := ge_ hg HB; replace HB := bs_ HB hb; clear hb hbox hg; have hcz12_0 := bc_ BK483; have hfz12_0 := blk_frozen BK483.out 0) | ((with_reducible refine gate_callee (f := 128) rfl ?_); refine gl_ 5 Try.func128 #[.agg #[.slice A0_0 l0_0.length c0_0]] ?_; (with_reducible refine (spec_Gaps.calls k _ _ l0_0 t484 _ ?side1 ?side2 A2.out).mono ?_); (case side1 => exact cs_ HR0_0 HB); (case side2 => exact HC0_0.out); rintro e w13 ⟨v485, rfl, ho0, hb⟩; refine ⟨_, rfl, ?_⟩; have HO486 := rl_ ho0 HB; replace BK483 := bb_ BK483 hb; replace HB := bs_ HB hb; (try clear hb); (try clear hb2); (try clear hk); (try clear hi); (try clear ho0); obtain ⟨Ao14, co14, eo14⟩ := Kd.R_slice HO486.out; subst eo14; have p487 : 0 ≤ ((ji8) : Int) := od_; have q487 : (ji8) < (t484.length : Int) := od_; obtain ⟨ad487, e487, hx487_0⟩ := Kd.at_int (Kd.R_reads' HO486.out).2.2 (ji8) p487 q487; cases e487; replace p487 := eq_true p487; replace q487 := eq_true q487))
    go_ret
    exact ⟨by first | rfl | (simp [errW_none, errW_some] <;> rfl) | (simp only [← hji8]; first | rfl | (simp [errW_none, errW_some] <;> rfl)) | (simp [*, errW_none, errW_some] <;> rfl), bl_ HB.out⟩
   ·rw [if_neg c10] at H
    exact absurd H (by simp)
  ·rw [if_neg c9] at H
   exact absurd H (by simp)
def spec_ConductorOf.f (k : Nat) (l0_0 : List Int) : Option (Int) := (spec_FrobeniusOf.f k l0_0).bind fun t489 => (some (wrap64 (t489 + 1)))
set_option maxHeartbeats 8000000 in
set_option maxRecDepth 100000 in
theorem spec_ConductorOf.calls (k : Nat) (A0_0 : Option Addr) (c0_0 : Nat) (l0_0 : List Int) (r : Int) (w : World) (hr0_0 : Kd.C (Kd.int .i64) w A0_0 l0_0.length l0_0) (hc0_0 : l0_0.length ≤ c0_0) (h : spec_ConductorOf.f k l0_0 = some r) :
 Calls Try.prog 44 #[.agg #[.slice A0_0 l0_0.length c0_0]] w fun e w' => e = .returned (.int .i64 r) ∧ Below w.heap.size w w' := by
 have hu41 := Try.underlying41
 have HR0_0 := Aside0.mk hr0_0
 have HC0_0 := Aside0.mk hc0_0
 clear hr0_0 hc0_0
 have HB := Aside0.mk (Below.refl w.heap.size w)
 have H := h
 clear h
 unfold spec_ConductorOf.f at H
 obtain ⟨t489, A2, H⟩ := ob_ H
 (try dsimp only at H)
 obtain rfl := Option.some.inj H
 go_enter Try.func44, Try.ntmps44
 go_wp2_with (first | ((with_reducible refine gate_dst (N := 1) rfl ?_); refine be_ 1 #[.slice A0_0 l0_0.length c0_0] 41 fun gb488 hg w3 hbox hb => ?_; have BK488 := Aside0.mk (hbox); have GW488 := ge_ hg HB; have GE488 := ge_ hg HB; replace HB := bs_ HB hb; clear hb hbox hg; have hcz4_0 := bc_ BK488; have hfz4_0 := blk_frozen BK488.out 0) | ((with_reducible refine gate_callee (f := 72) rfl ?_); refine gl_ 4 Try.func72 #[.agg #[.slice A0_0 l0_0.length c0_0]] ?_; (with_reducible refine (spec_FrobeniusOf.calls k _ _ l0_0 t489 _ ?side1 ?side2 A2.out).mono ?_); (case side1 => exact cs_ HR0_0 HB); (case side2 => exact HC0_0.out); rintro e w5 ⟨rfl, hb⟩; refine ⟨_, rfl, ?_⟩; replace BK488 := bb_ BK488 hb; replace HB := bs_ HB hb; (try clear hb); (try clear hb2); (try clear hk); (try clear hi)))
 go_ret
 exact ⟨er_, bl_ HB.out⟩
end Go.Proofs.Ytbjbolblahlhcaa.PFnWilf
end
section
namespace Go.Proofs.Ytbjbolblahlhcaa.PFnWilf
open Go.RowKit Go.Proofs.YtbjbolblahlhcaaW.PrintWords Go.Proofs.YtbjbolblahlhcaaW.PrintLast Go.Proofs.YtbjbolblahlhcaaW.PrintMore
open Go.Proofs.Ytbjbolblahlhcaa.SortW (bk_ kr_ t_ f_)
open Go.Proofs.Ytbjbolblahlhcaa.SqW
attribute [local go_sem] max2_int min2_int max_two min_two max_three min_three max_four min_four
set_option linter.unusedVariables false
set_option linter.unusedSimpArgs false
def spec_l4Small.l0 : Nat → Int → List Int → List Bool → Int → Option (List Int)
 | 0, _, _, _, _ => none
 | k + 1, x1, x5, x6, x7 => if x7 < x1 then (if 0 ≤ x7 then (if x7 < (x6.length : Int) then (if rdOf false x6 x7 = true then (if x5.length < 17592186044416 then (spec_l4Small.l0 k x1 (x5 ++ [x7]) x6 (wrap64 (x7 + 1))) else (none)) else (spec_l4Small.l0 k x1 x5 x6 (wrap64 (x7 + 1)))) else (none)) else (none)) else (some x5)
def spec_l4Small.f (k : Nat) (l0_0 : List Int) (a1 : Int) : Option (List Int) := (some (([] : List Int) : List Int)).bind fun y491 => (if a1 < 1 then (some y491) else ((spec_l3Table.f k l0_0 a1).bind fun t494 => (spec_l4Small.l0 k a1 y491 t494 0)))
set_option maxHeartbeats 8000000 in
set_option maxRecDepth 100000 in
theorem spec_l4Small.calls (k : Nat) (A0_0 : Option Addr) (c0_0 : Nat) (l0_0 : List Int) (a1 : Int) (r : List Int) (w : World) (hr0_0 : Kd.C (Kd.int .i64) w A0_0 l0_0.length l0_0) (hc0_0 : l0_0.length ≤ c0_0) (h : spec_l4Small.f k l0_0 a1 = some r) :
 Calls Try.prog 138 #[.agg #[.slice A0_0 l0_0.length c0_0], .int .i64 a1] w fun e w' => ∃ v0_ : Value, e = .returned (v0_) ∧ Kd.R (Kd.int .i64) 3 w' w.heap.size (fun _ => True) v0_ r ∧ Below w.heap.size w w' := by
 have hu41 := Try.underlying41
 have HR0_0 := Aside0.mk hr0_0
 have HC0_0 := Aside0.mk hc0_0
 clear hr0_0 hc0_0
 have HB := Aside0.mk (Below.refl w.heap.size w)
 have H := h
 clear h
 unfold spec_l4Small.f at H
 obtain ⟨y491, hy491⟩ : ∃ y_ : List Int, y_ = (([] : List Int)) := ⟨_, rfl⟩
 replace H : (if a1 < 1 then (some y491) else ((spec_l3Table.f k l0_0 a1).bind fun t494 => (spec_l4Small.l0 k a1 y491 t494 0))) = some r := by first | (rw [hy491]; with_reducible exact H) | (have H2_ := (Option.bind_some _ _).symm.trans H; rw [hy491]; with_reducible exact H2_) | (have H2_ := (Option.bind_some _ _).symm.trans H; with_reducible exact H2_) | with_reducible exact H | (rw [hy491]; exact H) | exact H
 have Ny491 := Aside0.mk hy491
 clear hy491
 by_cases c3 : a1 < 1
 ·rw [if_pos c3] at H
  have c3b0 : decide (a1 < 1) = true := decide_eq_true c3
  clear c3
  obtain rfl := Option.some.inj H
  go_enter Try.func138, Try.ntmps138
  go_wp2_with (first | ((with_reducible refine gate_dst (N := 2) rfl ?_); refine be_ 2 #[.slice A0_0 l0_0.length c0_0] 41 fun gb490 hg w4 hbox hb => ?_; have BK490 := Aside0.mk (hbox); have GW490 := ge_ hg HB; have GE490 := ge_ hg HB; replace HB := bs_ HB hb; clear hb hbox hg) | ((with_reducible refine gate_dst (N := 8) rfl ?_); refine Kd.R_lit (Kd.int .i64) _ 3 ?hg (N := 8) ?hd (xs := ([] : List Int)) (inner := []) (ok := fun _ => True) (okp := fun _ => True) ?hr ?hp (fun _ hk => hk) trivial (Below.refl _ _) (Nat.le_refl _) (by simp) ?_; (case hd => rfl); (case hg => rfl); (case hr => first | (go_simp; done) | (go_simp; rfl)); (case hp => exact (Reps.none _ _)); intro v492 w5 ho6 hb hg_ hnew_; clear hg_ hnew_; (first | rw [← Ny491.out] at ho6 | (simp only [Int.reduceToNat] at ho6; rw [← Ny491.out] at ho6)); have HO493 := rl_ ho6 HB; replace BK490 := bb_ BK490 hb; replace HB := bs_ HB hb; clear hb ho6))
  go_ret
  exact ⟨_, er_, kr_ HO493.out, bl_ HB.out⟩
 ·rw [if_neg c3] at H
  have c3b0 : decide (a1 < 1) = false := decide_eq_false c3
  clear c3
  obtain ⟨t494, A7, H⟩ := ob_ H
  (try dsimp only at H)
  have H' := Aside0.mk H
  clear H
  go_enter Try.func138, Try.ntmps138
  go_wp2_with (first | ((with_reducible refine gate_dst (N := 2) rfl ?_); refine be_ 2 #[.slice A0_0 l0_0.length c0_0] 41 fun gb490 hg w8 hbox hb => ?_; have BK490 := Aside0.mk (hbox); have GW490 := ge_ hg HB; have GE490 := ge_ hg HB; replace HB := bs_ HB hb; clear hb hbox hg) | ((with_reducible refine gate_dst (N := 8) rfl ?_); refine Kd.R_lit (Kd.int .i64) _ 3 ?hg (N := 8) ?hd (xs := ([] : List Int)) (inner := []) (ok := fun _ => True) (okp := fun _ => True) ?hr ?hp (fun _ hk => hk) trivial (Below.refl _ _) (Nat.le_refl _) (by simp) ?_; (case hd => rfl); (case hg => rfl); (case hr => first | (go_simp; done) | (go_simp; rfl)); (case hp => exact (Reps.none _ _)); intro v492 w9 ho10 hb hg_ hnew_; clear hg_ hnew_; (first | rw [← Ny491.out] at ho10 | (simp only [Int.reduceToNat] at ho10; rw [← Ny491.out] at ho10)); have HO493 := rl_ ho10 HB; replace BK490 := bb_ BK490 hb; replace HB := bs_ HB hb; clear hb ho10; have hcz11_0 := bc_ BK490; have hfz11_0 := blk_frozen BK490.out 0) | ((with_reducible refine gate_callee (f := 140) rfl ?_); refine gl_ 15 Try.func140 #[.slice A0_0 l0_0.length c0_0, .int .i64 a1] ?_; (with_reducible refine (spec_l3Table.calls k _ _ l0_0 a1 t494 _ ?side1 ?side2 A7.out).mono ?_); (case side1 => exact cs_ HR0_0 HB); (case side2 => exact HC0_0.out); rintro e w12 ⟨v495, rfl, ho0, hb⟩; refine ⟨_, rfl, ?_⟩; replace HO493 := rb_ HO493 hb; have HO496 := rl_ ho0 HB; replace BK490 := bb_ BK490 hb; replace HB := bs_ HB hb; (try clear hb); (try clear hb2); (try clear hk); (try clear hi); (try clear ho0)))
  go_loopg [5, 7] k (fun kq v5 v7 w' => ∃ (x5_1 : List Int) (x7_1 : Int), v7 = .int .i64 x7_1 ∧ Aside0 (spec_l4Small.l0 kq a1 x5_1 t494 x7_1 = some r) ∧ Aside0 (kq ≤ k) ∧ Aside0 (Kd.R (Kd.int .i64) 3 w' w.heap.size (fun _ => True) v5 x5_1) ∧ Aside0 (Kd.R Kd.bool 4 w' w.heap.size (fun _ => True) v495 t494) ∧ Aside0 (w'.heap[gb490]? = some (.cells #[(.slice A0_0 l0_0.length c0_0)] 41 (0, 0))) ∧ Aside0 (Below w.heap.size w w'))
  case atStart => exact ⟨(y491), (0), sd_, H', ⟨Nat.le_refl _⟩, ⟨kr_ HO493.out⟩, ⟨kr_ HO496.out⟩, ⟨bk_ BK490.out⟩, ⟨bl_ HB.out⟩⟩
  case round =>
   clear H'
   try clear c1
   try clear p2
   try clear c3
   try clear c3b0
   try clear hcz11_0
   try clear hfz11_0
   obtain ⟨x5_1, x7_1, rfl, HA, HK1, HO_5, HO_6, BK490, HB⟩ := hrel
   cases gk with
   | zero => exact absurd HA.out (by simp [spec_l4Small.l0])
   | succ k1 =>
    have H := HA.out
    clear HA
    simp only [spec_l4Small.l0] at H
    by_cases c13 : x7_1 < a1
    ·rw [if_pos c13] at H
     have c13b0 : decide (x7_1 < a1) = true := decide_eq_true c13
     clear c13
     by_cases c14 : 0 ≤ x7_1
     ·rw [if_pos c14] at H
      have c14b0 : decide (0 ≤ x7_1) = true := decide_eq_true c14
      clear c14
      by_cases c15 : x7_1 < (t494.length : Int)
      ·rw [if_pos c15] at H
       have c15b0 : decide (x7_1 < (t494.length : Int)) = true := decide_eq_true c15
       clear c15
       obtain ⟨bq16, hbq16⟩ : ∃ b_ : Bool, b_ = (rdOf false t494 x7_1) := ⟨_, rfl⟩
       replace H : (if bq16 = true then (if x5_1.length < 17592186044416 then (spec_l4Small.l0 k1 a1 (x5_1 ++ [x7_1]) t494 (wrap64 (x7_1 + 1))) else (none)) else (spec_l4Small.l0 k1 a1 x5_1 t494 (wrap64 (x7_1 + 1)))) = some r := by rw [← hbq16] at H; exact H
       have Nbq16 := Aside0.mk hbq16
       clear hbq16
       by_cases c17 : bq16 = true
       ·subst c17
        rw [if_pos rfl] at H
        by_cases c18 : x5_1.length < 17592186044416
        ·rw [if_pos c18] at H
         have LMc18 := Aside0.mk c18
         clear c18
         obtain ⟨y498, hy498⟩ : ∃ y_ : List Int, y_ = (x5_1 ++ [x7_1]) := ⟨_, rfl⟩
         replace H : (spec_l4Small.l0 k1 a1 y498 t494 (wrap64 (x7_1 + 1))) = some r := by first | (rw [hy498]; with_reducible exact H) | (have H2_ := (Option.bind_some _ _).symm.trans H; rw [hy498]; with_reducible exact H2_) | (have H2_ := (Option.bind_some _ _).symm.trans H; with_reducible exact H2_) | with_reducible exact H | (rw [hy498]; exact H) | exact H
         have Ny498 := Aside0.mk hy498
         clear hy498
         have H' := Aside0.mk H
         clear H
         obtain ⟨Ao19, co19, eo19⟩ := Kd.R_slice HO_6.out
         subst eo19
         have p497 : 0 ≤ (x7_1 : Int) := od_
         have q497 : x7_1 < (t494.length : Int) := od_
         obtain ⟨ad497, e497, hx497_0⟩ := Kd.at_bool (Kd.R_reads' HO_6.out).2.2 x7_1 p497 q497
         (try rw [← Nbq16.out] at hx497_0)
         cases e497
         replace p497 := eq_true p497
         replace q497 := eq_true q497
         go_wp2_with (first | ((with_reducible refine gate_builtin (b := .append) (xs := #[.tmp 25, .tmp 27]) rfl ?_); at_builtin; refine Kd.R_append (Kd.int .i64) (w0 := w) w.heap.size rfl (.tmp 25) (.tmp 27) 22 3 (.int .i64 0) 8 rfl Try.underlying22 info3 rfl (by decide) (by omega) u5 x5_1 x7_1 [.int .i64 x7_1] (fun _ => True) (fun _ => False) rfl rfl ?aP (fun _ hk => hk.elim) ?aF ?aO ?aB ?aS ?aL ?_; (case aP => exact rfl); (case aB => exact (bl_ HB.out)); (case aF => exact (fun _ _ => trivial)); (case aO => exact (kr_ HO_5.out)); (case aS => exact (below_size (bl_ HB.out))); (case aL => have := LMc18.out; omega); intro v499 w20 ho hb hg hat; rw [← Ny498.out] at ho; have n0_ := Aside0.mk (Kd.R_over' (kr_ HO_6.out) (Kd.R_typed (kr_ HO_5.out)) (by decide) hg); have n1_ := Aside0.mk (blk_grown (g := gb490) (o := .cells #[.slice A0_0 l0_0.length c0_0] 41 (0, 0)) (bk_ BK490.out) hg (Kd.R_ne HO_5.out BK490.out (by decide))); have n2_ := Aside0.mk (hb); have n3_ := Aside0.mk (ho); clear HO_6; clear BK490; clear HB; clear HO_5; have HO_6 := n0_; have BK490 := n1_; have HB := n2_; have HO500 := n3_; clear n0_ n1_ n2_ n3_; clear ho hb hg hat))
         go_roundg k1
         case measure => have := HK1.out; omega
         case rel => exact ⟨(y498), (wrap64 (x7_1 + 1)), sd_, H', ⟨by have := HK1.out; omega⟩, ⟨kr_ HO500.out⟩, ⟨kr_ HO_6.out⟩, ⟨bk_ BK490.out⟩, ⟨bl_ HB.out⟩⟩
        ·rw [if_neg c18] at H
         exact absurd H (by simp)
       ·obtain rfl := Bool.eq_false_iff.mpr c17
        rw [if_neg nf_] at H
        have H' := Aside0.mk H
        clear H
        obtain ⟨Ao21, co21, eo21⟩ := Kd.R_slice HO_6.out
        subst eo21
        have p497 : 0 ≤ (x7_1 : Int) := od_
        have q497 : x7_1 < (t494.length : Int) := od_
        obtain ⟨ad497, e497, hx497_0⟩ := Kd.at_bool (Kd.R_reads' HO_6.out).2.2 x7_1 p497 q497
        (try rw [← Nbq16.out] at hx497_0)
        cases e497
        replace p497 := eq_true p497
        replace q497 := eq_true q497
        go_wp2
        go_roundg k1
        case measure => have := HK1.out; omega
        case rel => exact ⟨(x5_1), (wrap64 (x7_1 + 1)), sd_, H', ⟨by have := HK1.out; omega⟩, ⟨kr_ HO_5.out⟩, ⟨kr_ HO_6.out⟩, ⟨bk_ BK490.out⟩, ⟨bl_ HB.out⟩⟩
      ·rw [if_neg c15] at H
       exact absurd H (by simp)
     ·rw [if_neg c14] at H
      exact absurd H (by simp)
    ·rw [if_neg c13] at H
     have c13b0 : decide (x7_1 < a1) = false := decide_eq_false c13
     clear c13
     obtain rfl := Option.some.inj H
     go_wp2
     go_ret
     exact ⟨_, er_, kr_ HO_5.out, bl_ HB.out⟩
def spec_SmallElements.f (k : Nat) (l0_0 : List Int) : Option (List Int) := (spec_IsSemigroup.f k l0_0).bind fun t502 => (if t502 = true then ((spec_ConductorOf.f k l0_0).bind fun t503 => ((spec_l4Small.f k l0_0 t503).bind fun t504 => (some t504))) else (some (([] : List Int))))
set_option maxHeartbeats 8000000 in
set_option maxRecDepth 100000 in
theorem spec_SmallElements.calls (k : Nat) (A0_0 : Option Addr) (c0_0 : Nat) (l0_0 : List Int) (r : List Int) (w : World) (hr0_0 : Kd.C (Kd.int .i64) w A0_0 l0_0.length l0_0) (hc0_0 : l0_0.length ≤ c0_0) (h : spec_SmallElements.f k l0_0 = some r) :
 Calls Try.prog 98 #[.agg #[.slice A0_0 l0_0.length c0_0]] w fun e w' => ∃ v0_ : Value, e = .returned (v0_) ∧ Kd.R (Kd.int .i64) 3 w' w.heap.size (fun _ => True) v0_ r ∧ Below w.heap.size w w' := by
 have hu41 := Try.underlying41
 have HR0_0 := Aside0.mk hr0_0
 have HC0_0 := Aside0.mk hc0_0
 clear hr0_0 hc0_0
 have HB := Aside0.mk (Below.refl w.heap.size w)
 have H := h
 clear h
 unfold spec_SmallElements.f at H
 obtain ⟨t502, A2, H⟩ := ob_ H
 (try dsimp only at H)
 by_cases c3 : t502 = true
 ·subst c3
  rw [if_pos rfl] at H
  obtain ⟨t503, A4, H⟩ := ob_ H
  (try dsimp only at H)
  obtain ⟨t504, A5, H⟩ := ob_ H
  (try dsimp only at H)
  obtain rfl := Option.some.inj H
  go_enter Try.func98, Try.ntmps98
  try go_wp2_with (first | ((with_reducible refine gate_dst (N := 1) rfl ?_); refine be_ 1 #[.slice A0_0 l0_0.length c0_0] 41 fun gb501 hg w6 hbox hb => ?_; have BK501 := Aside0.mk (hbox); have GW501 := ge_ hg HB; have GE501 := ge_ hg HB; replace HB := bs_ HB hb; clear hb hbox hg; have hcz7_0 := bc_ BK501; have hfz7_0 := blk_frozen BK501.out 0) | ((with_reducible refine gate_callee (f := 41) rfl ?_); refine gl_ 4 Try.func41 #[.agg #[.slice A0_0 l0_0.length c0_0]] ?_; (with_reducible refine (spec_IsSemigroup.calls k _ _ l0_0 true _ ?side1 ?side2 A2.out).mono ?_); (case side1 => exact cs_ HR0_0 HB); (case side2 => exact HC0_0.out); rintro e w8 ⟨rfl, hb⟩; refine ⟨_, rfl, ?_⟩; replace BK501 := bb_ BK501 hb; replace HB := bs_ HB hb; (try clear hb); (try clear hb2); (try clear hk); (try clear hi)))
  replace BK501 := Aside0.mk (blk_drew BK501.out)
  replace HB := Aside0.mk (below_drew1 HB.out)
  refine start_ (n := 5) (S := fun w' => w'.cell? ⟨gb501, 0, none⟩ = some (.slice A0_0 l0_0.length c0_0)) (ds := []) (fl_ 5 0) (by kernel_rfl) rfl rfl ((blk_cell BK501.out 0).trans rfl) (fun hHeld => ?_)
  generalize w8.drew = w9 at BK501 HB hHeld ⊢
  refine ta_ 0 7 (fl_ 5 1) ?_
  refine ta_ 1 8 (fl_ 5 2) ?_
  refine on_ 2 9 (fl_ 5 3) fun K hK => ?_
  refine go_ Try.func44 #[.agg #[.slice A0_0 l0_0.length c0_0]] ?_
  with_reducible refine (spec_ConductorOf.calls k _ _ l0_0 t503 _ ?side1 ?side2 A4.out).mono ?_
  (case side1 => exact cs_ HR0_0 HB)
  (case side2 => exact HC0_0.out)
  rintro e w10 ⟨rfl, hb⟩
  refine ⟨_, rfl, ?_⟩
  replace BK501 := bb_ BK501 hb
  replace HB := bs_ HB hb
  (try clear hb)
  (try clear hb2)
  (try clear hk)
  (try clear hi)
  refine hK.out _ _ ((blk_cell BK501.out 0).trans rfl) (fun hHeld => ?_)
  clear hK K
  refine no_ 9 ?_
  refine on_ 3 10 (fl_ 5 4) fun K hK => ?_
  refine go_ Try.func138 #[.agg #[.slice A0_0 l0_0.length c0_0], .int .i64 t503] ?_
  with_reducible refine (spec_l4Small.calls k _ _ l0_0 t503 t504 _ ?side1 ?side2 A5.out).mono ?_
  (case side1 => exact cs_ HR0_0 HB)
  (case side2 => exact HC0_0.out)
  rintro e w11 ⟨v505, rfl, ho0, hb⟩
  refine ⟨_, rfl, ?_⟩
  have HO506 := rl_ ho0 HB
  replace BK501 := bb_ BK501 hb
  replace HB := bs_ HB hb
  (try clear hb)
  (try clear hb2)
  (try clear hk)
  (try clear hi)
  (try clear ho0)
  refine hK.out _ _ ((blk_cell BK501.out 0).trans rfl) (fun hHeld => ?_)
  clear hK K
  refine no_ 10 ?_
  refine pu_ 4 2 (fl_ 5 5) ?_
  refine done_ (by kernel_rfl) ?_
  try go_wp2
  go_ret
  exact ⟨_, er_, kr_ HO506.out, bl_ HB.out⟩
 ·obtain rfl := Bool.eq_false_iff.mpr c3
  rw [if_neg nf_] at H
  obtain ⟨y507, hy507⟩ : ∃ y_ : List Int, y_ = (([] : List Int)) := ⟨_, rfl⟩
  replace H : (some y507) = some r := by first | (rw [hy507]; with_reducible exact H) | (have H2_ := (Option.bind_some _ _).symm.trans H; rw [hy507]; with_reducible exact H2_) | (have H2_ := (Option.bind_some _ _).symm.trans H; with_reducible exact H2_) | with_reducible exact H | (rw [hy507]; exact H) | exact H
  have Ny507 := Aside0.mk hy507
  clear hy507
  obtain rfl := Option.some.inj H
  go_enter Try.func98, Try.ntmps98
  go_wp2_with (first | ((with_reducible refine gate_dst (N := 1) rfl ?_); refine be_ 1 #[.slice A0_0 l0_0.length c0_0] 41 fun gb501 hg w12 hbox hb => ?_; have BK501 := Aside0.mk (hbox); have GW501 := ge_ hg HB; have GE501 := ge_ hg HB; replace HB := bs_ HB hb; clear hb hbox hg; have hcz13_0 := bc_ BK501; have hfz13_0 := blk_frozen BK501.out 0) | ((with_reducible refine gate_callee (f := 41) rfl ?_); refine gl_ 4 Try.func41 #[.agg #[.slice A0_0 l0_0.length c0_0]] ?_; (with_reducible refine (spec_IsSemigroup.calls k _ _ l0_0 false _ ?side1 ?side2 A2.out).mono ?_); (case side1 => exact cs_ HR0_0 HB); (case side2 => exact HC0_0.out); rintro e w14 ⟨rfl, hb⟩; refine ⟨_, rfl, ?_⟩; replace BK501 := bb_ BK501 hb; replace HB := bs_ HB hb; (try clear hb); (try clear hb2); (try clear hk); (try clear hi)) | ((with_reducible refine gate_dst (N := 6) rfl ?_); refine Kd.R_lit (Kd.int .i64) _ 3 ?hg (N := 6) ?hd (xs := ([] : List Int)) (inner := []) (ok := fun _ => True) (okp := fun _ => True) ?hr ?hp (fun _ hk => hk) trivial (Below.refl _ _) (Nat.le_refl _) (by simp) ?_; (case hd => rfl); (case hg => rfl); (case hr => first | (go_simp; done) | (go_simp; rfl)); (case hp => exact (Reps.none _ _)); intro v508 w15 ho16 hb hg_ hnew_; clear hg_ hnew_; (first | rw [← Ny507.out] at ho16 | (simp only [Int.reduceToNat] at ho16; rw [← Ny507.out] at ho16)); have HO509 := rl_ ho16 HB; replace BK501 := bb_ BK501 hb; replace HB := bs_ HB hb; clear hb ho16))
  go_ret
  exact ⟨_, er_, kr_ HO509.out, bl_ HB.out⟩
def spec_LeftCount.f (k : Nat) (l0_0 : List Int) : Option (Int) := (spec_IsSemigroup.f k l0_0).bind fun t511 => (if t511 = true then ((spec_SmallElements.f k l0_0).bind fun t512 => (some (t512.length : Int))) else (some (-1)))
set_option maxHeartbeats 8000000 in
set_option maxRecDepth 100000 in
theorem spec_LeftCount.calls (k : Nat) (A0_0 : Option Addr) (c0_0 : Nat) (l0_0 : List Int) (r : Int) (w : World) (hr0_0 : Kd.C (Kd.int .i64) w A0_0 l0_0.length l0_0) (hc0_0 : l0_0.length ≤ c0_0) (h : spec_LeftCount.f k l0_0 = some r) :
 Calls Try.prog 36 #[.agg #[.slice A0_0 l0_0.length c0_0]] w fun e w' => e = .returned (.int .i64 r) ∧ Below w.heap.size w w' := by
 have hu41 := Try.underlying41
 have HR0_0 := Aside0.mk hr0_0
 have HC0_0 := Aside0.mk hc0_0
 clear hr0_0 hc0_0
 have HB := Aside0.mk (Below.refl w.heap.size w)
 have H := h
 clear h
 unfold spec_LeftCount.f at H
 obtain ⟨t511, A2, H⟩ := ob_ H
 (try dsimp only at H)
 by_cases c3 : t511 = true
 ·subst c3
  rw [if_pos rfl] at H
  obtain ⟨t512, A4, H⟩ := ob_ H
  (try dsimp only at H)
  obtain rfl := Option.some.inj H
  go_enter Try.func36, Try.ntmps36
  go_wp2_with (first | ((with_reducible refine gate_dst (N := 1) rfl ?_); refine be_ 1 #[.slice A0_0 l0_0.length c0_0] 41 fun gb510 hg w5 hbox hb => ?_; have BK510 := Aside0.mk (hbox); have GW510 := ge_ hg HB; have GE510 := ge_ hg HB; replace HB := bs_ HB hb; clear hb hbox hg; have hcz6_0 := bc_ BK510; have hfz6_0 := blk_frozen BK510.out 0) | ((with_reducible refine gate_callee (f := 41) rfl ?_); refine gl_ 4 Try.func41 #[.agg #[.slice A0_0 l0_0.length c0_0]] ?_; (with_reducible refine (spec_IsSemigroup.calls k _ _ l0_0 true _ ?side1 ?side2 A2.out).mono ?_); (case side1 => exact cs_ HR0_0 HB); (case side2 => exact HC0_0.out); rintro e w7 ⟨rfl, hb⟩; refine ⟨_, rfl, ?_⟩; replace BK510 := bb_ BK510 hb; replace HB := bs_ HB hb; (try clear hb); (try clear hb2); (try clear hk); (try clear hi); have hcz8_0 := bc_ BK510; have hfz8_0 := blk_frozen BK510.out 0) | ((with_reducible refine gate_callee (f := 98) rfl ?_); refine gl_ 7 Try.func98 #[.agg #[.slice A0_0 l0_0.length c0_0]] ?_; (with_reducible refine (spec_SmallElements.calls k _ _ l0_0 t512 _ ?side1 ?side2 A4.out).mono ?_); (case side1 => exact cs_ HR0_0 HB); (case side2 => exact HC0_0.out); rintro e w9 ⟨v513, rfl, ho0, hb⟩; refine ⟨_, rfl, ?_⟩; have HO514 := rl_ ho0 HB; replace BK510 := bb_ BK510 hb; replace HB := bs_ HB hb; (try clear hb); (try clear hb2); (try clear hk); (try clear hi); (try clear ho0); obtain ⟨Ao10, co10, eo10⟩ := Kd.R_slice HO514.out; subst eo10))
  go_ret
  exact ⟨er_, bl_ HB.out⟩
 ·obtain rfl := Bool.eq_false_iff.mpr c3
  rw [if_neg nf_] at H
  obtain rfl := Option.some.inj H
  go_enter Try.func36, Try.ntmps36
  go_wp2_with (first | ((with_reducible refine gate_dst (N := 1) rfl ?_); refine be_ 1 #[.slice A0_0 l0_0.length c0_0] 41 fun gb510 hg w11 hbox hb => ?_; have BK510 := Aside0.mk (hbox); have GW510 := ge_ hg HB; have GE510 := ge_ hg HB; replace HB := bs_ HB hb; clear hb hbox hg; have hcz12_0 := bc_ BK510; have hfz12_0 := blk_frozen BK510.out 0) | ((with_reducible refine gate_callee (f := 41) rfl ?_); refine gl_ 4 Try.func41 #[.agg #[.slice A0_0 l0_0.length c0_0]] ?_; (with_reducible refine (spec_IsSemigroup.calls k _ _ l0_0 false _ ?side1 ?side2 A2.out).mono ?_); (case side1 => exact cs_ HR0_0 HB); (case side2 => exact HC0_0.out); rintro e w13 ⟨rfl, hb⟩; refine ⟨_, rfl, ?_⟩; replace BK510 := bb_ BK510 hb; replace HB := bs_ HB hb; (try clear hb); (try clear hb2); (try clear hk); (try clear hi)))
  go_ret
  exact ⟨er_, bl_ HB.out⟩
def spec_SporadicDensity.f (k : Nat) (l0_0 : List Int) : Option (Int × Int) := (spec_IsSemigroup.f k l0_0).bind fun t516 => (if t516 = true then ((spec_ConductorOf.f k l0_0).bind fun t517 => (if t517 = 0 then (some (0, 1)) else ((spec_LeftCount.f k l0_0).bind fun t518 => ((spec_GcdOf.f k t518 t517).bind fun t519 => ((spec_LeftCount.f k l0_0).bind fun t520 => (if t519 = 0 then (none) else (some (wrap64 (Int.tdiv t520 t519), wrap64 (Int.tdiv t517 t519))))))))) else (some (0, 0)))
def spec_SporadicDensity.T7 : Bool × List (List Nat × List Nat) := (true, [([], []), ([0], [0]), ([], []), ([1, 2], [1, 2]), ([], []), ([], []), ([4, 5], [4, 5]), ([3, 1, 0, 1, 2, 3], [3]), ([6, 7, 0, 1, 2, 3, 4, 5, 6, 7], [6])])
def spec_SporadicDensity.B7 : List Nat := [0, 1, 0, 7, 0, 0, 48, 15, 255]
theorem spec_SporadicDensity.tab7 : rtab .any (opsOf Try.f34 7) = spec_SporadicDensity.T7 := by kernel_rfl
theorem spec_SporadicDensity.bits7 : waitsOk spec_SporadicDensity.T7.2 spec_SporadicDensity.B7 = true := by kernel_rfl
set_option maxHeartbeats 8000000 in
set_option maxRecDepth 100000 in
theorem spec_SporadicDensity.calls (k : Nat) (A0_0 : Option Addr) (c0_0 : Nat) (l0_0 : List Int) (r1 : Int) (r2 : Int) (w : World) (hr0_0 : Kd.C (Kd.int .i64) w A0_0 l0_0.length l0_0) (hc0_0 : l0_0.length ≤ c0_0) (h : spec_SporadicDensity.f k l0_0 = some (r1, r2)) :
 Calls Try.prog 34 #[.agg #[.slice A0_0 l0_0.length c0_0]] w fun e w' => e = .returned (.tuple #[.int .i64 r1, .int .i64 r2]) ∧ Below w.heap.size w w' := by
 have hu41 := Try.underlying41
 have HR0_0 := Aside0.mk hr0_0
 have HC0_0 := Aside0.mk hc0_0
 clear hr0_0 hc0_0
 have HB := Aside0.mk (Below.refl w.heap.size w)
 have H := h
 clear h
 unfold spec_SporadicDensity.f at H
 obtain ⟨t516, A2, H⟩ := ob_ H
 (try dsimp only at H)
 by_cases c3 : t516 = true
 ·subst c3
  rw [if_pos rfl] at H
  obtain ⟨t517, A4, H⟩ := ob_ H
  (try dsimp only at H)
  by_cases c5 : t517 = 0
  ·rw [if_pos c5] at H
   have c5b0 : (t517 == 0) = true := beq_iff_eq.mpr c5
   have c5b1 : (t517 != 0) = false := bne_eq_false_iff_eq.mpr c5
   clear c5
   simp only [Option.some.injEq, Prod.mk.injEq] at H
   obtain ⟨rfl, rfl⟩ := H
   go_enter Try.func34, Try.ntmps34
   go_wp2_with (first | ((with_reducible refine gate_dst (N := 1) rfl ?_); refine be_ 1 #[.slice A0_0 l0_0.length c0_0] 41 fun gb515 hg w6 hbox hb => ?_; have BK515 := Aside0.mk (hbox); have GW515 := ge_ hg HB; have GE515 := ge_ hg HB; replace HB := bs_ HB hb; clear hb hbox hg; have hcz7_0 := bc_ BK515; have hfz7_0 := blk_frozen BK515.out 0) | ((with_reducible refine gate_callee (f := 41) rfl ?_); refine gl_ 7 Try.func41 #[.agg #[.slice A0_0 l0_0.length c0_0]] ?_; (with_reducible refine (spec_IsSemigroup.calls k _ _ l0_0 true _ ?side1 ?side2 A2.out).mono ?_); (case side1 => exact cs_ HR0_0 HB); (case side2 => exact HC0_0.out); rintro e w8 ⟨rfl, hb⟩; refine ⟨_, rfl, ?_⟩; replace BK515 := bb_ BK515 hb; replace HB := bs_ HB hb; (try clear hb); (try clear hb2); (try clear hk); (try clear hi); have hcz9_0 := bc_ BK515; have hfz9_0 := blk_frozen BK515.out 0) | ((with_reducible refine gate_callee (f := 44) rfl ?_); refine gl_ 10 Try.func44 #[.agg #[.slice A0_0 l0_0.length c0_0]] ?_; (with_reducible refine (spec_ConductorOf.calls k _ _ l0_0 t517 _ ?side1 ?side2 A4.out).mono ?_); (case side1 => exact cs_ HR0_0 HB); (case side2 => exact HC0_0.out); rintro e w10 ⟨rfl, hb⟩; refine ⟨_, rfl, ?_⟩; replace BK515 := bb_ BK515 hb; replace HB := bs_ HB hb; (try clear hb); (try clear hb2); (try clear hk); (try clear hi)))
   go_ret2
   exact ⟨er_, bl_ HB.out⟩
  ·rw [if_neg c5] at H
   have c5b0 : (t517 == 0) = false := beq_eq_false_iff_ne.mpr c5
   have c5b1 : (t517 != 0) = true := bne_iff_ne.mpr c5
   obtain ⟨t518, A11, H⟩ := ob_ H
   (try dsimp only at H)
   obtain ⟨t519, A12, H⟩ := ob_ H
   (try dsimp only at H)
   obtain ⟨t520, A13, H⟩ := ob_ H
   (try dsimp only at H)
   by_cases c14 : t519 = 0
   ·rw [if_pos c14] at H
    exact absurd H (by simp)
   ·rw [if_neg c14] at H
    have c14b0 : (t519 == 0) = false := beq_eq_false_iff_ne.mpr c14
    have c14b1 : (t519 != 0) = true := bne_iff_ne.mpr c14
    simp only [Option.some.injEq, Prod.mk.injEq] at H
    obtain ⟨rfl, rfl⟩ := H
    go_enter Try.func34, Try.ntmps34
    try go_wp2_with (first | ((with_reducible refine gate_dst (N := 1) rfl ?_); refine be_ 1 #[.slice A0_0 l0_0.length c0_0] 41 fun gb515 hg w15 hbox hb => ?_; have BK515 := Aside0.mk (hbox); have GW515 := ge_ hg HB; have GE515 := ge_ hg HB; replace HB := bs_ HB hb; clear hb hbox hg; have hcz16_0 := bc_ BK515; have hfz16_0 := blk_frozen BK515.out 0) | ((with_reducible refine gate_callee (f := 41) rfl ?_); refine gl_ 7 Try.func41 #[.agg #[.slice A0_0 l0_0.length c0_0]] ?_; (with_reducible refine (spec_IsSemigroup.calls k _ _ l0_0 true _ ?side1 ?side2 A2.out).mono ?_); (case side1 => exact cs_ HR0_0 HB); (case side2 => exact HC0_0.out); rintro e w17 ⟨rfl, hb⟩; refine ⟨_, rfl, ?_⟩; replace BK515 := bb_ BK515 hb; replace HB := bs_ HB hb; (try clear hb); (try clear hb2); (try clear hk); (try clear hi); have hcz18_0 := bc_ BK515; have hfz18_0 := blk_frozen BK515.out 0) | ((with_reducible refine gate_callee (f := 44) rfl ?_); refine gl_ 10 Try.func44 #[.agg #[.slice A0_0 l0_0.length c0_0]] ?_; (with_reducible refine (spec_ConductorOf.calls k _ _ l0_0 t517 _ ?side1 ?side2 A4.out).mono ?_); (case side1 => exact cs_ HR0_0 HB); (case side2 => exact HC0_0.out); rintro e w19 ⟨rfl, hb⟩; refine ⟨_, rfl, ?_⟩; replace BK515 := bb_ BK515 hb; replace HB := bs_ HB hb; (try clear hb); (try clear hb2); (try clear hk); (try clear hi); have hcz20_0 := bc_ BK515; have hfz20_0 := blk_frozen BK515.out 0) | ((with_reducible refine gate_callee (f := 36) rfl ?_); refine gl_ 14 Try.func36 #[.agg #[.slice A0_0 l0_0.length c0_0]] ?_; (with_reducible refine (spec_LeftCount.calls k _ _ l0_0 t518 _ ?side1 ?side2 A11.out).mono ?_); (case side1 => exact cs_ HR0_0 HB); (case side2 => exact HC0_0.out); rintro e w21 ⟨rfl, hb⟩; refine ⟨_, rfl, ?_⟩; replace BK515 := bb_ BK515 hb; replace HB := bs_ HB hb; (try clear hb); (try clear hb2); (try clear hk); (try clear hi)) | ((with_reducible refine gate_callee (f := 97) rfl ?_); refine gl_ 16 Try.func97 #[.int .i64 t518, .int .i64 t517] ?_; (with_reducible refine (spec_GcdOf.calls k t518 t517 t519 _ A12.out).mono ?_); rintro e w' ⟨rfl, ⟨nd, rfl⟩⟩; refine ⟨_, rfl, ?_⟩))
    (try (rw [drewN_self w21]; generalize hq_ : World.drewN w21 _ = w21; have n0_ : Aside0 (w21.heap[gb515]? = some (.cells #[.slice A0_0 l0_0.length c0_0] 41 (0, 0))) := ⟨by rw [← hq_]; exact (bk_ BK515.out)⟩; have n1_ : Aside0 (Below w.heap.size w w21) := ⟨by rw [← hq_]; exact (bl_ HB.out)⟩; clear BK515 HB hq_; have BK515 := n0_; have HB := n1_; clear n0_ n1_))
    replace BK515 := Aside0.mk (blk_drew BK515.out)
    replace HB := Aside0.mk (below_drew1 HB.out)
    refine start_ (n := 9) (S := fun w' => w'.cell? ⟨gb515, 0, none⟩ = some (.slice A0_0 l0_0.length c0_0)) (ds := []) (fl_ 9 0) (by kernel_rfl) rfl rfl ((blk_cell BK515.out 0).trans rfl) (fun hHeld => ?_); refine with_tabW spec_SporadicDensity.tab7 spec_SporadicDensity.bits7 (fun HT_ HW_ => ?_)
    generalize w21.drew = w22 at BK515 HB hHeld ⊢
    refine pu_ 2 19 (fm_ 9 4) ?_
    refine pu_ 4 21 (fm_ 9 20) ?_
    refine pu_ 5 22 (fm_ 9 52) ?_
    refine pu_ 6 23 (fm_ 9 116) ?_
    refine ta_ 0 17 (fm_ 9 117) ?_
    refine on_ 1 18 (fm_ 9 119) fun K hK => ?_
    refine go_ Try.func36 #[.agg #[.slice A0_0 l0_0.length c0_0]] ?_
    with_reducible refine (spec_LeftCount.calls k _ _ l0_0 t520 _ ?side1 ?side2 A13.out).mono ?_
    (case side1 => exact cs_ HR0_0 HB)
    (case side2 => exact HC0_0.out)
    rintro e w23 ⟨rfl, hb⟩
    refine ⟨_, rfl, ?_⟩
    replace BK515 := bb_ BK515 hb
    replace HB := bs_ HB hb
    (try clear hb)
    (try clear hb2)
    (try clear hk)
    (try clear hi)
    refine hK.out _ _ ((blk_cell BK515.out 0).trans rfl) (fun hHeld => ?_)
    clear hK K
    refine no_ 18 ?_
    refine pu_ 3 20 (fl_ 9 7) ?_
    refine pu_ 7 2 (fl_ 9 8) ?_
    refine pu_ 8 3 (fl_ 9 9) ?_
    refine done_ (done_of HT_.out (by kernel_rfl)) ?_
    try go_wp2
    go_ret2
    exact ⟨er_, bl_ HB.out⟩
 ·obtain rfl := Bool.eq_false_iff.mpr c3
  rw [if_neg nf_] at H
  simp only [Option.some.injEq, Prod.mk.injEq] at H
  obtain ⟨rfl, rfl⟩ := H
  go_enter Try.func34, Try.ntmps34
  go_wp2_with (first | ((with_reducible refine gate_dst (N := 1) rfl ?_); refine be_ 1 #[.slice A0_0 l0_0.length c0_0] 41 fun gb515 hg w24 hbox hb => ?_; have BK515 := Aside0.mk (hbox); have GW515 := ge_ hg HB; have GE515 := ge_ hg HB; replace HB := bs_ HB hb; clear hb hbox hg; have hcz25_0 := bc_ BK515; have hfz25_0 := blk_frozen BK515.out 0) | ((with_reducible refine gate_callee (f := 41) rfl ?_); refine gl_ 7 Try.func41 #[.agg #[.slice A0_0 l0_0.length c0_0]] ?_; (with_reducible refine (spec_IsSemigroup.calls k _ _ l0_0 false _ ?side1 ?side2 A2.out).mono ?_); (case side1 => exact cs_ HR0_0 HB); (case side2 => exact HC0_0.out); rintro e w26 ⟨rfl, hb⟩; refine ⟨_, rfl, ?_⟩; replace BK515 := bb_ BK515 hb; replace HB := bs_ HB hb; (try clear hb); (try clear hb2); (try clear hk); (try clear hi)))
  go_ret2
  exact ⟨er_, bl_ HB.out⟩
def spec_WilfNumber.f (k : Nat) (l0_0 : List Int) : Option (Int) := (spec_IsSemigroup.f k l0_0).bind fun t522 => (if t522 = true then ((spec_LeftCount.f k l0_0).bind fun t523 => ((spec_ConductorOf.f k l0_0).bind fun t524 => (some (wrap64 ((wrap64 ((l0_0.length : Int) * t523)) - t524))))) else (some (-1)))
def spec_WilfNumber.T3 : Bool × List (List Nat × List Nat) := (true, [([], []), ([0], [0]), ([1], [1]), ([], []), ([3], [3]), ([2, 4], [2, 4]), ([], []), ([6, 4], [6]), ([5, 7], [5, 7]), ([8, 7, 0, 1, 2, 3, 4, 5, 6, 7, 8], [8])])
def spec_WilfNumber.B3 : List Nat := [0, 1, 3, 0, 8, 31, 0, 88, 255, 511]
theorem spec_WilfNumber.tab3 : rtab .any (opsOf Try.f35 3) = spec_WilfNumber.T3 := by kernel_rfl
theorem spec_WilfNumber.bits3 : waitsOk spec_WilfNumber.T3.2 spec_WilfNumber.B3 = true := by kernel_rfl
set_option maxHeartbeats 8000000 in
set_option maxRecDepth 100000 in
theorem spec_WilfNumber.calls (k : Nat) (A0_0 : Option Addr) (c0_0 : Nat) (l0_0 : List Int) (r : Int) (w : World) (hr0_0 : Kd.C (Kd.int .i64) w A0_0 l0_0.length l0_0) (hc0_0 : l0_0.length ≤ c0_0) (h : spec_WilfNumber.f k l0_0 = some r) :
 Calls Try.prog 35 #[.agg #[.slice A0_0 l0_0.length c0_0]] w fun e w' => e = .returned (.int .i64 r) ∧ Below w.heap.size w w' := by
 have hu41 := Try.underlying41
 have HR0_0 := Aside0.mk hr0_0
 have HC0_0 := Aside0.mk hc0_0
 clear hr0_0 hc0_0
 have HB := Aside0.mk (Below.refl w.heap.size w)
 have H := h
 clear h
 unfold spec_WilfNumber.f at H
 obtain ⟨t522, A2, H⟩ := ob_ H
 (try dsimp only at H)
 by_cases c3 : t522 = true
 ·subst c3
  rw [if_pos rfl] at H
  obtain ⟨t523, A4, H⟩ := ob_ H
  (try dsimp only at H)
  obtain ⟨t524, A5, H⟩ := ob_ H
  (try dsimp only at H)
  obtain rfl := Option.some.inj H
  go_enter Try.func35, Try.ntmps35
  try go_wp2_with (first | ((with_reducible refine gate_dst (N := 1) rfl ?_); refine be_ 1 #[.slice A0_0 l0_0.length c0_0] 41 fun gb521 hg w6 hbox hb => ?_; have BK521 := Aside0.mk (hbox); have GW521 := ge_ hg HB; have GE521 := ge_ hg HB; replace HB := bs_ HB hb; clear hb hbox hg; have hcz7_0 := bc_ BK521; have hfz7_0 := blk_frozen BK521.out 0) | ((with_reducible refine gate_callee (f := 41) rfl ?_); refine gl_ 4 Try.func41 #[.agg #[.slice A0_0 l0_0.length c0_0]] ?_; (with_reducible refine (spec_IsSemigroup.calls k _ _ l0_0 true _ ?side1 ?side2 A2.out).mono ?_); (case side1 => exact cs_ HR0_0 HB); (case side2 => exact HC0_0.out); rintro e w8 ⟨rfl, hb⟩; refine ⟨_, rfl, ?_⟩; replace BK521 := bb_ BK521 hb; replace HB := bs_ HB hb; (try clear hb); (try clear hb2); (try clear hk); (try clear hi)))
  replace BK521 := Aside0.mk (blk_drew BK521.out)
  replace HB := Aside0.mk (below_drew1 HB.out)
  refine start_ (n := 10) (S := fun w' => w'.cell? ⟨gb521, 0, none⟩ = some (.slice A0_0 l0_0.length c0_0)) (ds := []) (fl_ 10 0) (by kernel_rfl) rfl rfl ((blk_cell BK521.out 0).trans rfl) (fun hHeld => ?_); refine with_tabW spec_WilfNumber.tab3 spec_WilfNumber.bits3 (fun HT_ HW_ => ?_)
  generalize w8.drew = w9 at BK521 HB hHeld ⊢
  refine pu_ 0 6 (fl_ 10 1) ?_
  refine ta_ 1 7 (fl_ 10 2) ?_
  refine pu_ 2 8 (fl_ 10 3) ?_
  refine ta_ 3 9 (fl_ 10 4) ?_
  refine ta_ 6 12 (fm_ 10 79) ?_
  refine on_ 4 10 (fm_ 10 95) fun K hK => ?_
  refine go_ Try.func36 #[.agg #[.slice A0_0 l0_0.length c0_0]] ?_
  with_reducible refine (spec_LeftCount.calls k _ _ l0_0 t523 _ ?side1 ?side2 A4.out).mono ?_
  (case side1 => exact cs_ HR0_0 HB)
  (case side2 => exact HC0_0.out)
  rintro e w10 ⟨rfl, hb⟩
  refine ⟨_, rfl, ?_⟩
  replace BK521 := bb_ BK521 hb
  replace HB := bs_ HB hb
  (try clear hb)
  (try clear hb2)
  (try clear hk)
  (try clear hi)
  refine hK.out _ _ ((blk_cell BK521.out 0).trans rfl) (fun hHeld => ?_)
  clear hK K
  refine no_ 10 ?_
  refine pu_ 5 11 (fl_ 10 7) ?_
  refine on_ 7 13 (fl_ 10 8) fun K hK => ?_
  refine go_ Try.func44 #[.agg #[.slice A0_0 l0_0.length c0_0]] ?_
  with_reducible refine (spec_ConductorOf.calls k _ _ l0_0 t524 _ ?side1 ?side2 A5.out).mono ?_
  (case side1 => exact cs_ HR0_0 HB)
  (case side2 => exact HC0_0.out)
  rintro e w11 ⟨rfl, hb⟩
  refine ⟨_, rfl, ?_⟩
  replace BK521 := bb_ BK521 hb
  replace HB := bs_ HB hb
  (try clear hb)
  (try clear hb2)
  (try clear hk)
  (try clear hi)
  refine hK.out _ _ ((blk_cell BK521.out 0).trans rfl) (fun hHeld => ?_)
  clear hK K
  refine no_ 13 ?_
  refine pu_ 8 14 (fl_ 10 9) ?_
  refine pu_ 9 2 (fl_ 10 10) ?_
  refine done_ (done_of HT_.out (by kernel_rfl)) ?_
  try go_wp2
  go_ret
  exact ⟨er_, bl_ HB.out⟩
 ·obtain rfl := Bool.eq_false_iff.mpr c3
  rw [if_neg nf_] at H
  obtain rfl := Option.some.inj H
  go_enter Try.func35, Try.ntmps35
  go_wp2_with (first | ((with_reducible refine gate_dst (N := 1) rfl ?_); refine be_ 1 #[.slice A0_0 l0_0.length c0_0] 41 fun gb521 hg w12 hbox hb => ?_; have BK521 := Aside0.mk (hbox); have GW521 := ge_ hg HB; have GE521 := ge_ hg HB; replace HB := bs_ HB hb; clear hb hbox hg; have hcz13_0 := bc_ BK521; have hfz13_0 := blk_frozen BK521.out 0) | ((with_reducible refine gate_callee (f := 41) rfl ?_); refine gl_ 4 Try.func41 #[.agg #[.slice A0_0 l0_0.length c0_0]] ?_; (with_reducible refine (spec_IsSemigroup.calls k _ _ l0_0 false _ ?side1 ?side2 A2.out).mono ?_); (case side1 => exact cs_ HR0_0 HB); (case side2 => exact HC0_0.out); rintro e w14 ⟨rfl, hb⟩; refine ⟨_, rfl, ?_⟩; replace BK521 := bb_ BK521 hb; replace HB := bs_ HB hb; (try clear hb); (try clear hb2); (try clear hk); (try clear hi)))
  go_ret
  exact ⟨er_, bl_ HB.out⟩
end Go.Proofs.Ytbjbolblahlhcaa.PFnWilf
end
section
namespace Go.Proofs.Ytbjbolblahlhcaa.PFnWilf
open Go.RowKit Go.Proofs.YtbjbolblahlhcaaW.PrintWords Go.Proofs.YtbjbolblahlhcaaW.PrintLast Go.Proofs.YtbjbolblahlhcaaW.PrintMore
open Go.Proofs.Ytbjbolblahlhcaa.SortW (bk_ kr_ t_ f_)
open Go.Proofs.Ytbjbolblahlhcaa.SqW
attribute [local go_sem] max2_int min2_int max_two min_two max_three min_three max_four min_four
set_option linter.unusedVariables false
set_option linter.unusedSimpArgs false
def impl_DepthOf.f (k : Nat) (l0_0 : List Int) : Option (Int) := (impl_IsSemigroup.f k l0_0).bind fun t526 => (if t526 = true then ((impl_ConductorOf.f k l0_0).bind fun t527 => (if 0 < (l0_0.length : Int) then (if (rd l0_0 0) = 0 then (none) else (some (wrap64 (Int.tdiv (wrap64 ((wrap64 (t527 + (rd l0_0 0))) - 1)) (rd l0_0 0))))) else (none))) else (some (-1)))
def impl_DepthOf.T3 : Bool × List (List Nat × List Nat) := (true, [([], []), ([0], [0]), ([], []), ([2], [2]), ([3], [3]), ([4], [4]), ([1, 5], [1, 5]), ([6], [6]), ([], []), ([8], [8]), ([9], [9]), ([10], [10]), ([7, 11], [7, 11]), ([12, 1, 0, 1, 2, 3, 4, 5, 6, 7, 8, 9, 10, 11, 12], [12])])
def impl_DepthOf.B3 : List Nat := [0, 1, 0, 4, 12, 28, 63, 127, 0, 256, 768, 1792, 4095, 8191]
theorem impl_DepthOf.tab3 : rtab .any (opsOf Try.f37 3) = impl_DepthOf.T3 := by kernel_rfl
theorem impl_DepthOf.bits3 : waitsOk impl_DepthOf.T3.2 impl_DepthOf.B3 = true := by kernel_rfl
set_option maxHeartbeats 8000000 in
set_option maxRecDepth 100000 in
theorem impl_DepthOf.calls (k : Nat) (A0_0 : Option Addr) (c0_0 : Nat) (l0_0 : List Int) (r : Int) (w : World) (hr0_0 : Kd.C (Kd.int .i64) w A0_0 l0_0.length l0_0) (hc0_0 : l0_0.length ≤ c0_0) (h : impl_DepthOf.f k l0_0 = some r) :
 Calls Try.prog 37 #[.agg #[.slice A0_0 l0_0.length c0_0]] w fun e w' => e = .returned (.int .i64 r) ∧ Below w.heap.size w w' := by
 have hu41 := Try.underlying41
 have HR0_0 := Aside0.mk hr0_0
 have HC0_0 := Aside0.mk hc0_0
 clear hr0_0 hc0_0
 have HB := Aside0.mk (Below.refl w.heap.size w)
 have H := h
 clear h
 unfold impl_DepthOf.f at H
 obtain ⟨t526, A2, H⟩ := ob_ H
 (try dsimp only at H)
 by_cases c3 : t526 = true
 ·subst c3
  rw [if_pos rfl] at H
  obtain ⟨t527, A4, H⟩ := ob_ H
  (try dsimp only at H)
  by_cases c5 : 0 < (l0_0.length : Int)
  ·rw [if_pos c5] at H
   have c5b0 : decide (0 < (l0_0.length : Int)) = true := decide_eq_true c5
   have c5b1 : decide (0 < l0_0.length) = true := decide_eq_true (by omega)
   clear c5
   by_cases c6 : (rd l0_0 0) = 0
   ·rw [if_pos c6] at H
    exact absurd H (by simp)
   ·rw [if_neg c6] at H
    have c6b0 : ((rd l0_0 0) == 0) = false := beq_eq_false_iff_ne.mpr c6
    have c6b1 : ((rd l0_0 0) != 0) = true := bne_iff_ne.mpr c6
    obtain rfl := Option.some.inj H
    go_enter Try.func37, Try.ntmps37
    try go_wp2_with (first | ((with_reducible refine gate_dst (N := 1) rfl ?_); refine be_ 1 #[.slice A0_0 l0_0.length c0_0] 41 fun gb525 hg w7 hbox hb => ?_; have BK525 := Aside0.mk (hbox); have GW525 := ge_ hg HB; have GE525 := ge_ hg HB; replace HB := bs_ HB hb; clear hb hbox hg; have hcz8_0 := bc_ BK525; have hfz8_0 := blk_frozen BK525.out 0) | ((with_reducible refine gate_callee (f := 92) rfl ?_); refine gl_ 4 Try.func92 #[.agg #[.slice A0_0 l0_0.length c0_0]] ?_; (with_reducible refine (impl_IsSemigroup.calls k _ _ l0_0 true _ ?side1 ?side2 A2.out).mono ?_); (case side1 => exact cs_ HR0_0 HB); (case side2 => exact HC0_0.out); rintro e w9 ⟨rfl, hb⟩; refine ⟨_, rfl, ?_⟩; replace BK525 := bb_ BK525 hb; replace HB := bs_ HB hb; (try clear hb); (try clear hb2); (try clear hk); (try clear hi)))
    replace BK525 := Aside0.mk (blk_drew BK525.out)
    replace HB := Aside0.mk (below_drew1 HB.out)
    have p528 : 0 ≤ (0 : Int) := (by omega)
    have q528 : 0 < (l0_0.length : Int) := od_
    obtain ⟨ad528, e528, hx528_0⟩ := Kd.at_int HR0_0.out 0 p528 q528
    have hw528_0 := hx528_0
    (try rw [show ((0 : Int)).toNat = 0 from rfl] at hw528_0)
    (try rw [show 0 * 1 = 0 from rfl] at hw528_0)
    (try rw [Addr.add_zero'] at hw528_0)
    cases e528
    have qi528 : (0 < l0_0.length) = True := eq_true (by omega)
    (try rw [show ((0 : Int)).toNat = 0 from rfl] at hx528_0)
    (try rw [Addr.add_zero'] at hx528_0)
    replace hx528_0 := (HB.out.cell (World.block_lt_of_cell? w _ hx528_0)).trans hx528_0
    replace p528 := eq_true p528
    replace q528 := eq_true q528
    have p529 : 0 ≤ (0 : Int) := (by omega)
    have q529 : 0 < (l0_0.length : Int) := od_
    obtain ⟨ad529, e529, hx529_0⟩ := Kd.at_int HR0_0.out 0 p529 q529
    have hw529_0 := hx529_0
    (try rw [show ((0 : Int)).toNat = 0 from rfl] at hw529_0)
    (try rw [show 0 * 1 = 0 from rfl] at hw529_0)
    (try rw [Addr.add_zero'] at hw529_0)
    obtain rfl : ad528 = ad529 := (by injection e529)
    have qi529 : (0 < l0_0.length) = True := eq_true (by omega)
    (try rw [show ((0 : Int)).toNat = 0 from rfl] at hx529_0)
    (try rw [Addr.add_zero'] at hx529_0)
    replace hx529_0 := (HB.out.cell (World.block_lt_of_cell? w _ hx529_0)).trans hx529_0
    replace p529 := eq_true p529
    replace q529 := eq_true q529
    refine start_ (n := 14) (S := fun w' => w'.cell? ⟨gb525, 0, none⟩ = some (.slice (some ad528) l0_0.length c0_0) ∧ w'.cell? ad528 = some (.int .i64 (rd l0_0 0)) ∧ w'.cell? ad528 = some (.int .i64 (rd l0_0 0))) (ds := []) (fl_ 14 0) (by kernel_rfl) rfl rfl ⟨(blk_cell BK525.out 0).trans rfl, ((HB.out.cell (World.block_lt_of_cell? w _ hw528_0)).trans hw528_0), ((HB.out.cell (World.block_lt_of_cell? w _ hw529_0)).trans hw529_0)⟩ (fun hHeld => ?_); refine with_tabW impl_DepthOf.tab3 impl_DepthOf.bits3 (fun HT_ HW_ => ?_)
    generalize w9.drew = w10 at BK525 HB hx528_0 hx529_0 hHeld ⊢
    refine pu_ 2 8 (fm_ 14 4) ?_
    refine pu_ 8 14 (fm_ 14 260) ?_
    refine ta_ 0 6 (fm_ 14 261) ?_
    refine ta_ 3 9 (fm_ 14 269) ?_
    refine pu_ 4 10 (fm_ 14 285) ?_
    refine ta_ 5 11 (fm_ 14 317) ?_
    refine ta_ 9 15 (fm_ 14 829) ?_
    refine pu_ 10 16 (fm_ 14 1853) ?_
    refine ta_ 11 17 (fm_ 14 3901) ?_
    refine on_ 1 7 (fm_ 14 3903) fun K hK => ?_
    refine go_ Try.func93 #[.agg #[.slice (some ad528) l0_0.length c0_0]] ?_
    with_reducible refine (impl_ConductorOf.calls k _ _ l0_0 t527 _ ?side1 ?side2 A4.out).mono ?_
    (case side1 => exact cs_ HR0_0 HB)
    (case side2 => exact HC0_0.out)
    rintro e w11 ⟨rfl, hb⟩
    refine ⟨_, rfl, ?_⟩
    replace BK525 := bb_ BK525 hb
    replace HB := bs_ HB hb
    (try clear hb)
    (try clear hb2)
    (try clear hk)
    (try clear hi)
    refine hK.out _ _ ⟨(blk_cell BK525.out 0).trans rfl, ((HB.out.cell (World.block_lt_of_cell? w _ hw528_0)).trans hw528_0), ((HB.out.cell (World.block_lt_of_cell? w _ hw529_0)).trans hw529_0)⟩ (fun hHeld => ?_)
    clear hK K
    refine no_ 7 ?_
    refine pu_ 6 12 (fm_ 14 3967) ?_
    refine pu_ 7 13 (fl_ 14 12) ?_
    refine pu_ 12 18 (fl_ 14 13) ?_
    refine pu_ 13 2 (fl_ 14 14) ?_
    refine done_ (done_of HT_.out (by kernel_rfl)) ?_
    try go_wp2
    go_ret
    exact ⟨er_, bl_ HB.out⟩
  ·rw [if_neg c5] at H
   exact absurd H (by simp)
 ·obtain rfl := Bool.eq_false_iff.mpr c3
  rw [if_neg nf_] at H
  obtain rfl := Option.some.inj H
  go_enter Try.func37, Try.ntmps37
  go_wp2_with (first | ((with_reducible refine gate_dst (N := 1) rfl ?_); refine be_ 1 #[.slice A0_0 l0_0.length c0_0] 41 fun gb525 hg w12 hbox hb => ?_; have BK525 := Aside0.mk (hbox); have GW525 := ge_ hg HB; have GE525 := ge_ hg HB; replace HB := bs_ HB hb; clear hb hbox hg; have hcz13_0 := bc_ BK525; have hfz13_0 := blk_frozen BK525.out 0) | ((with_reducible refine gate_callee (f := 92) rfl ?_); refine gl_ 4 Try.func92 #[.agg #[.slice A0_0 l0_0.length c0_0]] ?_; (with_reducible refine (impl_IsSemigroup.calls k _ _ l0_0 false _ ?side1 ?side2 A2.out).mono ?_); (case side1 => exact cs_ HR0_0 HB); (case side2 => exact HC0_0.out); rintro e w14 ⟨rfl, hb⟩; refine ⟨_, rfl, ?_⟩; replace BK525 := bb_ BK525 hb; replace HB := bs_ HB hb; (try clear hb); (try clear hb2); (try clear hk); (try clear hi)))
  go_ret
  exact ⟨er_, bl_ HB.out⟩
def spec_DepthOf.f (k : Nat) (l0_0 : List Int) : Option (Int) := (spec_IsSemigroup.f k l0_0).bind fun t531 => (if t531 = true then ((spec_ConductorOf.f k l0_0).bind fun t532 => (if 0 < (l0_0.length : Int) then (if (rd l0_0 0) = 0 then (none) else (some (wrap64 (Int.tdiv (wrap64 ((wrap64 (t532 + (rd l0_0 0))) - 1)) (rd l0_0 0))))) else (none))) else (some (-1)))
def spec_DepthOf.T3 : Bool × List (List Nat × List Nat) := (true, [([], []), ([0], [0]), ([], []), ([2], [2]), ([3], [3]), ([4], [4]), ([1, 5], [1, 5]), ([6], [6]), ([], []), ([8], [8]), ([9], [9]), ([10], [10]), ([7, 11], [7, 11]), ([12, 1, 0, 1, 2, 3, 4, 5, 6, 7, 8, 9, 10, 11, 12], [12])])
def spec_DepthOf.B3 : List Nat := [0, 1, 0, 4, 12, 28, 63, 127, 0, 256, 768, 1792, 4095, 8191]
theorem spec_DepthOf.tab3 : rtab .any (opsOf Try.f38 3) = spec_DepthOf.T3 := by kernel_rfl
theorem spec_DepthOf.bits3 : waitsOk spec_DepthOf.T3.2 spec_DepthOf.B3 = true := by kernel_rfl
set_option maxHeartbeats 8000000 in
set_option maxRecDepth 100000 in
theorem spec_DepthOf.calls (k : Nat) (A0_0 : Option Addr) (c0_0 : Nat) (l0_0 : List Int) (r : Int) (w : World) (hr0_0 : Kd.C (Kd.int .i64) w A0_0 l0_0.length l0_0) (hc0_0 : l0_0.length ≤ c0_0) (h : spec_DepthOf.f k l0_0 = some r) :
 Calls Try.prog 38 #[.agg #[.slice A0_0 l0_0.length c0_0]] w fun e w' => e = .returned (.int .i64 r) ∧ Below w.heap.size w w' := by
 have hu41 := Try.underlying41
 have HR0_0 := Aside0.mk hr0_0
 have HC0_0 := Aside0.mk hc0_0
 clear hr0_0 hc0_0
 have HB := Aside0.mk (Below.refl w.heap.size w)
 have H := h
 clear h
 unfold spec_DepthOf.f at H
 obtain ⟨t531, A2, H⟩ := ob_ H
 (try dsimp only at H)
 by_cases c3 : t531 = true
 ·subst c3
  rw [if_pos rfl] at H
  obtain ⟨t532, A4, H⟩ := ob_ H
  (try dsimp only at H)
  by_cases c5 : 0 < (l0_0.length : Int)
  ·rw [if_pos c5] at H
   have c5b0 : decide (0 < (l0_0.length : Int)) = true := decide_eq_true c5
   have c5b1 : decide (0 < l0_0.length) = true := decide_eq_true (by omega)
   clear c5
   by_cases c6 : (rd l0_0 0) = 0
   ·rw [if_pos c6] at H
    exact absurd H (by simp)
   ·rw [if_neg c6] at H
    have c6b0 : ((rd l0_0 0) == 0) = false := beq_eq_false_iff_ne.mpr c6
    have c6b1 : ((rd l0_0 0) != 0) = true := bne_iff_ne.mpr c6
    obtain rfl := Option.some.inj H
    go_enter Try.func38, Try.ntmps38
    try go_wp2_with (first | ((with_reducible refine gate_dst (N := 1) rfl ?_); refine be_ 1 #[.slice A0_0 l0_0.length c0_0] 41 fun gb530 hg w7 hbox hb => ?_; have BK530 := Aside0.mk (hbox); have GW530 := ge_ hg HB; have GE530 := ge_ hg HB; replace HB := bs_ HB hb; clear hb hbox hg; have hcz8_0 := bc_ BK530; have hfz8_0 := blk_frozen BK530.out 0) | ((with_reducible refine gate_callee (f := 41) rfl ?_); refine gl_ 4 Try.func41 #[.agg #[.slice A0_0 l0_0.length c0_0]] ?_; (with_reducible refine (spec_IsSemigroup.calls k _ _ l0_0 true _ ?side1 ?side2 A2.out).mono ?_); (case side1 => exact cs_ HR0_0 HB); (case side2 => exact HC0_0.out); rintro e w9 ⟨rfl, hb⟩; refine ⟨_, rfl, ?_⟩; replace BK530 := bb_ BK530 hb; replace HB := bs_ HB hb; (try clear hb); (try clear hb2); (try clear hk); (try clear hi)))
    replace BK530 := Aside0.mk (blk_drew BK530.out)
    replace HB := Aside0.mk (below_drew1 HB.out)
    have p533 : 0 ≤ (0 : Int) := (by omega)
    have q533 : 0 < (l0_0.length : Int) := od_
    obtain ⟨ad533, e533, hx533_0⟩ := Kd.at_int HR0_0.out 0 p533 q533
    have hw533_0 := hx533_0
    (try rw [show ((0 : Int)).toNat = 0 from rfl] at hw533_0)
    (try rw [show 0 * 1 = 0 from rfl] at hw533_0)
    (try rw [Addr.add_zero'] at hw533_0)
    cases e533
    have qi533 : (0 < l0_0.length) = True := eq_true (by omega)
    (try rw [show ((0 : Int)).toNat = 0 from rfl] at hx533_0)
    (try rw [Addr.add_zero'] at hx533_0)
    replace hx533_0 := (HB.out.cell (World.block_lt_of_cell? w _ hx533_0)).trans hx533_0
    replace p533 := eq_true p533
    replace q533 := eq_true q533
    have p534 : 0 ≤ (0 : Int) := (by omega)
    have q534 : 0 < (l0_0.length : Int) := od_
    obtain ⟨ad534, e534, hx534_0⟩ := Kd.at_int HR0_0.out 0 p534 q534
    have hw534_0 := hx534_0
    (try rw [show ((0 : Int)).toNat = 0 from rfl] at hw534_0)
    (try rw [show 0 * 1 = 0 from rfl] at hw534_0)
    (try rw [Addr.add_zero'] at hw534_0)
    obtain rfl : ad533 = ad534 := (by injection e534)
    have qi534 : (0 < l0_0.length) = True := eq_true (by omega)
    (try rw [show ((0 : Int)).toNat = 0 from rfl] at hx534_0)
    (try rw [Addr.add_zero'] at hx534_0)
    replace hx534_0 := (HB.out.cell (World.block_lt_of_cell? w _ hx534_0)).trans hx534_0
    replace p534 := eq_true p534
    replace q534 := eq_true q534
    refine start_ (n := 14) (S := fun w' => w'.cell? ⟨gb530, 0, none⟩ = some (.slice (some ad533) l0_0.length c0_0) ∧ w'.cell? ad533 = some (.int .i64 (rd l0_0 0)) ∧ w'.cell? ad533 = some (.int .i64 (rd l0_0 0))) (ds := []) (fl_ 14 0) (by kernel_rfl) rfl rfl ⟨(blk_cell BK530.out 0).trans rfl, ((HB.out.cell (World.block_lt_of_cell? w _ hw533_0)).trans hw533_0), ((HB.out.cell (World.block_lt_of_cell? w _ hw534_0)).trans hw534_0)⟩ (fun hHeld => ?_); refine with_tabW spec_DepthOf.tab3 spec_DepthOf.bits3 (fun HT_ HW_ => ?_)
    generalize w9.drew = w10 at BK530 HB hx533_0 hx534_0 hHeld ⊢
    refine pu_ 2 8 (fm_ 14 4) ?_
    refine pu_ 8 14 (fm_ 14 260) ?_
    refine ta_ 0 6 (fm_ 14 261) ?_
    refine ta_ 3 9 (fm_ 14 269) ?_
    refine pu_ 4 10 (fm_ 14 285) ?_
    refine ta_ 5 11 (fm_ 14 317) ?_
    refine ta_ 9 15 (fm_ 14 829) ?_
    refine pu_ 10 16 (fm_ 14 1853) ?_
    refine ta_ 11 17 (fm_ 14 3901) ?_
    refine on_ 1 7 (fm_ 14 3903) fun K hK => ?_
    refine go_ Try.func44 #[.agg #[.slice (some ad533) l0_0.length c0_0]] ?_
    with_reducible refine (spec_ConductorOf.calls k _ _ l0_0 t532 _ ?side1 ?side2 A4.out).mono ?_
    (case side1 => exact cs_ HR0_0 HB)
    (case side2 => exact HC0_0.out)
    rintro e w11 ⟨rfl, hb⟩
    refine ⟨_, rfl, ?_⟩
    replace BK530 := bb_ BK530 hb
    replace HB := bs_ HB hb
    (try clear hb)
    (try clear hb2)
    (try clear hk)
    (try clear hi)
    refine hK.out _ _ ⟨(blk_cell BK530.out 0).trans rfl, ((HB.out.cell (World.block_lt_of_cell? w _ hw533_0)).trans hw533_0), ((HB.out.cell (World.block_lt_of_cell? w _ hw534_0)).trans hw534_0)⟩ (fun hHeld => ?_)
    clear hK K
    refine no_ 7 ?_
    refine pu_ 6 12 (fm_ 14 3967) ?_
    refine pu_ 7 13 (fl_ 14 12) ?_
    refine pu_ 12 18 (fl_ 14 13) ?_
    refine pu_ 13 2 (fl_ 14 14) ?_
    refine done_ (done_of HT_.out (by kernel_rfl)) ?_
    try go_wp2
    go_ret
    exact ⟨er_, bl_ HB.out⟩
  ·rw [if_neg c5] at H
   exact absurd H (by simp)
 ·obtain rfl := Bool.eq_false_iff.mpr c3
  rw [if_neg nf_] at H
  obtain rfl := Option.some.inj H
  go_enter Try.func38, Try.ntmps38
  go_wp2_with (first | ((with_reducible refine gate_dst (N := 1) rfl ?_); refine be_ 1 #[.slice A0_0 l0_0.length c0_0] 41 fun gb530 hg w12 hbox hb => ?_; have BK530 := Aside0.mk (hbox); have GW530 := ge_ hg HB; have GE530 := ge_ hg HB; replace HB := bs_ HB hb; clear hb hbox hg; have hcz13_0 := bc_ BK530; have hfz13_0 := blk_frozen BK530.out 0) | ((with_reducible refine gate_callee (f := 41) rfl ?_); refine gl_ 4 Try.func41 #[.agg #[.slice A0_0 l0_0.length c0_0]] ?_; (with_reducible refine (spec_IsSemigroup.calls k _ _ l0_0 false _ ?side1 ?side2 A2.out).mono ?_); (case side1 => exact cs_ HR0_0 HB); (case side2 => exact HC0_0.out); rintro e w14 ⟨rfl, hb⟩; refine ⟨_, rfl, ?_⟩; replace BK530 := bb_ BK530 hb; replace HB := bs_ HB hb; (try clear hb); (try clear hb2); (try clear hk); (try clear hi)))
  go_ret
  exact ⟨er_, bl_ HB.out⟩
def impl_PrimitiveBelow.l0 : Nat → Int → List Int → Int → Int → List Int → Option (Int)
 | 0, _, _, _, _, _ => none
 | k + 1, x3, x10, x11, x12, x536000 => if x12 < x11 then (if 0 ≤ x12 then (if x12 < (x10.length : Int) then ((impl_ConductorOf.f k x536000).bind fun t538 => (if (rd x10 x12) < t538 then (impl_PrimitiveBelow.l0 k (wrap64 (x3 + 1)) x10 x11 (wrap64 (x12 + 1)) x536000) else (impl_PrimitiveBelow.l0 k x3 x10 x11 (wrap64 (x12 + 1)) x536000))) else (none)) else (none)) else (some x3)
def impl_PrimitiveBelow.f (k : Nat) (l0_0 : List Int) : Option (Int) := (impl_IsSemigroup.f k l0_0).bind fun t536 => (if t536 = true then (impl_PrimitiveBelow.l0 k 0 l0_0 (l0_0.length : Int) 0 l0_0) else (some (-1)))
set_option maxHeartbeats 8000000 in
set_option maxRecDepth 100000 in
theorem impl_PrimitiveBelow.calls (k : Nat) (A0_0 : Option Addr) (c0_0 : Nat) (l0_0 : List Int) (r : Int) (w : World) (hr0_0 : Kd.C (Kd.int .i64) w A0_0 l0_0.length l0_0) (hc0_0 : l0_0.length ≤ c0_0) (h : impl_PrimitiveBelow.f k l0_0 = some r) :
 Calls Try.prog 39 #[.agg #[.slice A0_0 l0_0.length c0_0]] w fun e w' => e = .returned (.int .i64 r) ∧ Below w.heap.size w w' := by
 have hu41 := Try.underlying41
 have HR0_0 := Aside0.mk hr0_0
 have HC0_0 := Aside0.mk hc0_0
 clear hr0_0 hc0_0
 have HB := Aside0.mk (Below.refl w.heap.size w)
 have H := h
 clear h
 unfold impl_PrimitiveBelow.f at H
 obtain ⟨t536, A2, H⟩ := ob_ H
 (try dsimp only at H)
 by_cases c3 : t536 = true
 ·subst c3
  rw [if_pos rfl] at H
  have H' := Aside0.mk H
  clear H
  go_enter Try.func39, Try.ntmps39
  go_wp2_with (first | ((with_reducible refine gate_dst (N := 1) rfl ?_); refine be_ 1 #[.slice A0_0 l0_0.length c0_0] 41 fun gb535 hg w4 hbox hb => ?_; have BK535 := Aside0.mk (hbox); have GW535 := ge_ hg HB; have GE535 := ge_ hg HB; replace HB := bs_ HB hb; clear hb hbox hg; have hcz5_0 := bc_ BK535; have hfz5_0 := blk_frozen BK535.out 0) | ((with_reducible refine gate_callee (f := 92) rfl ?_); refine gl_ 7 Try.func92 #[.agg #[.slice A0_0 l0_0.length c0_0]] ?_; (with_reducible refine (impl_IsSemigroup.calls k _ _ l0_0 true _ ?side1 ?side2 A2.out).mono ?_); (case side1 => exact cs_ HR0_0 HB); (case side2 => exact HC0_0.out); rintro e w6 ⟨rfl, hb⟩; refine ⟨_, rfl, ?_⟩; replace BK535 := bb_ BK535 hb; replace HB := bs_ HB hb; (try clear hb); (try clear hb2); (try clear hk); (try clear hi); have hcz7_0 := bc_ BK535; have hfz7_0 := blk_frozen BK535.out 0))
  go_loopg [3, 12] k (fun kq v3 v12 w' => ∃ (x3_1 : Int) (x12_1 : Int), v3 = .int .i64 x3_1 ∧ v12 = .int .i64 x12_1 ∧ Aside0 (impl_PrimitiveBelow.l0 kq x3_1 l0_0 (l0_0.length : Int) x12_1 l0_0 = some r) ∧ Aside0 (kq ≤ k) ∧ Aside0 (w'.heap[gb535]? = some (.cells #[(.slice A0_0 l0_0.length c0_0)] 41 (0, 0))) ∧ Aside0 (Below w.heap.size w w'))
  case atStart => exact ⟨(0), (0), sd_, sd_, H', ⟨Nat.le_refl _⟩, ⟨bk_ BK535.out⟩, ⟨bl_ HB.out⟩⟩
  case round =>
   clear H'
   try clear p2
   try clear c3
   try clear hcz5_0
   try clear hcz7_0
   try clear hfz5_0
   try clear hfz7_0
   obtain ⟨x3_1, x12_1, rfl, rfl, HA, HK1, BK535, HB⟩ := hrel
   cases gk with
   | zero => exact absurd HA.out (by simp [impl_PrimitiveBelow.l0])
   | succ k1 =>
    have H := HA.out
    clear HA
    simp only [impl_PrimitiveBelow.l0] at H
    by_cases c8 : x12_1 < (l0_0.length : Int)
    ·rw [if_pos c8] at H
     have c8b0 : decide (x12_1 < (l0_0.length : Int)) = true := decide_eq_true c8
     clear c8
     by_cases c9 : 0 ≤ x12_1
     ·rw [if_pos c9] at H
      have c9b0 : decide (0 ≤ x12_1) = true := decide_eq_true c9
      clear c9
      by_cases c10 : x12_1 < (l0_0.length : Int)
      ·rw [if_pos c10] at H
       have c10b0 : decide (x12_1 < (l0_0.length : Int)) = true := decide_eq_true c10
       clear c10
       obtain ⟨t538, A11, H⟩ := ob_ H
       (try dsimp only at H)
       by_cases c12 : (rd l0_0 x12_1) < t538
       ·rw [if_pos c12] at H
        have c12b0 : decide ((rd l0_0 x12_1) < t538) = true := decide_eq_true c12
        clear c12
        have H' := Aside0.mk H
        clear H
        have p537 : 0 ≤ (x12_1 : Int) := od_
        have q537 : x12_1 < (l0_0.length : Int) := od_
        obtain ⟨ad537, e537, hx537_0⟩ := Kd.at_int HR0_0.out x12_1 p537 q537
        cases e537
        replace hx537_0 := (HB.out.cell (World.block_lt_of_cell? w _ hx537_0)).trans hx537_0
        replace p537 := eq_true p537
        replace q537 := eq_true q537
        have hcz13_0 := bc_ BK535
        have hfz13_0 := blk_frozen BK535.out 0
        go_wp2_with (first | ((with_reducible refine gate_callee (f := 93) rfl ?_); refine gl_ 18 Try.func93 #[.agg #[.slice (some ad537) l0_0.length c0_0]] ?_; (with_reducible refine (impl_ConductorOf.calls k1 _ _ l0_0 t538 _ ?side1 ?side2 A11.out).mono ?_); (case side1 => exact cs_ HR0_0 HB); (case side2 => exact HC0_0.out); rintro e w14 ⟨rfl, hb⟩; refine ⟨_, rfl, ?_⟩; replace BK535 := bb_ BK535 hb; replace HB := bs_ HB hb; (try clear hb); (try clear hb2); (try clear hk); (try clear hi)))
        go_roundg k1
        case measure => have := HK1.out; omega
        case rel => exact ⟨(wrap64 (x3_1 + 1)), (wrap64 (x12_1 + 1)), sd_, sd_, H', ⟨by have := HK1.out; omega⟩, ⟨bk_ BK535.out⟩, ⟨bl_ HB.out⟩⟩
       ·rw [if_neg c12] at H
        have c12b0 : decide ((rd l0_0 x12_1) < t538) = false := decide_eq_false c12
        clear c12
        have H' := Aside0.mk H
        clear H
        have p537 : 0 ≤ (x12_1 : Int) := od_
        have q537 : x12_1 < (l0_0.length : Int) := od_
        obtain ⟨ad537, e537, hx537_0⟩ := Kd.at_int HR0_0.out x12_1 p537 q537
        cases e537
        replace hx537_0 := (HB.out.cell (World.block_lt_of_cell? w _ hx537_0)).trans hx537_0
        replace p537 := eq_true p537
        replace q537 := eq_true q537
        have hcz15_0 := bc_ BK535
        have hfz15_0 := blk_frozen BK535.out 0
        go_wp2_with (first | ((with_reducible refine gate_callee (f := 93) rfl ?_); refine gl_ 18 Try.func93 #[.agg #[.slice (some ad537) l0_0.length c0_0]] ?_; (with_reducible refine (impl_ConductorOf.calls k1 _ _ l0_0 t538 _ ?side1 ?side2 A11.out).mono ?_); (case side1 => exact cs_ HR0_0 HB); (case side2 => exact HC0_0.out); rintro e w16 ⟨rfl, hb⟩; refine ⟨_, rfl, ?_⟩; replace BK535 := bb_ BK535 hb; replace HB := bs_ HB hb; (try clear hb); (try clear hb2); (try clear hk); (try clear hi)))
        go_roundg k1
        case measure => have := HK1.out; omega
        case rel => exact ⟨(x3_1), (wrap64 (x12_1 + 1)), sd_, sd_, H', ⟨by have := HK1.out; omega⟩, ⟨bk_ BK535.out⟩, ⟨bl_ HB.out⟩⟩
      ·rw [if_neg c10] at H
       exact absurd H (by simp)
     ·rw [if_neg c9] at H
      exact absurd H (by simp)
    ·rw [if_neg c8] at H
     have c8b0 : decide (x12_1 < (l0_0.length : Int)) = false := decide_eq_false c8
     clear c8
     obtain rfl := Option.some.inj H
     go_wp2
     go_ret
     exact ⟨er_, bl_ HB.out⟩
 ·obtain rfl := Bool.eq_false_iff.mpr c3
  rw [if_neg nf_] at H
  obtain rfl := Option.some.inj H
  go_enter Try.func39, Try.ntmps39
  go_wp2_with (first | ((with_reducible refine gate_dst (N := 1) rfl ?_); refine be_ 1 #[.slice A0_0 l0_0.length c0_0] 41 fun gb535 hg w17 hbox hb => ?_; have BK535 := Aside0.mk (hbox); have GW535 := ge_ hg HB; have GE535 := ge_ hg HB; replace HB := bs_ HB hb; clear hb hbox hg; have hcz18_0 := bc_ BK535; have hfz18_0 := blk_frozen BK535.out 0) | ((with_reducible refine gate_callee (f := 92) rfl ?_); refine gl_ 7 Try.func92 #[.agg #[.slice A0_0 l0_0.length c0_0]] ?_; (with_reducible refine (impl_IsSemigroup.calls k _ _ l0_0 false _ ?side1 ?side2 A2.out).mono ?_); (case side1 => exact cs_ HR0_0 HB); (case side2 => exact HC0_0.out); rintro e w19 ⟨rfl, hb⟩; refine ⟨_, rfl, ?_⟩; replace BK535 := bb_ BK535 hb; replace HB := bs_ HB hb; (try clear hb); (try clear hb2); (try clear hk); (try clear hi)))
  go_ret
  exact ⟨er_, bl_ HB.out⟩
def spec_l1Bit.f (a0 : Bool) : Option (Int) := if a0 = true then (some 1) else (some 0)
set_option maxHeartbeats 8000000 in
set_option maxRecDepth 100000 in
theorem spec_l1Bit.calls (a0 : Bool) (r : Int) (w : World) (h : spec_l1Bit.f a0 = some r) :
 Calls Try.prog 99 #[.bool a0] w fun e w' => e = .returned (.int .i64 r) ∧ Drawn0 w w' := by
 have H := h
 clear h
 unfold spec_l1Bit.f at H
 by_cases c2 : a0 = true
 ·subst c2
  rw [if_pos rfl] at H
  obtain rfl := Option.some.inj H
  go_enter Try.func99, Try.ntmps99
  go_wp2
  go_ret
  exact ⟨sd_, dr_⟩
 ·obtain rfl := Bool.eq_false_iff.mpr c2
  rw [if_neg nf_] at H
  obtain rfl := Option.some.inj H
  go_enter Try.func99, Try.ntmps99
  go_wp2
  go_ret
  exact ⟨sd_, dr_⟩
end Go.Proofs.Ytbjbolblahlhcaa.PFnWilf
end
