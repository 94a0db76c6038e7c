/- Part 8 of the claim for FnWilf, of the chain from the printed contracts and the plain laws to the row. It has no condition of its own. -/
import Derived.Test.YtbjbolblahlhcaaG1ZFnWilf
import Derived.Test.YtbjbolblahlhcaaG4ZFnWilf
import Derived.Test.YtbjbolblahlhcaaG7ZFnWilf
import Derived.Test.YtbjbolblahlhcaaG2ZFnWilf
import Derived.Test.YtbjbolblahlhcaaG5ZFnWilf
import Derived.Test.YtbjbolblahlhcaaG6ZFnWilf
import Derived.Test.YtbjbolblahlhcaaG0ZFnWilf
import Derived.Test.YtbjbolblahlhcaaG3ZFnWilf
section
namespace Go.Proofs.Ytbjbolblahlhcaa.PFnWilf
open Go.RowKit Go.Proofs.YtbjbolblahlhcaaW.PrintWords Go.Proofs.YtbjbolblahlhcaaW.PrintLast Go.Proofs.YtbjbolblahlhcaaW.PrintMore
open Go.Proofs.Ytbjbolblahlhcaa.SortW (bk_ kr_ t_ f_)
open Go.Proofs.Ytbjbolblahlhcaa.SqW
attribute [local go_sem] max2_int min2_int max_two min_two max_three min_three max_four min_four
set_option linter.unusedVariables false
set_option linter.unusedSimpArgs false
def spec_PrimitiveBelow.l0 : Nat → Int → Int → List Int → Option (Int)
 | 0, _, _, _ => none
 | k + 1, x3, x4, x540000 => if x4 < (x540000.length : Int) then (if 0 ≤ x4 then ((spec_ConductorOf.f k x540000).bind fun t542 => ((spec_l1Bit.f (decide ((rd x540000 x4) < t542))).bind fun t543 => (spec_PrimitiveBelow.l0 k (wrap64 (x3 + t543)) (wrap64 (x4 + 1)) x540000))) else (none)) else (some x3)
def spec_PrimitiveBelow.f (k : Nat) (l0_0 : List Int) : Option (Int) := (spec_IsSemigroup.f k l0_0).bind fun t540 => (if t540 = true then (spec_PrimitiveBelow.l0 k 0 0 l0_0) else (some (-1)))
def spec_PrimitiveBelow.T7 : Bool × List (List Nat × List Nat) := (true, [([], []), ([], []), ([1], [1]), ([], []), ([2, 3], [2, 3]), ([4], [4]), ([], []), ([6], [6]), ([5, 7], [5, 7]), ([8, 7], [8]), ([0, 9], [0, 9]), ([10, 9, 0, 1, 2, 3, 4, 5, 6, 7, 8, 9, 10], [0, 10])])
def spec_PrimitiveBelow.B7 : List Nat := [0, 0, 2, 0, 14, 30, 0, 64, 254, 510, 1023, 2047]
theorem spec_PrimitiveBelow.tab7 : rtab .any (opsOf Try.f40 7) = spec_PrimitiveBelow.T7 := by kernel_rfl
theorem spec_PrimitiveBelow.bits7 : waitsOk spec_PrimitiveBelow.T7.2 spec_PrimitiveBelow.B7 = true := by kernel_rfl
set_option maxHeartbeats 8000000 in
set_option maxRecDepth 100000 in
theorem spec_PrimitiveBelow.calls (k : Nat) (A0_0 : Option Addr) (c0_0 : Nat) (l0_0 : List Int) (r : Int) (w : World) (hr0_0 : Kd.C (Kd.int .i64) w A0_0 l0_0.length l0_0) (hc0_0 : l0_0.length ≤ c0_0) (h : spec_PrimitiveBelow.f k l0_0 = some r) :
 Calls Try.prog 40 #[.agg #[.slice A0_0 l0_0.length c0_0]] w fun e w' => e = .returned (.int .i64 r) ∧ Below w.heap.size w w' := by
 have hu41 := Try.underlying41
 have HR0_0 := Aside0.mk hr0_0
 have HC0_0 := Aside0.mk hc0_0
 clear hr0_0 hc0_0
 have HB := Aside0.mk (Below.refl w.heap.size w)
 have H := h
 clear h
 unfold spec_PrimitiveBelow.f at H
 obtain ⟨t540, A2, H⟩ := ob_ H
 (try dsimp only at H)
 by_cases c3 : t540 = true
 ·subst c3
  rw [if_pos rfl] at H
  have H' := Aside0.mk H
  clear H
  go_enter Try.func40, Try.ntmps40
  go_wp2_with (first | ((with_reducible refine gate_dst (N := 1) rfl ?_); refine be_ 1 #[.slice A0_0 l0_0.length c0_0] 41 fun gb539 hg w4 hbox hb => ?_; have BK539 := Aside0.mk (hbox); have GW539 := ge_ hg HB; have GE539 := ge_ hg HB; replace HB := bs_ HB hb; clear hb hbox hg; have hcz5_0 := bc_ BK539; have hfz5_0 := blk_frozen BK539.out 0) | ((with_reducible refine gate_callee (f := 41) rfl ?_); refine gl_ 6 Try.func41 #[.agg #[.slice A0_0 l0_0.length c0_0]] ?_; (with_reducible refine (spec_IsSemigroup.calls k _ _ l0_0 true _ ?side1 ?side2 A2.out).mono ?_); (case side1 => exact cs_ HR0_0 HB); (case side2 => exact HC0_0.out); rintro e w6 ⟨rfl, hb⟩; refine ⟨_, rfl, ?_⟩; replace BK539 := bb_ BK539 hb; replace HB := bs_ HB hb; (try clear hb); (try clear hb2); (try clear hk); (try clear hi)))
  go_loopg [3, 4] k (fun kq v3 v4 w' => ∃ (x3_1 : Int) (x4_1 : Int), v3 = .int .i64 x3_1 ∧ v4 = .int .i64 x4_1 ∧ Aside0 (spec_PrimitiveBelow.l0 kq x3_1 x4_1 l0_0 = some r) ∧ Aside0 (kq ≤ k) ∧ Aside0 (w'.heap[gb539]? = some (.cells #[(.slice A0_0 l0_0.length c0_0)] 41 (0, 0))) ∧ Aside0 (Below w.heap.size w w'))
  case atStart => exact ⟨(0), (0), sd_, sd_, H', ⟨Nat.le_refl _⟩, ⟨bk_ BK539.out⟩, ⟨bl_ HB.out⟩⟩
  case round =>
   clear H'
   try clear p2
   try clear c3
   try clear c4
   try clear hcz5_0
   try clear hfz5_0
   obtain ⟨x3_1, x4_1, rfl, rfl, HA, HK1, BK539, HB⟩ := hrel
   cases gk with
   | zero => exact absurd HA.out (by simp [spec_PrimitiveBelow.l0])
   | succ k1 =>
    have H := HA.out
    clear HA
    simp only [spec_PrimitiveBelow.l0] at H
    by_cases c7 : x4_1 < (l0_0.length : Int)
    ·rw [if_pos c7] at H
     have c7b0 : decide (x4_1 < (l0_0.length : Int)) = true := decide_eq_true c7
     clear c7
     by_cases c8 : 0 ≤ x4_1
     ·rw [if_pos c8] at H
      have c8b0 : decide (0 ≤ x4_1) = true := decide_eq_true c8
      clear c8
      obtain ⟨t542, A9, H⟩ := ob_ H
      (try dsimp only at H)
      obtain ⟨t543, A10, H⟩ := ob_ H
      (try dsimp only at H)
      have H' := Aside0.mk H
      clear H
      have hcz11_0 := bc_ BK539
      have hfz11_0 := blk_frozen BK539.out 0
      try go_wp2
      replace BK539 := Aside0.mk (blk_drew BK539.out)
      replace HB := Aside0.mk (below_drew1 HB.out)
      have p541 : 0 ≤ (x4_1 : Int) := od_
      have q541 : x4_1 < (l0_0.length : Int) := od_
      obtain ⟨ad541, e541, hx541_0⟩ := Kd.at_int HR0_0.out x4_1 p541 q541
      have hw541_0 := hx541_0
      cases e541
      replace hx541_0 := (HB.out.cell (World.block_lt_of_cell? w _ hx541_0)).trans hx541_0
      replace p541 := eq_true p541
      replace q541 := eq_true q541
      refine start_ (n := 12) (S := fun w' => w'.cell? ⟨gb539, 0, none⟩ = some (.slice (some ad541) l0_0.length c0_0) ∧ w'.cell? (ad541.add (x4_1).toNat) = some (.int .i64 (rd l0_0 x4_1))) (ds := []) (fl_ 12 0) (by kernel_rfl) rfl rfl ⟨(blk_cell BK539.out 0).trans rfl, ((HB.out.cell (World.block_lt_of_cell? w _ hw541_0)).trans hw541_0)⟩ (fun hHeld => ?_); refine with_tabW spec_PrimitiveBelow.tab7 spec_PrimitiveBelow.bits7 (fun HT_ HW_ => ?_)
      generalize wr.drew = w12 at BK539 HB hx541_0 hHeld ⊢
      refine pu_ 0 15 (fl_ 12 1) ?_
      refine pu_ 1 16 (fl_ 12 2) ?_
      refine pu_ 3 18 (fm_ 12 11) ?_
      refine ta_ 2 17 (fl_ 12 4) ?_
      refine pu_ 4 19 (fl_ 12 5) ?_
      refine ta_ 5 20 (fl_ 12 6) ?_
      refine ta_ 6 21 (fl_ 12 7) ?_
      refine on_ 7 22 (fl_ 12 8) fun K hK => ?_
      refine go_ Try.func44 #[.agg #[.slice (some ad541) l0_0.length c0_0]] ?_
      with_reducible refine (spec_ConductorOf.calls k1 _ _ l0_0 t542 _ ?side1 ?side2 A9.out).mono ?_
      (case side1 => exact cs_ HR0_0 HB)
      (case side2 => exact HC0_0.out)
      rintro e w13 ⟨rfl, hb⟩
      refine ⟨_, rfl, ?_⟩
      replace BK539 := bb_ BK539 hb
      replace HB := bs_ HB hb
      (try clear hb)
      (try clear hb2)
      (try clear hk)
      (try clear hi)
      refine hK.out _ _ ⟨(blk_cell BK539.out 0).trans rfl, ((HB.out.cell (World.block_lt_of_cell? w _ hw541_0)).trans hw541_0)⟩ (fun hHeld => ?_)
      clear hK K
      refine no_ 22 ?_
      refine pu_ 8 23 (fl_ 12 9) ?_
      refine on_ 9 24 (fl_ 12 10) fun K hK => ?_
      refine go_ Try.func99 #[.bool (decide ((rd l0_0 x4_1) < t542))] ?_
      with_reducible refine (spec_l1Bit.calls (decide ((rd l0_0 x4_1) < t542)) t543 _ A10.out).mono ?_
      rintro e w' ⟨rfl, ⟨nd, rfl⟩⟩
      refine ⟨_, rfl, ?_⟩
      refine hK.out _ _ ⟨(blk_cell BK539.out 0).trans rfl, ((HB.out.cell (World.block_lt_of_cell? w _ hw541_0)).trans hw541_0)⟩ (fun hHeld => ?_)
      clear hK K
      refine no_ 24 ?_
      refine pu_ 10 25 (fl_ 12 11) ?_
      refine pu_ 11 3 (fl_ 12 12) ?_
      refine done_ (done_of HT_.out (by kernel_rfl)) ?_
      try go_wp2
      go_roundg k1
      case measure => have := HK1.out; omega
      case rel => exact ⟨(wrap64 (x3_1 + t543)), (wrap64 (x4_1 + 1)), sd_, sd_, H', ⟨by have := HK1.out; omega⟩, ⟨bk_ BK539.out⟩, ⟨bl_ HB.out⟩⟩
     ·rw [if_neg c8] at H
      exact absurd H (by simp)
    ·rw [if_neg c7] at H
     have c7b0 : decide (x4_1 < (l0_0.length : Int)) = false := decide_eq_false c7
     clear c7
     obtain rfl := Option.some.inj H
     have hcz14_0 := bc_ BK539
     have hfz14_0 := blk_frozen BK539.out 0
     go_wp2
     go_ret
     exact ⟨er_, bl_ HB.out⟩
 ·obtain rfl := Bool.eq_false_iff.mpr c3
  rw [if_neg nf_] at H
  obtain rfl := Option.some.inj H
  go_enter Try.func40, Try.ntmps40
  go_wp2_with (first | ((with_reducible refine gate_dst (N := 1) rfl ?_); refine be_ 1 #[.slice A0_0 l0_0.length c0_0] 41 fun gb539 hg w15 hbox hb => ?_; have BK539 := Aside0.mk (hbox); have GW539 := ge_ hg HB; have GE539 := ge_ hg HB; replace HB := bs_ HB hb; clear hb hbox hg; have hcz16_0 := bc_ BK539; have hfz16_0 := blk_frozen BK539.out 0) | ((with_reducible refine gate_callee (f := 41) rfl ?_); refine gl_ 6 Try.func41 #[.agg #[.slice A0_0 l0_0.length c0_0]] ?_; (with_reducible refine (spec_IsSemigroup.calls k _ _ l0_0 false _ ?side1 ?side2 A2.out).mono ?_); (case side1 => exact cs_ HR0_0 HB); (case side2 => exact HC0_0.out); rintro e w17 ⟨rfl, hb⟩; refine ⟨_, rfl, ?_⟩; replace BK539 := bb_ BK539 hb; replace HB := bs_ HB hb; (try clear hb); (try clear hb2); (try clear hk); (try clear hi)))
  go_ret
  exact ⟨er_, bl_ HB.out⟩
def spec_MultiplicityOf.f (k : Nat) (l0_0 : List Int) : Option (Int) := (spec_IsSemigroup.f k l0_0).bind fun t545 => (if t545 = true then (if 0 < (l0_0.length : Int) then (some (rd l0_0 0)) else (none)) else (some 0))
set_option maxHeartbeats 8000000 in
set_option maxRecDepth 100000 in
theorem spec_MultiplicityOf.calls (k : Nat) (A0_0 : Option Addr) (c0_0 : Nat) (l0_0 : List Int) (r : Int) (w : World) (hr0_0 : Kd.C (Kd.int .i64) w A0_0 l0_0.length l0_0) (hc0_0 : l0_0.length ≤ c0_0) (h : spec_MultiplicityOf.f k l0_0 = some r) :
 Calls Try.prog 42 #[.agg #[.slice A0_0 l0_0.length c0_0]] w fun e w' => e = .returned (.int .i64 r) ∧ Below w.heap.size w w' := by
 have hu41 := Try.underlying41
 have HR0_0 := Aside0.mk hr0_0
 have HC0_0 := Aside0.mk hc0_0
 clear hr0_0 hc0_0
 have HB := Aside0.mk (Below.refl w.heap.size w)
 have H := h
 clear h
 unfold spec_MultiplicityOf.f at H
 obtain ⟨t545, A2, H⟩ := ob_ H
 (try dsimp only at H)
 by_cases c3 : t545 = true
 ·subst c3
  rw [if_pos rfl] at H
  by_cases c4 : 0 < (l0_0.length : Int)
  ·rw [if_pos c4] at H
   have c4b0 : decide (0 < (l0_0.length : Int)) = true := decide_eq_true c4
   have c4b1 : decide (0 < l0_0.length) = true := decide_eq_true (by omega)
   clear c4
   obtain rfl := Option.some.inj H
   go_enter Try.func42, Try.ntmps42
   go_wp2_with (first | ((with_reducible refine gate_dst (N := 1) rfl ?_); refine be_ 1 #[.slice A0_0 l0_0.length c0_0] 41 fun gb544 hg w5 hbox hb => ?_; have BK544 := Aside0.mk (hbox); have GW544 := ge_ hg HB; have GE544 := ge_ hg HB; replace HB := bs_ HB hb; clear hb hbox hg; have hcz6_0 := bc_ BK544; have hfz6_0 := blk_frozen BK544.out 0) | ((with_reducible refine gate_callee (f := 41) rfl ?_); refine gl_ 4 Try.func41 #[.agg #[.slice A0_0 l0_0.length c0_0]] ?_; (with_reducible refine (spec_IsSemigroup.calls k _ _ l0_0 true _ ?side1 ?side2 A2.out).mono ?_); (case side1 => exact cs_ HR0_0 HB); (case side2 => exact HC0_0.out); rintro e w7 ⟨rfl, hb⟩; refine ⟨_, rfl, ?_⟩; replace BK544 := bb_ BK544 hb; replace HB := bs_ HB hb; (try clear hb); (try clear hb2); (try clear hk); (try clear hi); have hcz8_0 := bc_ BK544; have hfz8_0 := blk_frozen BK544.out 0; have p546 : 0 ≤ (0 : Int) := (by omega); have q546 : 0 < (l0_0.length : Int) := od_; obtain ⟨ad546, e546, hx546_0⟩ := Kd.at_int HR0_0.out 0 p546 q546; cases e546; have qi546 : (0 < l0_0.length) = True := eq_true (by omega); (try rw [show ((0 : Int)).toNat = 0 from rfl] at hx546_0); (try rw [Addr.add_zero'] at hx546_0); replace hx546_0 := (HB.out.cell (World.block_lt_of_cell? w _ hx546_0)).trans hx546_0; replace p546 := eq_true p546; replace q546 := eq_true q546))
   go_ret
   exact ⟨er_, bl_ HB.out⟩
  ·rw [if_neg c4] at H
   exact absurd H (by simp)
 ·obtain rfl := Bool.eq_false_iff.mpr c3
  rw [if_neg nf_] at H
  obtain rfl := Option.some.inj H
  go_enter Try.func42, Try.ntmps42
  go_wp2_with (first | ((with_reducible refine gate_dst (N := 1) rfl ?_); refine be_ 1 #[.slice A0_0 l0_0.length c0_0] 41 fun gb544 hg w9 hbox hb => ?_; have BK544 := Aside0.mk (hbox); have GW544 := ge_ hg HB; have GE544 := ge_ hg HB; replace HB := bs_ HB hb; clear hb hbox hg; have hcz10_0 := bc_ BK544; have hfz10_0 := blk_frozen BK544.out 0) | ((with_reducible refine gate_callee (f := 41) rfl ?_); refine gl_ 4 Try.func41 #[.agg #[.slice A0_0 l0_0.length c0_0]] ?_; (with_reducible refine (spec_IsSemigroup.calls k _ _ l0_0 false _ ?side1 ?side2 A2.out).mono ?_); (case side1 => exact cs_ HR0_0 HB); (case side2 => exact HC0_0.out); rintro e w11 ⟨rfl, hb⟩; refine ⟨_, rfl, ?_⟩; replace BK544 := bb_ BK544 hb; replace HB := bs_ HB hb; (try clear hb); (try clear hb2); (try clear hk); (try clear hi)))
  go_ret
  exact ⟨er_, bl_ HB.out⟩
def spec_GenusOf.f (k : Nat) (l0_0 : List Int) : Option (Int) := (spec_IsSemigroup.f k l0_0).bind fun t548 => (if t548 = true then ((spec_l4Gaps.f k l0_0).bind fun t549 => (some (t549.length : Int))) else (some (-1)))
set_option maxHeartbeats 8000000 in
set_option maxRecDepth 100000 in
theorem spec_GenusOf.calls (k : Nat) (A0_0 : Option Addr) (c0_0 : Nat) (l0_0 : List Int) (r : Int) (w : World) (hr0_0 : Kd.C (Kd.int .i64) w A0_0 l0_0.length l0_0) (hc0_0 : l0_0.length ≤ c0_0) (h : spec_GenusOf.f k l0_0 = some r) :
 Calls Try.prog 43 #[.agg #[.slice A0_0 l0_0.length c0_0]] w fun e w' => e = .returned (.int .i64 r) ∧ Below w.heap.size w w' := by
 have hu41 := Try.underlying41
 have HR0_0 := Aside0.mk hr0_0
 have HC0_0 := Aside0.mk hc0_0
 clear hr0_0 hc0_0
 have HB := Aside0.mk (Below.refl w.heap.size w)
 have H := h
 clear h
 unfold spec_GenusOf.f at H
 obtain ⟨t548, A2, H⟩ := ob_ H
 (try dsimp only at H)
 by_cases c3 : t548 = true
 ·subst c3
  rw [if_pos rfl] at H
  obtain ⟨t549, A4, H⟩ := ob_ H
  (try dsimp only at H)
  obtain rfl := Option.some.inj H
  go_enter Try.func43, Try.ntmps43
  go_wp2_with (first | ((with_reducible refine gate_dst (N := 1) rfl ?_); refine be_ 1 #[.slice A0_0 l0_0.length c0_0] 41 fun gb547 hg w5 hbox hb => ?_; have BK547 := Aside0.mk (hbox); have GW547 := ge_ hg HB; have GE547 := ge_ hg HB; replace HB := bs_ HB hb; clear hb hbox hg; have hcz6_0 := bc_ BK547; have hfz6_0 := blk_frozen BK547.out 0) | ((with_reducible refine gate_callee (f := 41) rfl ?_); refine gl_ 4 Try.func41 #[.agg #[.slice A0_0 l0_0.length c0_0]] ?_; (with_reducible refine (spec_IsSemigroup.calls k _ _ l0_0 true _ ?side1 ?side2 A2.out).mono ?_); (case side1 => exact cs_ HR0_0 HB); (case side2 => exact HC0_0.out); rintro e w7 ⟨rfl, hb⟩; refine ⟨_, rfl, ?_⟩; replace BK547 := bb_ BK547 hb; replace HB := bs_ HB hb; (try clear hb); (try clear hb2); (try clear hk); (try clear hi); have hcz8_0 := bc_ BK547; have hfz8_0 := blk_frozen BK547.out 0) | ((with_reducible refine gate_callee (f := 105) rfl ?_); refine gl_ 7 Try.func105 #[.agg #[.slice A0_0 l0_0.length c0_0]] ?_; (with_reducible refine (spec_l4Gaps.calls k _ _ l0_0 t549 _ ?side1 ?side2 A4.out).mono ?_); (case side1 => exact cs_ HR0_0 HB); (case side2 => exact HC0_0.out); rintro e w9 ⟨v550, rfl, ho0, hb⟩; refine ⟨_, rfl, ?_⟩; have HO551 := rl_ ho0 HB; replace BK547 := bb_ BK547 hb; replace HB := bs_ HB hb; (try clear hb); (try clear hb2); (try clear hk); (try clear hi); (try clear ho0); obtain ⟨Ao10, co10, eo10⟩ := Kd.R_slice HO551.out; subst eo10))
  go_ret
  exact ⟨er_, bl_ HB.out⟩
 ·obtain rfl := Bool.eq_false_iff.mpr c3
  rw [if_neg nf_] at H
  obtain rfl := Option.some.inj H
  go_enter Try.func43, Try.ntmps43
  go_wp2_with (first | ((with_reducible refine gate_dst (N := 1) rfl ?_); refine be_ 1 #[.slice A0_0 l0_0.length c0_0] 41 fun gb547 hg w11 hbox hb => ?_; have BK547 := Aside0.mk (hbox); have GW547 := ge_ hg HB; have GE547 := ge_ hg HB; replace HB := bs_ HB hb; clear hb hbox hg; have hcz12_0 := bc_ BK547; have hfz12_0 := blk_frozen BK547.out 0) | ((with_reducible refine gate_callee (f := 41) rfl ?_); refine gl_ 4 Try.func41 #[.agg #[.slice A0_0 l0_0.length c0_0]] ?_; (with_reducible refine (spec_IsSemigroup.calls k _ _ l0_0 false _ ?side1 ?side2 A2.out).mono ?_); (case side1 => exact cs_ HR0_0 HB); (case side2 => exact HC0_0.out); rintro e w13 ⟨rfl, hb⟩; refine ⟨_, rfl, ?_⟩; replace BK547 := bb_ BK547 hb; replace HB := bs_ HB hb; (try clear hb); (try clear hb2); (try clear hk); (try clear hi)))
  go_ret
  exact ⟨er_, bl_ HB.out⟩
def spec_DimensionOf.f (k : Nat) (l0_0 : List Int) : Option (Int) := (spec_IsSemigroup.f k l0_0).bind fun t553 => (if t553 = true then (some (l0_0.length : Int)) else (some 0))
set_option maxHeartbeats 8000000 in
set_option maxRecDepth 100000 in
theorem spec_DimensionOf.calls (k : Nat) (A0_0 : Option Addr) (c0_0 : Nat) (l0_0 : List Int) (r : Int) (w : World) (hr0_0 : Kd.C (Kd.int .i64) w A0_0 l0_0.length l0_0) (hc0_0 : l0_0.length ≤ c0_0) (h : spec_DimensionOf.f k l0_0 = some r) :
 Calls Try.prog 45 #[.agg #[.slice A0_0 l0_0.length c0_0]] w fun e w' => e = .returned (.int .i64 r) ∧ Below w.heap.size w w' := by
 have hu41 := Try.underlying41
 have HR0_0 := Aside0.mk hr0_0
 have HC0_0 := Aside0.mk hc0_0
 clear hr0_0 hc0_0
 have HB := Aside0.mk (Below.refl w.heap.size w)
 have H := h
 clear h
 unfold spec_DimensionOf.f at H
 obtain ⟨t553, A2, H⟩ := ob_ H
 (try dsimp only at H)
 by_cases c3 : t553 = true
 ·subst c3
  rw [if_pos rfl] at H
  obtain rfl := Option.some.inj H
  go_enter Try.func45, Try.ntmps45
  go_wp2_with (first | ((with_reducible refine gate_dst (N := 1) rfl ?_); refine be_ 1 #[.slice A0_0 l0_0.length c0_0] 41 fun gb552 hg w4 hbox hb => ?_; have BK552 := Aside0.mk (hbox); have GW552 := ge_ hg HB; have GE552 := ge_ hg HB; replace HB := bs_ HB hb; clear hb hbox hg; have hcz5_0 := bc_ BK552; have hfz5_0 := blk_frozen BK552.out 0) | ((with_reducible refine gate_callee (f := 41) rfl ?_); refine gl_ 4 Try.func41 #[.agg #[.slice A0_0 l0_0.length c0_0]] ?_; (with_reducible refine (spec_IsSemigroup.calls k _ _ l0_0 true _ ?side1 ?side2 A2.out).mono ?_); (case side1 => exact cs_ HR0_0 HB); (case side2 => exact HC0_0.out); rintro e w6 ⟨rfl, hb⟩; refine ⟨_, rfl, ?_⟩; replace BK552 := bb_ BK552 hb; replace HB := bs_ HB hb; (try clear hb); (try clear hb2); (try clear hk); (try clear hi); have hcz7_0 := bc_ BK552; have hfz7_0 := blk_frozen BK552.out 0))
  go_ret
  exact ⟨er_, bl_ HB.out⟩
 ·obtain rfl := Bool.eq_false_iff.mpr c3
  rw [if_neg nf_] at H
  obtain rfl := Option.some.inj H
  go_enter Try.func45, Try.ntmps45
  go_wp2_with (first | ((with_reducible refine gate_dst (N := 1) rfl ?_); refine be_ 1 #[.slice A0_0 l0_0.length c0_0] 41 fun gb552 hg w8 hbox hb => ?_; have BK552 := Aside0.mk (hbox); have GW552 := ge_ hg HB; have GE552 := ge_ hg HB; replace HB := bs_ HB hb; clear hb hbox hg; have hcz9_0 := bc_ BK552; have hfz9_0 := blk_frozen BK552.out 0) | ((with_reducible refine gate_callee (f := 41) rfl ?_); refine gl_ 4 Try.func41 #[.agg #[.slice A0_0 l0_0.length c0_0]] ?_; (with_reducible refine (spec_IsSemigroup.calls k _ _ l0_0 false _ ?side1 ?side2 A2.out).mono ?_); (case side1 => exact cs_ HR0_0 HB); (case side2 => exact HC0_0.out); rintro e w10 ⟨rfl, hb⟩; refine ⟨_, rfl, ?_⟩; replace BK552 := bb_ BK552 hb; replace HB := bs_ HB hb; (try clear hb); (try clear hb2); (try clear hk); (try clear hi)))
  go_ret
  exact ⟨er_, bl_ HB.out⟩
end Go.Proofs.Ytbjbolblahlhcaa.PFnWilf
end
section
namespace Go.Proofs.Ytbjbolblahlhcaa.PFnWilf
open Go.RowKit Go.Proofs.YtbjbolblahlhcaaW.PrintWords Go.Proofs.YtbjbolblahlhcaaW.PrintLast Go.Proofs.YtbjbolblahlhcaaW.PrintMore
open Go.Proofs.Ytbjbolblahlhcaa.SortW (bk_ kr_ t_ f_)
open Go.Proofs.Ytbjbolblahlhcaa.SqW
attribute [local go_sem] max2_int min2_int max_two min_two max_three min_three max_four min_four
set_option linter.unusedVariables false
set_option linter.unusedSimpArgs false
def laws_FnWilf.j0 : Nat → Int → Int → Bool → List Int → Option (Bool)
 | 0, _, _, _, _ => none
 | k + 1, x4, x5, x77, x559000 => if x77 = true then (none) else ((spec_GenusOf.f k x559000).bind fun t573 => ((spec_ConductorOf.f k x559000).bind fun t574 => (if (wrap64 (x5 + t573)) = t574 then ((spec_DimensionOf.f k x559000).bind fun t575 => (if t575 = 2 then (if x4 = 0 then ((impl_PrimitiveBelow.f k x559000).bind fun t576 => ((spec_DimensionOf.f k x559000).bind fun t577 => (some (decide (t576 ≤ t577))))) else (none)) else ((impl_PrimitiveBelow.f k x559000).bind fun t578 => ((spec_DimensionOf.f k x559000).bind fun t579 => (some (decide (t578 ≤ t579))))))) else (none))))
def laws_FnWilf.f (k : Nat) (l0 : List Int) : Option (Bool) := (laws_big.f l0).bind fun t554 => (if t554 = true then (some true) else ((spec_DrawWilfNumber.f k l0).bind fun t555 => ((impl_WilfNumber.f k t555).bind fun t559 => ((impl_LeftCount.f k t555).bind fun t560 => ((impl_SporadicDensity.f k t555).bind fun bt561 => ((spec_SporadicDensity.f k t555).bind fun bt563 => ((spec_WilfNumber.f k t555).bind fun t565 => (if t559 = t565 then ((spec_LeftCount.f k t555).bind fun t566 => (if t560 = t566 then ((impl_DepthOf.f k t555).bind fun t567 => ((spec_DepthOf.f k t555).bind fun t568 => (if t567 = t568 then (if bt561.1 = bt563.1 then (if bt561.2 = bt563.2 then ((impl_PrimitiveBelow.f k t555).bind fun t569 => ((spec_PrimitiveBelow.f k t555).bind fun t570 => (if t569 = t570 then ((spec_IsSemigroup.f k t555).bind fun t571 => (if t571 = true then ((spec_MultiplicityOf.f k t555).bind fun t572 => (if t572 ≤ 12 then (laws_FnWilf.j0 k t559 t560 (decide (t559 < 0)) t555) else (laws_FnWilf.j0 k t559 t560 false t555))) else (if t559 = (-1) then (some (t560 == (-1))) else (none)))) else (none)))) else (none)) else (none)) else (none)))) else (none))) else (none)))))))))
def laws_FnWilf.T8 : Bool × List (List Nat × List Nat) := (true, [([], []), ([], []), ([1], [1]), ([0, 2], [0, 2]), ([3, 2], [3]), ([4], [4]), ([4], [4]), ([6, 4, 4], [4, 6]), ([5, 7, 4], [4, 5, 7]), ([4, 8], [4, 8]), ([9, 7], [9]), ([10], [10]), ([11, 10, 10], [10, 11]), ([10], [10]), ([13, 12, 10], [10, 13]), ([12, 14, 10], [10, 12, 14]), ([10, 15], [10, 15]), ([16, 14], [16]), ([17], [17]), ([17], [17]), ([18, 19, 17], [17, 18, 19]), ([17, 20], [17, 20]), ([21, 17], [21]), ([22], [22]), ([22], [22]), ([23, 24, 22], [22, 23, 24]), ([22, 25], [22, 25]), ([26, 22], [26]), ([27], [27]), ([28, 27, 27], [27, 28]), ([27], [27]), ([30, 29, 27], [27, 30]), ([29, 31, 27], [27, 29, 31]), ([27, 32], [27, 32])])
def laws_FnWilf.B8 : List Nat := [0, 0, 2, 7, 15, 31, 31, 95, 255, 511, 1023, 2047, 4095, 2047, 16383, 32767, 65535, 131071, 262143, 262143, 1048575, 2097151, 4194303, 8388607, 8388607, 33554431, 67108863, 134217727, 268435455, 536870911, 268435455, 2147483647, 4294967295, 8589934591]
theorem laws_FnWilf.tab8 : rtab .any (opsOf Try.f5 8) = laws_FnWilf.T8 := by kernel_rfl
theorem laws_FnWilf.bits8 : waitsOk laws_FnWilf.T8.2 laws_FnWilf.B8 = true := by kernel_rfl
def laws_FnWilf.T14 : Bool × List (List Nat × List Nat) := (true, [([], []), ([], []), ([1], [1]), ([0, 2], [0, 2]), ([], []), ([4, 2], [4]), ([3, 5], [3, 5]), ([6, 5], [6]), ([7], [7]), ([8, 7, 7], [7, 8]), ([9, 7], [7, 9]), ([10, 9, 7], [7, 10]), ([11], [11]), ([12, 11], [11, 12]), ([11, 13, 7], [7, 11, 13]), ([7, 14], [7, 14]), ([15, 11], [15]), ([16], [16]), ([17, 16, 16], [16, 17]), ([16], [16]), ([19, 18, 16], [16, 19]), ([18, 20, 16], [16, 18, 20]), ([16, 21], [16, 21]), ([22, 20, 0, 1, 2, 3, 4, 5, 6, 7, 8, 9, 10, 11, 12, 13, 14, 15, 16, 17, 18, 19, 20, 21, 22], [22])])
def laws_FnWilf.B14 : List Nat := [0, 0, 2, 7, 0, 22, 63, 127, 255, 511, 1023, 2047, 4095, 8191, 16383, 32767, 65535, 131071, 262143, 131071, 1048575, 2097151, 4194303, 8388607]
theorem laws_FnWilf.tab14 : rtab .any (opsOf Try.f5 14) = laws_FnWilf.T14 := by kernel_rfl
theorem laws_FnWilf.bits14 : waitsOk laws_FnWilf.T14.2 laws_FnWilf.B14 = true := by kernel_rfl
set_option maxHeartbeats 8000000 in
set_option maxRecDepth 100000 in
theorem laws_FnWilf.calls (k : Nat) (A0 : Option Addr) (c0 : Nat) (l0 : List Int) (r : Bool) (w : World) (hr0 : Kd.C (Kd.int .u8) w A0 l0.length l0) (hc0 : l0.length ≤ c0) (h : laws_FnWilf.f k l0 = some r) :
 Calls Try.prog 5 #[.slice A0 l0.length c0] w fun e w' => e = .returned (.bool r) ∧ Below w.heap.size w w' := by
 have hu41 := Try.underlying41
 have HR0 := Aside0.mk hr0
 have HC0 := Aside0.mk hc0
 clear hr0 hc0
 have HB := Aside0.mk (Below.refl w.heap.size w)
 have H := h
 clear h
 unfold laws_FnWilf.f at H
 obtain ⟨t554, A2, H⟩ := ob_ H
 (try dsimp only at H)
 by_cases c3 : t554 = true
 ·subst c3
  rw [if_pos rfl] at H
  obtain rfl := Option.some.inj H
  go_enter Try.func5, Try.ntmps5
  go_wp2_with (first | ((with_reducible refine gate_callee (f := 17) rfl ?_); refine gl_ 11 Try.func17 #[.slice A0 l0.length c0] ?_; (with_reducible refine (laws_big.calls _ _ l0 true _ ?side1 ?side2 A2.out).mono ?_); (case side1 => repeat (first | exact HR0.out | (with_reducible refine Kd.C_alloc ?_ _) | (with_reducible refine Kd.C_drewN ?_ _) | (with_reducible refine Kd.C_drew ?_))); (case side2 => exact HC0.out); rintro e w' ⟨rfl, ⟨nd, rfl⟩⟩; refine ⟨_, rfl, ?_⟩))
  go_ret
  exact ⟨er_, bl_ HB.out⟩
 ·obtain rfl := Bool.eq_false_iff.mpr c3
  rw [if_neg nf_] at H
  obtain ⟨t555, A4, H⟩ := ob_ H
  (try dsimp only at H)
  obtain ⟨t559, A5, H⟩ := ob_ H
  (try dsimp only at H)
  obtain ⟨t560, A6, H⟩ := ob_ H
  (try dsimp only at H)
  replace H := Option.bind_eq_some_iff.mp H
  obtain ⟨⟨t561, t562⟩, A70, H⟩ := H
  (try dsimp only at H)
  have A7 := Aside0.mk A70
  clear A70
  replace H := Option.bind_eq_some_iff.mp H
  obtain ⟨⟨t563, t564⟩, A80, H⟩ := H
  (try dsimp only at H)
  have A8 := Aside0.mk A80
  clear A80
  obtain ⟨t565, A9, H⟩ := ob_ H
  (try dsimp only at H)
  by_cases c10 : t559 = t565
  ·rw [if_pos c10] at H
   have c10b0 : (t559 == t565) = true := beq_iff_eq.mpr c10
   have c10b1 : (t559 != t565) = false := bne_eq_false_iff_eq.mpr c10
   clear c10
   obtain ⟨t566, A11, H⟩ := ob_ H
   (try dsimp only at H)
   by_cases c12 : t560 = t566
   ·rw [if_pos c12] at H
    have c12b0 : (t560 == t566) = true := beq_iff_eq.mpr c12
    have c12b1 : (t560 != t566) = false := bne_eq_false_iff_eq.mpr c12
    clear c12
    obtain ⟨t567, A13, H⟩ := ob_ H
    (try dsimp only at H)
    obtain ⟨t568, A14, H⟩ := ob_ H
    (try dsimp only at H)
    by_cases c15 : t567 = t568
    ·rw [if_pos c15] at H
     have c15b0 : (t567 == t568) = true := beq_iff_eq.mpr c15
     have c15b1 : (t567 != t568) = false := bne_eq_false_iff_eq.mpr c15
     clear c15
     by_cases c16 : t561 = t563
     ·rw [if_pos c16] at H
      have c16b0 : (t561 == t563) = true := beq_iff_eq.mpr c16
      have c16b1 : (t561 != t563) = false := bne_eq_false_iff_eq.mpr c16
      clear c16
      by_cases c17 : t562 = t564
      ·rw [if_pos c17] at H
       have c17b0 : (t562 == t564) = true := beq_iff_eq.mpr c17
       have c17b1 : (t562 != t564) = false := bne_eq_false_iff_eq.mpr c17
       clear c17
       obtain ⟨t569, A18, H⟩ := ob_ H
       (try dsimp only at H)
       obtain ⟨t570, A19, H⟩ := ob_ H
       (try dsimp only at H)
       by_cases c20 : t569 = t570
       ·rw [if_pos c20] at H
        have c20b0 : (t569 == t570) = true := beq_iff_eq.mpr c20
        have c20b1 : (t569 != t570) = false := bne_eq_false_iff_eq.mpr c20
        clear c20
        obtain ⟨t571, A21, H⟩ := ob_ H
        (try dsimp only at H)
        by_cases c22 : t571 = true
        ·subst c22
         rw [if_pos rfl] at H
         have HC23 := Aside0.mk H
         clear H
         go_enter Try.func5, Try.ntmps5
         try go_wp2_with (first | ((with_reducible refine gate_callee (f := 17) rfl ?_); refine gl_ 11 Try.func17 #[.slice A0 l0.length c0] ?_; (with_reducible refine (laws_big.calls _ _ l0 false _ ?side1 ?side2 A2.out).mono ?_); (case side1 => repeat (first | exact HR0.out | (with_reducible refine Kd.C_alloc ?_ _) | (with_reducible refine Kd.C_drewN ?_ _) | (with_reducible refine Kd.C_drew ?_))); (case side2 => exact HC0.out); rintro e w' ⟨rfl, ⟨nd, rfl⟩⟩; refine ⟨_, rfl, ?_⟩) | ((with_reducible refine gate_callee (f := 30) rfl ?_); refine gl_ 13 Try.func30 #[.slice A0 l0.length c0] ?_; (with_reducible refine (spec_DrawWilfNumber.calls k _ _ l0 t555 _ ?side1 ?side2 A4.out).mono ?_); (case side1 => repeat (first | exact HR0.out | (with_reducible refine Kd.C_alloc ?_ _) | (with_reducible refine Kd.C_drewN ?_ _) | (with_reducible refine Kd.C_drew ?_))); (case side2 => exact HC0.out); rintro e w24 ⟨v556, rfl, ho0, hb⟩; refine ⟨_, rfl, ?_⟩; have HO557 := Aside0.mk (Kd.Q_lower ho0 (below_size (bl_ HB.out))); replace HB := bs_ HB hb; (try clear hb); (try clear hb2); (try clear hk); (try clear hi); (try clear ho0)) | ((with_reducible refine gate_dst (N := 3) rfl ?_); refine be_ 3 #[.slice none 0 0] 41 fun gb558 hg w25 hbox hb => ?_; replace HO557 := qb_ HO557 hb; have BK558 := Aside0.mk (hbox); have GW558 := ge_ hg HB; have GE558 := ge_ hg HB; replace HB := bs_ HB hb; clear hb hbox hg; obtain ⟨Ao26, co26, eo26, _⟩ := Kd.Q_slice HO557.out; subst eo26; have hcz27_0 := bc_ BK558; have hfz27_0 := blk_frozen BK558.out 0) | ((with_reducible refine gate_callee (f := 31) rfl ?_); refine gl_ 15 Try.func31 #[.agg #[.slice Ao26 t555.length co26]] ?_; (with_reducible refine (impl_WilfNumber.calls k _ _ t555 t559 _ ?side1 ?side2 A5.out).mono ?_); (case side1 => refine (Kd.Q_reads' (e := 3) (base := w.heap.size) (ok := fun k_ => True) (n := t555.length) (c := co26) ?_).2.2; exact (kq_ ((Kd.Q_mono (Kd.Q_far (p := ⟨gb558, 0, none⟩) (Kd.Q_types HO557.out BK558.out (by decide)) (fun _ hk => hk.2) (.slice Ao26 t555.length co26)) (fun _ h_ => h_.1))))); (case side2 => exact (Kd.Q_reads' HO557.out).2.1); rintro e w28 ⟨rfl, hb⟩; refine ⟨_, rfl, ?_⟩; replace HO557 := Aside0.mk (Kd.Q_below (kq_ ((Kd.Q_mono (Kd.Q_far (p := ⟨gb558, 0, none⟩) (Kd.Q_types HO557.out BK558.out (by decide)) (fun _ hk => hk.2) (.slice Ao26 t555.length co26)) (fun _ h_ => h_.1)))) hb); replace BK558 := Aside0.mk (blk_below (g := gb558) (o := .cells #[.slice Ao26 t555.length co26] 41 (0, 0)) (by (with_reducible repeat (first | refine blk_drewN ?_ _ | refine blk_drew ?_ | refine blk_alloc ?_ _)); refine blk_put (cs := #[.slice none 0 0]) ?_ 0 _ rfl; (with_reducible repeat (first | refine blk_drewN ?_ _ | refine blk_drew ?_ | refine blk_alloc ?_ _)); exact BK558.out) hb); replace HB := bs_ HB hb; (try clear hb); (try clear hb2); (try clear hk); (try clear hi); have hcz29_0 := bc_ BK558; have hfz29_0 := blk_frozen BK558.out 0) | ((with_reducible refine gate_callee (f := 32) rfl ?_); refine gl_ 17 Try.func32 #[.agg #[.slice Ao26 t555.length co26]] ?_; (with_reducible refine (impl_LeftCount.calls k _ _ t555 t560 _ ?side1 ?side2 A6.out).mono ?_); (case side1 => exact qs_ HO557); (case side2 => exact (Kd.Q_reads' HO557.out).2.1); rintro e w30 ⟨rfl, hb⟩; refine ⟨_, rfl, ?_⟩; replace HO557 := qb_ HO557 hb; replace BK558 := bb_ BK558 hb; replace HB := bs_ HB hb; (try clear hb); (try clear hb2); (try clear hk); (try clear hi); have hcz31_0 := bc_ BK558; have hfz31_0 := blk_frozen BK558.out 0) | ((with_reducible refine gate_callee (f := 33) rfl ?_); refine gl_ 20 Try.func33 #[.agg #[.slice Ao26 t555.length co26]] ?_; (with_reducible refine (impl_SporadicDensity.calls k _ _ t555 t561 t562 _ ?side1 ?side2 A7.out).mono ?_); (case side1 => exact qs_ HO557); (case side2 => exact (Kd.Q_reads' HO557.out).2.1); rintro e w32 ⟨rfl, hb⟩; refine ⟨_, rfl, ?_⟩; replace HO557 := qb_ HO557 hb; replace BK558 := bb_ BK558 hb; replace HB := bs_ HB hb; (try clear hb); (try clear hb2); (try clear hk); (try clear hi); have hcz33_0 := bc_ BK558; have hfz33_0 := blk_frozen BK558.out 0) | ((with_reducible refine gate_callee (f := 34) rfl ?_); refine gl_ 25 Try.func34 #[.agg #[.slice Ao26 t555.length co26]] ?_; (with_reducible refine (spec_SporadicDensity.calls k _ _ t555 t563 t564 _ ?side1 ?side2 A8.out).mono ?_); (case side1 => exact qs_ HO557); (case side2 => exact (Kd.Q_reads' HO557.out).2.1); rintro e w34 ⟨rfl, hb⟩; refine ⟨_, rfl, ?_⟩; replace HO557 := qb_ HO557 hb; replace BK558 := bb_ BK558 hb; replace HB := bs_ HB hb; (try clear hb); (try clear hb2); (try clear hk); (try clear hi)))
         replace HO557 := Aside0.mk (Kd.Q_drew HO557.out)
         replace BK558 := Aside0.mk (blk_drew BK558.out)
         replace HB := Aside0.mk (below_drew1 HB.out)
         refine start_ (n := 34) (S := fun w' => w'.cell? ⟨gb558, 0, none⟩ = some (.slice Ao26 t555.length co26)) (ds := []) (fl_ 34 0) (by kernel_rfl) rfl rfl ((blk_cell BK558.out 0).trans rfl) (fun hHeld => ?_); refine with_tabW laws_FnWilf.tab8 laws_FnWilf.bits8 (fun HT_ HW_ => ?_)
         generalize w34.drew = w35 at HO557 BK558 HB hHeld ⊢
         refine pu_ 0 28 (fl_ 34 1) ?_
         refine ta_ 1 29 (fl_ 34 2) ?_
         refine on_ 2 30 (fl_ 34 3) fun K hK => ?_
         refine go_ Try.func35 #[.agg #[.slice Ao26 t555.length co26]] ?_
         with_reducible refine (spec_WilfNumber.calls k _ _ t555 t565 _ ?side1 ?side2 A9.out).mono ?_
         (case side1 => exact qs_ HO557)
         (case side2 => exact (Kd.Q_reads' HO557.out).2.1)
         rintro e w36 ⟨rfl, hb⟩
         refine ⟨_, rfl, ?_⟩
         replace HO557 := qb_ HO557 hb
         replace BK558 := bb_ BK558 hb
         replace HB := bs_ HB hb
         (try clear hb)
         (try clear hb2)
         (try clear hk)
         (try clear hi)
         refine hK.out _ _ ((blk_cell BK558.out 0).trans rfl) (fun hHeld => ?_)
         clear hK K
         refine no_ 30 ?_
         refine pu_ 3 31 (fl_ 34 4) ?_
         refine pu_ 4 32 (fl_ 34 5) ?_
         refine pu_ 5 33 (fl_ 34 6) ?_
         refine ta_ 6 34 (fl_ 34 7) ?_
         refine on_ 7 35 (fl_ 34 8) fun K hK => ?_
         refine go_ Try.func36 #[.agg #[.slice Ao26 t555.length co26]] ?_
         with_reducible refine (spec_LeftCount.calls k _ _ t555 t566 _ ?side1 ?side2 A11.out).mono ?_
         (case side1 => exact qs_ HO557)
         (case side2 => exact (Kd.Q_reads' HO557.out).2.1)
         rintro e w37 ⟨rfl, hb⟩
         refine ⟨_, rfl, ?_⟩
         replace HO557 := qb_ HO557 hb
         replace BK558 := bb_ BK558 hb
         replace HB := bs_ HB hb
         (try clear hb)
         (try clear hb2)
         (try clear hk)
         (try clear hi)
         refine hK.out _ _ ((blk_cell BK558.out 0).trans rfl) (fun hHeld => ?_)
         clear hK K
         refine no_ 35 ?_
         refine pu_ 8 36 (fl_ 34 9) ?_
         refine pu_ 9 37 (fl_ 34 10) ?_
         refine pu_ 10 38 (fl_ 34 11) ?_
         refine ta_ 11 39 (fl_ 34 12) ?_
         refine ta_ 13 41 (fm_ 34 12287) ?_
         refine on_ 12 40 (fl_ 34 14) fun K hK => ?_
         refine go_ Try.func37 #[.agg #[.slice Ao26 t555.length co26]] ?_
         with_reducible refine (impl_DepthOf.calls k _ _ t555 t567 _ ?side1 ?side2 A13.out).mono ?_
         (case side1 => exact qs_ HO557)
         (case side2 => exact (Kd.Q_reads' HO557.out).2.1)
         rintro e w38 ⟨rfl, hb⟩
         refine ⟨_, rfl, ?_⟩
         replace HO557 := qb_ HO557 hb
         replace BK558 := bb_ BK558 hb
         replace HB := bs_ HB hb
         (try clear hb)
         (try clear hb2)
         (try clear hk)
         (try clear hi)
         refine hK.out _ _ ((blk_cell BK558.out 0).trans rfl) (fun hHeld => ?_)
         clear hK K
         refine no_ 40 ?_
         refine on_ 14 42 (fl_ 34 15) fun K hK => ?_
         refine go_ Try.func38 #[.agg #[.slice Ao26 t555.length co26]] ?_
         with_reducible refine (spec_DepthOf.calls k _ _ t555 t568 _ ?side1 ?side2 A14.out).mono ?_
         (case side1 => exact qs_ HO557)
         (case side2 => exact (Kd.Q_reads' HO557.out).2.1)
         rintro e w39 ⟨rfl, hb⟩
         refine ⟨_, rfl, ?_⟩
         replace HO557 := qb_ HO557 hb
         replace BK558 := bb_ BK558 hb
         replace HB := bs_ HB hb
         (try clear hb)
         (try clear hb2)
         (try clear hk)
         (try clear hi)
         refine hK.out _ _ ((blk_cell BK558.out 0).trans rfl) (fun hHeld => ?_)
         clear hK K
         refine no_ 42 ?_
         refine pu_ 15 43 (fl_ 34 16) ?_
         refine pu_ 16 44 (fl_ 34 17) ?_
         refine pu_ 17 45 (fl_ 34 18) ?_
         refine pu_ 18 46 (fl_ 34 19) ?_
         refine pu_ 19 47 (fl_ 34 20) ?_
         refine pu_ 20 48 (fl_ 34 21) ?_
         refine pu_ 21 49 (fl_ 34 22) ?_
         refine pu_ 22 50 (fl_ 34 23) ?_
         refine pu_ 23 51 (fl_ 34 24) ?_
         refine pu_ 24 52 (fl_ 34 25) ?_
         refine pu_ 25 53 (fl_ 34 26) ?_
         refine pu_ 26 54 (fl_ 34 27) ?_
         refine pu_ 27 55 (fl_ 34 28) ?_
         refine ta_ 28 56 (fl_ 34 29) ?_
         refine ta_ 30 58 (fm_ 34 1610612735) ?_
         refine on_ 29 57 (fl_ 34 31) fun K hK => ?_
         refine go_ Try.func39 #[.agg #[.slice Ao26 t555.length co26]] ?_
         with_reducible refine (impl_PrimitiveBelow.calls k _ _ t555 t569 _ ?side1 ?side2 A18.out).mono ?_
         (case side1 => exact qs_ HO557)
         (case side2 => exact (Kd.Q_reads' HO557.out).2.1)
         rintro e w40 ⟨rfl, hb⟩
         refine ⟨_, rfl, ?_⟩
         replace HO557 := qb_ HO557 hb
         replace BK558 := bb_ BK558 hb
         replace HB := bs_ HB hb
         (try clear hb)
         (try clear hb2)
         (try clear hk)
         (try clear hi)
         refine hK.out _ _ ((blk_cell BK558.out 0).trans rfl) (fun hHeld => ?_)
         clear hK K
         refine no_ 57 ?_
         refine on_ 31 59 (fl_ 34 32) fun K hK => ?_
         refine go_ Try.func40 #[.agg #[.slice Ao26 t555.length co26]] ?_
         with_reducible refine (spec_PrimitiveBelow.calls k _ _ t555 t570 _ ?side1 ?side2 A19.out).mono ?_
         (case side1 => exact qs_ HO557)
         (case side2 => exact (Kd.Q_reads' HO557.out).2.1)
         rintro e w41 ⟨rfl, hb⟩
         refine ⟨_, rfl, ?_⟩
         replace HO557 := qb_ HO557 hb
         replace BK558 := bb_ BK558 hb
         replace HB := bs_ HB hb
         (try clear hb)
         (try clear hb2)
         (try clear hk)
         (try clear hi)
         refine hK.out _ _ ((blk_cell BK558.out 0).trans rfl) (fun hHeld => ?_)
         clear hK K
         refine no_ 59 ?_
         refine pu_ 32 60 (fl_ 34 33) ?_
         refine pu_ 33 61 (fl_ 34 34) ?_
         refine done_ (done_of HT_.out (by kernel_rfl)) ?_
         have hcz42_0 := bc_ BK558
         have hfz42_0 := blk_frozen BK558.out 0
         go_upto_region 12 with (first | ((with_reducible refine gate_callee (f := 41) rfl ?_); refine gl_ 63 Try.func41 #[.agg #[.slice Ao26 t555.length co26]] ?_; (with_reducible refine (spec_IsSemigroup.calls k _ _ t555 true _ ?side1 ?side2 A21.out).mono ?_); (case side1 => exact qs_ HO557); (case side2 => exact (Kd.Q_reads' HO557.out).2.1); rintro e w43 ⟨rfl, hb⟩; refine ⟨_, rfl, ?_⟩; replace HO557 := qb_ HO557 hb; replace BK558 := bb_ BK558 hb; replace HB := bs_ HB hb; (try clear hb); (try clear hb2); (try clear hk); (try clear hi)))
         (try simp only [Act.put, List.setIfInBounds_toArray, List.set_cons_zero, List.set_cons_succ])
         go_cut [77] (fun v77 wc => ∃ (kq : Nat) (x77_22 : Bool), v77 = .bool x77_22 ∧ Aside0 (laws_FnWilf.j0 kq t559 t560 x77_22 t555 = some r) ∧ Aside0 (kq ≤ k) ∧ Aside0 (Kd.Q (Kd.int .i64) 3 wc w.heap.size (fun _ => True) (.slice Ao26 t555.length co26) t555) ∧ Aside0 (wc.heap[gb558]? = some (.cells #[(.slice Ao26 t555.length co26)] 41 (0, 0))) ∧ Aside0 (Below w.heap.size w wc))
         case first =>
          have H := HC23.out
          clear HC23
          obtain ⟨t572, A44, H⟩ := ob_ H
          (try dsimp only at H)
          by_cases c45 : t572 ≤ 12
          ·rw [if_pos c45] at H
           have c45b0 : decide (t572 ≤ 12) = true := decide_eq_true c45
           clear c45
           (first | rw [c45b0] | (simp only [i64_w, i32_w]; rw [c45b0]) | skip)
           have H' := Aside0.mk H
           clear H
           have hcz46_0 := bc_ BK558
           have hfz46_0 := blk_frozen BK558.out 0
           go_wp2_with (first | ((with_reducible refine gate_callee (f := 42) rfl ?_); refine gl_ 72 Try.func42 #[.agg #[.slice Ao26 t555.length co26]] ?_; (with_reducible refine (spec_MultiplicityOf.calls k _ _ t555 t572 _ ?side1 ?side2 A44.out).mono ?_); (case side1 => exact qs_ HO557); (case side2 => exact (Kd.Q_reads' HO557.out).2.1); rintro e w47 ⟨rfl, hb⟩; refine ⟨_, rfl, ?_⟩; replace HO557 := qb_ HO557 hb; replace BK558 := bb_ BK558 hb; replace HB := bs_ HB hb; (try clear hb); (try clear hb2); (try clear hk); (try clear hi)))
           go_meet
           case rel => exact ⟨_, (decide (t559 < 0)), sd_, H', ⟨le_⟩, ⟨kq_ HO557.out⟩, ⟨bk_ BK558.out⟩, ⟨bl_ HB.out⟩⟩
          ·rw [if_neg c45] at H
           have c45b0 : decide (t572 ≤ 12) = false := decide_eq_false c45
           clear c45
           (first | rw [c45b0] | (simp only [i64_w, i32_w]; rw [c45b0]) | skip)
           have H' := Aside0.mk H
           clear H
           have hcz48_0 := bc_ BK558
           have hfz48_0 := blk_frozen BK558.out 0
           go_wp2_with (first | ((with_reducible refine gate_callee (f := 42) rfl ?_); refine gl_ 72 Try.func42 #[.agg #[.slice Ao26 t555.length co26]] ?_; (with_reducible refine (spec_MultiplicityOf.calls k _ _ t555 t572 _ ?side1 ?side2 A44.out).mono ?_); (case side1 => exact qs_ HO557); (case side2 => exact (Kd.Q_reads' HO557.out).2.1); rintro e w49 ⟨rfl, hb⟩; refine ⟨_, rfl, ?_⟩; replace HO557 := qb_ HO557 hb; replace BK558 := bb_ BK558 hb; replace HB := bs_ HB hb; (try clear hb); (try clear hb2); (try clear hk); (try clear hi)))
           go_meet
           case rel => exact ⟨_, (false), sd_, H', ⟨le_⟩, ⟨kq_ HO557.out⟩, ⟨bk_ BK558.out⟩, ⟨bl_ HB.out⟩⟩
         case rest =>
          clear HC23
          try clear c1
          try clear c2
          try clear p2
          try clear c3
          try clear c4
          try clear c5
          try clear c10
          try clear c10b0
          try clear c10b1
          try clear c12
          try clear c12b0
          try clear c12b1
          try clear c15
          try clear c15b0
          try clear c15b1
          try clear c16
          try clear c16b0
          try clear c16b1
          try clear c17
          try clear c17b0
          try clear c17b1
          try clear c20
          try clear c20b0
          try clear c20b1
          try clear c22
          try clear c30
          try clear c31
          try clear c32
          try clear c33
          try clear c34
          try clear c35
          try clear c36
          try clear c37
          try clear c38
          try clear c39
          try clear c40
          try clear c41
          try clear c42
          try clear c45
          try clear c45b0
          try clear hcz27_0
          try clear hcz29_0
          try clear hcz31_0
          try clear hcz33_0
          try clear hcz42_0
          try clear hcz46_0
          try clear hcz48_0
          try clear hfz27_0
          try clear hfz29_0
          try clear hfz31_0
          try clear hfz33_0
          try clear hfz42_0
          try clear hfz46_0
          try clear hfz48_0
          obtain ⟨kq, x77_22, rfl, HA, HJ22, HO_559000, BK558, HB⟩ := hcut
          cases kq with
          | zero => exact absurd HA.out (by simp [laws_FnWilf.j0])
          | succ kj22 =>
           have H := HA.out
           clear HA
           simp only [laws_FnWilf.j0] at H
           by_cases c50 : x77_22 = true
           ·subst c50
            rw [if_pos rfl] at H
            exact absurd H (by simp)
           ·obtain rfl := Bool.eq_false_iff.mpr c50
            rw [if_neg nf_] at H
            obtain ⟨t573, A51, H⟩ := ob_ H
            (try dsimp only at H)
            obtain ⟨t574, A52, H⟩ := ob_ H
            (try dsimp only at H)
            by_cases c53 : (wrap64 (t560 + t573)) = t574
            ·rw [if_pos c53] at H
             have c53b0 : ((wrap64 (t560 + t573)) == t574) = true := beq_iff_eq.mpr c53
             have c53b1 : ((wrap64 (t560 + t573)) != t574) = false := bne_eq_false_iff_eq.mpr c53
             clear c53
             obtain ⟨t575, A54, H⟩ := ob_ H
             (try dsimp only at H)
             by_cases c55 : t575 = 2
             ·rw [if_pos c55] at H
              have c55b0 : (t575 == 2) = true := beq_iff_eq.mpr c55
              have c55b1 : (t575 != 2) = false := bne_eq_false_iff_eq.mpr c55
              clear c55
              by_cases c56 : t559 = 0
              ·rw [if_pos c56] at H
               have c56b0 : (t559 == 0) = true := beq_iff_eq.mpr c56
               have c56b1 : (t559 != 0) = false := bne_eq_false_iff_eq.mpr c56
               clear c56
               obtain ⟨t576, A57, H⟩ := ob_ H
               (try dsimp only at H)
               obtain ⟨t577, A58, H⟩ := ob_ H
               (try dsimp only at H)
               obtain rfl := Option.some.inj H
               try go_wp2
               replace HO_559000 := Aside0.mk (Kd.Q_drew HO_559000.out)
               replace BK558 := Aside0.mk (blk_drew BK558.out)
               replace HB := Aside0.mk (below_drew1 HB.out)
               refine start_ (n := 24) (S := fun w' => w'.cell? ⟨gb558, 0, none⟩ = some (.slice Ao26 t555.length co26)) (ds := []) (fl_ 24 0) (by kernel_rfl) rfl rfl ((blk_cell BK558.out 0).trans rfl) (fun hHeld => ?_); refine with_tabW laws_FnWilf.tab14 laws_FnWilf.bits14 (fun HT_ HW_ => ?_)
               generalize wc.drew = w59 at HO_559000 BK558 HB hHeld ⊢
               refine pu_ 0 78 (fl_ 24 1) ?_
               refine ta_ 1 79 (fl_ 24 2) ?_
               refine ta_ 4 82 (fm_ 24 19) ?_
               refine on_ 2 80 (fm_ 24 23) fun K hK => ?_
               refine go_ Try.func43 #[.agg #[.slice Ao26 t555.length co26]] ?_
               with_reducible refine (spec_GenusOf.calls kj22 _ _ t555 t573 _ ?side1 ?side2 A51.out).mono ?_
               (case side1 => exact qs_ HO_559000)
               (case side2 => exact (Kd.Q_reads' HO_559000.out).2.1)
               rintro e w60 ⟨rfl, hb⟩
               refine ⟨_, rfl, ?_⟩
               replace HO_559000 := qb_ HO_559000 hb
               replace BK558 := bb_ BK558 hb
               replace HB := bs_ HB hb
               (try clear hb)
               (try clear hb2)
               (try clear hk)
               (try clear hi)
               refine hK.out _ _ ((blk_cell BK558.out 0).trans rfl) (fun hHeld => ?_)
               clear hK K
               refine no_ 80 ?_
               refine pu_ 3 81 (fl_ 24 5) ?_
               refine on_ 5 83 (fl_ 24 6) fun K hK => ?_
               refine go_ Try.func44 #[.agg #[.slice Ao26 t555.length co26]] ?_
               with_reducible refine (spec_ConductorOf.calls kj22 _ _ t555 t574 _ ?side1 ?side2 A52.out).mono ?_
               (case side1 => exact qs_ HO_559000)
               (case side2 => exact (Kd.Q_reads' HO_559000.out).2.1)
               rintro e w61 ⟨rfl, hb⟩
               refine ⟨_, rfl, ?_⟩
               replace HO_559000 := qb_ HO_559000 hb
               replace BK558 := bb_ BK558 hb
               replace HB := bs_ HB hb
               (try clear hb)
               (try clear hb2)
               (try clear hk)
               (try clear hi)
               refine hK.out _ _ ((blk_cell BK558.out 0).trans rfl) (fun hHeld => ?_)
               clear hK K
               refine no_ 83 ?_
               refine pu_ 6 84 (fl_ 24 7) ?_
               refine pu_ 7 85 (fl_ 24 8) ?_
               refine ta_ 8 86 (fl_ 24 9) ?_
               refine on_ 9 87 (fl_ 24 10) fun K hK => ?_
               refine go_ Try.func45 #[.agg #[.slice Ao26 t555.length co26]] ?_
               with_reducible refine (spec_DimensionOf.calls kj22 _ _ t555 t575 _ ?side1 ?side2 A54.out).mono ?_
               (case side1 => exact qs_ HO_559000)
               (case side2 => exact (Kd.Q_reads' HO_559000.out).2.1)
               rintro e w62 ⟨rfl, hb⟩
               refine ⟨_, rfl, ?_⟩
               replace HO_559000 := qb_ HO_559000 hb
               replace BK558 := bb_ BK558 hb
               replace HB := bs_ HB hb
               (try clear hb)
               (try clear hb2)
               (try clear hk)
               (try clear hi)
               refine hK.out _ _ ((blk_cell BK558.out 0).trans rfl) (fun hHeld => ?_)
               clear hK K
               refine no_ 87 ?_
               refine pu_ 10 88 (fl_ 24 11) ?_
               refine pu_ 11 89 (fl_ 24 12) ?_
               refine pu_ 12 90 (fl_ 24 13) ?_
               refine pu_ 13 91 (fl_ 24 14) ?_
               refine pu_ 14 92 (fl_ 24 15) ?_
               refine pu_ 15 93 (fl_ 24 16) ?_
               refine pu_ 16 94 (fl_ 24 17) ?_
               refine ta_ 17 95 (fl_ 24 18) ?_
               refine ta_ 19 97 (fm_ 24 786431) ?_
               refine on_ 18 96 (fl_ 24 20) fun K hK => ?_
               refine go_ Try.func39 #[.agg #[.slice Ao26 t555.length co26]] ?_
               with_reducible refine (impl_PrimitiveBelow.calls kj22 _ _ t555 t576 _ ?side1 ?side2 A57.out).mono ?_
               (case side1 => exact qs_ HO_559000)
               (case side2 => exact (Kd.Q_reads' HO_559000.out).2.1)
               rintro e w63 ⟨rfl, hb⟩
               refine ⟨_, rfl, ?_⟩
               replace HO_559000 := qb_ HO_559000 hb
               replace BK558 := bb_ BK558 hb
               replace HB := bs_ HB hb
               (try clear hb)
               (try clear hb2)
               (try clear hk)
               (try clear hi)
               refine hK.out _ _ ((blk_cell BK558.out 0).trans rfl) (fun hHeld => ?_)
               clear hK K
               refine no_ 96 ?_
               refine on_ 20 98 (fl_ 24 21) fun K hK => ?_
               refine go_ Try.func45 #[.agg #[.slice Ao26 t555.length co26]] ?_
               with_reducible refine (spec_DimensionOf.calls kj22 _ _ t555 t577 _ ?side1 ?side2 A58.out).mono ?_
               (case side1 => exact qs_ HO_559000)
               (case side2 => exact (Kd.Q_reads' HO_559000.out).2.1)
               rintro e w64 ⟨rfl, hb⟩
               refine ⟨_, rfl, ?_⟩
               replace HO_559000 := qb_ HO_559000 hb
               replace BK558 := bb_ BK558 hb
               replace HB := bs_ HB hb
               (try clear hb)
               (try clear hb2)
               (try clear hk)
               (try clear hi)
               refine hK.out _ _ ((blk_cell BK558.out 0).trans rfl) (fun hHeld => ?_)
               clear hK K
               refine no_ 98 ?_
               refine pu_ 21 99 (fl_ 24 22) ?_
               refine pu_ 22 100 (fl_ 24 23) ?_
               refine pu_ 23 2 (fl_ 24 24) ?_
               refine done_ (done_of HT_.out (by kernel_rfl)) ?_
               try go_wp2
               go_ret
               exact ⟨er_, bl_ HB.out⟩
              ·rw [if_neg c56] at H
               have c56b0 : (t559 == 0) = false := beq_eq_false_iff_ne.mpr c56
               have c56b1 : (t559 != 0) = true := bne_iff_ne.mpr c56
               exact absurd H (by simp)
             ·rw [if_neg c55] at H
              have c55b0 : (t575 == 2) = false := beq_eq_false_iff_ne.mpr c55
              have c55b1 : (t575 != 2) = true := bne_iff_ne.mpr c55
              obtain ⟨t578, A65, H⟩ := ob_ H
              (try dsimp only at H)
              obtain ⟨t579, A66, H⟩ := ob_ H
              (try dsimp only at H)
              obtain rfl := Option.some.inj H
              try go_wp2
              replace HO_559000 := Aside0.mk (Kd.Q_drew HO_559000.out)
              replace BK558 := Aside0.mk (blk_drew BK558.out)
              replace HB := Aside0.mk (below_drew1 HB.out)
              refine start_ (n := 24) (S := fun w' => w'.cell? ⟨gb558, 0, none⟩ = some (.slice Ao26 t555.length co26)) (ds := []) (fl_ 24 0) (by kernel_rfl) rfl rfl ((blk_cell BK558.out 0).trans rfl) (fun hHeld => ?_); refine with_tabW laws_FnWilf.tab14 laws_FnWilf.bits14 (fun HT_ HW_ => ?_)
              generalize wc.drew = w67 at HO_559000 BK558 HB hHeld ⊢
              refine pu_ 0 78 (fl_ 24 1) ?_
              refine ta_ 1 79 (fl_ 24 2) ?_
              refine ta_ 4 82 (fm_ 24 19) ?_
              refine on_ 2 80 (fm_ 24 23) fun K hK => ?_
              refine go_ Try.func43 #[.agg #[.slice Ao26 t555.length co26]] ?_
              with_reducible refine (spec_GenusOf.calls kj22 _ _ t555 t573 _ ?side1 ?side2 A51.out).mono ?_
              (case side1 => exact qs_ HO_559000)
              (case side2 => exact (Kd.Q_reads' HO_559000.out).2.1)
              rintro e w68 ⟨rfl, hb⟩
              refine ⟨_, rfl, ?_⟩
              replace HO_559000 := qb_ HO_559000 hb
              replace BK558 := bb_ BK558 hb
              replace HB := bs_ HB hb
              (try clear hb)
              (try clear hb2)
              (try clear hk)
              (try clear hi)
              refine hK.out _ _ ((blk_cell BK558.out 0).trans rfl) (fun hHeld => ?_)
              clear hK K
              refine no_ 80 ?_
              refine pu_ 3 81 (fl_ 24 5) ?_
              refine on_ 5 83 (fl_ 24 6) fun K hK => ?_
              refine go_ Try.func44 #[.agg #[.slice Ao26 t555.length co26]] ?_
              with_reducible refine (spec_ConductorOf.calls kj22 _ _ t555 t574 _ ?side1 ?side2 A52.out).mono ?_
              (case side1 => exact qs_ HO_559000)
              (case side2 => exact (Kd.Q_reads' HO_559000.out).2.1)
              rintro e w69 ⟨rfl, hb⟩
              refine ⟨_, rfl, ?_⟩
              replace HO_559000 := qb_ HO_559000 hb
              replace BK558 := bb_ BK558 hb
              replace HB := bs_ HB hb
              (try clear hb)
              (try clear hb2)
              (try clear hk)
              (try clear hi)
              refine hK.out _ _ ((blk_cell BK558.out 0).trans rfl) (fun hHeld => ?_)
              clear hK K
              refine no_ 83 ?_
              refine pu_ 6 84 (fl_ 24 7) ?_
              refine pu_ 7 85 (fl_ 24 8) ?_
              refine ta_ 8 86 (fl_ 24 9) ?_
              refine on_ 9 87 (fl_ 24 10) fun K hK => ?_
              refine go_ Try.func45 #[.agg #[.slice Ao26 t555.length co26]] ?_
              with_reducible refine (spec_DimensionOf.calls kj22 _ _ t555 t575 _ ?side1 ?side2 A54.out).mono ?_
              (case side1 => exact qs_ HO_559000)
              (case side2 => exact (Kd.Q_reads' HO_559000.out).2.1)
              rintro e w70 ⟨rfl, hb⟩
              refine ⟨_, rfl, ?_⟩
              replace HO_559000 := qb_ HO_559000 hb
              replace BK558 := bb_ BK558 hb
              replace HB := bs_ HB hb
              (try clear hb)
              (try clear hb2)
              (try clear hk)
              (try clear hi)
              refine hK.out _ _ ((blk_cell BK558.out 0).trans rfl) (fun hHeld => ?_)
              clear hK K
              refine no_ 87 ?_
              refine pu_ 10 88 (fl_ 24 11) ?_
              refine pu_ 11 89 (fl_ 24 12) ?_
              refine un_ 12 90 (fl_ 24 13) ?_
              refine un_ 13 91 (fl_ 24 14) ?_
              refine pu_ 14 92 (fl_ 24 15) ?_
              refine pu_ 15 93 (fl_ 24 16) ?_
              refine pu_ 16 94 (fl_ 24 17) ?_
              refine ta_ 17 95 (fl_ 24 18) ?_
              refine ta_ 19 97 (fm_ 24 786431) ?_
              refine on_ 18 96 (fl_ 24 20) fun K hK => ?_
              refine go_ Try.func39 #[.agg #[.slice Ao26 t555.length co26]] ?_
              with_reducible refine (impl_PrimitiveBelow.calls kj22 _ _ t555 t578 _ ?side1 ?side2 A65.out).mono ?_
              (case side1 => exact qs_ HO_559000)
              (case side2 => exact (Kd.Q_reads' HO_559000.out).2.1)
              rintro e w71 ⟨rfl, hb⟩
              refine ⟨_, rfl, ?_⟩
              replace HO_559000 := qb_ HO_559000 hb
              replace BK558 := bb_ BK558 hb
              replace HB := bs_ HB hb
              (try clear hb)
              (try clear hb2)
              (try clear hk)
              (try clear hi)
              refine hK.out _ _ ((blk_cell BK558.out 0).trans rfl) (fun hHeld => ?_)
              clear hK K
              refine no_ 96 ?_
              refine on_ 20 98 (fl_ 24 21) fun K hK => ?_
              refine go_ Try.func45 #[.agg #[.slice Ao26 t555.length co26]] ?_
              with_reducible refine (spec_DimensionOf.calls kj22 _ _ t555 t579 _ ?side1 ?side2 A66.out).mono ?_
              (case side1 => exact qs_ HO_559000)
              (case side2 => exact (Kd.Q_reads' HO_559000.out).2.1)
              rintro e w72 ⟨rfl, hb⟩
              refine ⟨_, rfl, ?_⟩
              replace HO_559000 := qb_ HO_559000 hb
              replace BK558 := bb_ BK558 hb
              replace HB := bs_ HB hb
              (try clear hb)
              (try clear hb2)
              (try clear hk)
              (try clear hi)
              refine hK.out _ _ ((blk_cell BK558.out 0).trans rfl) (fun hHeld => ?_)
              clear hK K
              refine no_ 98 ?_
              refine pu_ 21 99 (fl_ 24 22) ?_
              refine pu_ 22 100 (fl_ 24 23) ?_
              refine pu_ 23 2 (fl_ 24 24) ?_
              refine done_ (done_of HT_.out (by kernel_rfl)) ?_
              try go_wp2
              go_ret
              exact ⟨er_, bl_ HB.out⟩
            ·rw [if_neg c53] at H
             have c53b0 : ((wrap64 (t560 + t573)) == t574) = false := beq_eq_false_iff_ne.mpr c53
             have c53b1 : ((wrap64 (t560 + t573)) != t574) = true := bne_iff_ne.mpr c53
             exact absurd H (by simp)
        ·obtain rfl := Bool.eq_false_iff.mpr c22
         rw [if_neg nf_] at H
         by_cases c73 : t559 = (-1)
         ·rw [if_pos c73] at H
          have c73b0 : (t559 == (-1)) = true := beq_iff_eq.mpr c73
          have c73b1 : (t559 != (-1)) = false := bne_eq_false_iff_eq.mpr c73
          clear c73
          obtain rfl := Option.some.inj H
          go_enter Try.func5, Try.ntmps5
          try go_wp2_with (first | ((with_reducible refine gate_callee (f := 17) rfl ?_); refine gl_ 11 Try.func17 #[.slice A0 l0.length c0] ?_; (with_reducible refine (laws_big.calls _ _ l0 false _ ?side1 ?side2 A2.out).mono ?_); (case side1 => repeat (first | exact HR0.out | (with_reducible refine Kd.C_alloc ?_ _) | (with_reducible refine Kd.C_drewN ?_ _) | (with_reducible refine Kd.C_drew ?_))); (case side2 => exact HC0.out); rintro e w' ⟨rfl, ⟨nd, rfl⟩⟩; refine ⟨_, rfl, ?_⟩) | ((with_reducible refine gate_callee (f := 30) rfl ?_); refine gl_ 13 Try.func30 #[.slice A0 l0.length c0] ?_; (with_reducible refine (spec_DrawWilfNumber.calls k _ _ l0 t555 _ ?side1 ?side2 A4.out).mono ?_); (case side1 => repeat (first | exact HR0.out | (with_reducible refine Kd.C_alloc ?_ _) | (with_reducible refine Kd.C_drewN ?_ _) | (with_reducible refine Kd.C_drew ?_))); (case side2 => exact HC0.out); rintro e w74 ⟨v556, rfl, ho0, hb⟩; refine ⟨_, rfl, ?_⟩; have HO557 := Aside0.mk (Kd.Q_lower ho0 (below_size (bl_ HB.out))); replace HB := bs_ HB hb; (try clear hb); (try clear hb2); (try clear hk); (try clear hi); (try clear ho0)) | ((with_reducible refine gate_dst (N := 3) rfl ?_); refine be_ 3 #[.slice none 0 0] 41 fun gb558 hg w75 hbox hb => ?_; replace HO557 := qb_ HO557 hb; have BK558 := Aside0.mk (hbox); have GW558 := ge_ hg HB; have GE558 := ge_ hg HB; replace HB := bs_ HB hb; clear hb hbox hg; obtain ⟨Ao76, co76, eo76, _⟩ := Kd.Q_slice HO557.out; subst eo76; have hcz77_0 := bc_ BK558; have hfz77_0 := blk_frozen BK558.out 0) | ((with_reducible refine gate_callee (f := 31) rfl ?_); refine gl_ 15 Try.func31 #[.agg #[.slice Ao76 t555.length co76]] ?_; (with_reducible refine (impl_WilfNumber.calls k _ _ t555 t559 _ ?side1 ?side2 A5.out).mono ?_); (case side1 => refine (Kd.Q_reads' (e := 3) (base := w.heap.size) (ok := fun k_ => True) (n := t555.length) (c := co76) ?_).2.2; exact (kq_ ((Kd.Q_mono (Kd.Q_far (p := ⟨gb558, 0, none⟩) (Kd.Q_types HO557.out BK558.out (by decide)) (fun _ hk => hk.2) (.slice Ao76 t555.length co76)) (fun _ h_ => h_.1))))); (case side2 => exact (Kd.Q_reads' HO557.out).2.1); rintro e w78 ⟨rfl, hb⟩; refine ⟨_, rfl, ?_⟩; replace HO557 := Aside0.mk (Kd.Q_below (kq_ ((Kd.Q_mono (Kd.Q_far (p := ⟨gb558, 0, none⟩) (Kd.Q_types HO557.out BK558.out (by decide)) (fun _ hk => hk.2) (.slice Ao76 t555.length co76)) (fun _ h_ => h_.1)))) hb); replace BK558 := Aside0.mk (blk_below (g := gb558) (o := .cells #[.slice Ao76 t555.length co76] 41 (0, 0)) (by (with_reducible repeat (first | refine blk_drewN ?_ _ | refine blk_drew ?_ | refine blk_alloc ?_ _)); refine blk_put (cs := #[.slice none 0 0]) ?_ 0 _ rfl; (with_reducible repeat (first | refine blk_drewN ?_ _ | refine blk_drew ?_ | refine blk_alloc ?_ _)); exact BK558.out) hb); replace HB := bs_ HB hb; (try clear hb); (try clear hb2); (try clear hk); (try clear hi); have hcz79_0 := bc_ BK558; have hfz79_0 := blk_frozen BK558.out 0) | ((with_reducible refine gate_callee (f := 32) rfl ?_); refine gl_ 17 Try.func32 #[.agg #[.slice Ao76 t555.length co76]] ?_; (with_reducible refine (impl_LeftCount.calls k _ _ t555 t560 _ ?side1 ?side2 A6.out).mono ?_); (case side1 => exact qs_ HO557); (case side2 => exact (Kd.Q_reads' HO557.out).2.1); rintro e w80 ⟨rfl, hb⟩; refine ⟨_, rfl, ?_⟩; replace HO557 := qb_ HO557 hb; replace BK558 := bb_ BK558 hb; replace HB := bs_ HB hb; (try clear hb); (try clear hb2); (try clear hk); (try clear hi); have hcz81_0 := bc_ BK558; have hfz81_0 := blk_frozen BK558.out 0) | ((with_reducible refine gate_callee (f := 33) rfl ?_); refine gl_ 20 Try.func33 #[.agg #[.slice Ao76 t555.length co76]] ?_; (with_reducible refine (impl_SporadicDensity.calls k _ _ t555 t561 t562 _ ?side1 ?side2 A7.out).mono ?_); (case side1 => exact qs_ HO557); (case side2 => exact (Kd.Q_reads' HO557.out).2.1); rintro e w82 ⟨rfl, hb⟩; refine ⟨_, rfl, ?_⟩; replace HO557 := qb_ HO557 hb; replace BK558 := bb_ BK558 hb; replace HB := bs_ HB hb; (try clear hb); (try clear hb2); (try clear hk); (try clear hi); have hcz83_0 := bc_ BK558; have hfz83_0 := blk_frozen BK558.out 0) | ((with_reducible refine gate_callee (f := 34) rfl ?_); refine gl_ 25 Try.func34 #[.agg #[.slice Ao76 t555.length co76]] ?_; (with_reducible refine (spec_SporadicDensity.calls k _ _ t555 t563 t564 _ ?side1 ?side2 A8.out).mono ?_); (case side1 => exact qs_ HO557); (case side2 => exact (Kd.Q_reads' HO557.out).2.1); rintro e w84 ⟨rfl, hb⟩; refine ⟨_, rfl, ?_⟩; replace HO557 := qb_ HO557 hb; replace BK558 := bb_ BK558 hb; replace HB := bs_ HB hb; (try clear hb); (try clear hb2); (try clear hk); (try clear hi)))
          replace HO557 := Aside0.mk (Kd.Q_drew HO557.out)
          replace BK558 := Aside0.mk (blk_drew BK558.out)
          replace HB := Aside0.mk (below_drew1 HB.out)
          refine start_ (n := 34) (S := fun w' => w'.cell? ⟨gb558, 0, none⟩ = some (.slice Ao76 t555.length co76)) (ds := []) (fl_ 34 0) (by kernel_rfl) rfl rfl ((blk_cell BK558.out 0).trans rfl) (fun hHeld => ?_); refine with_tabW laws_FnWilf.tab8 laws_FnWilf.bits8 (fun HT_ HW_ => ?_)
          generalize w84.drew = w85 at HO557 BK558 HB hHeld ⊢
          refine pu_ 0 28 (fl_ 34 1) ?_
          refine ta_ 1 29 (fl_ 34 2) ?_
          refine on_ 2 30 (fl_ 34 3) fun K hK => ?_
          refine go_ Try.func35 #[.agg #[.slice Ao76 t555.length co76]] ?_
          with_reducible refine (spec_WilfNumber.calls k _ _ t555 t565 _ ?side1 ?side2 A9.out).mono ?_
          (case side1 => exact qs_ HO557)
          (case side2 => exact (Kd.Q_reads' HO557.out).2.1)
          rintro e w86 ⟨rfl, hb⟩
          refine ⟨_, rfl, ?_⟩
          replace HO557 := qb_ HO557 hb
          replace BK558 := bb_ BK558 hb
          replace HB := bs_ HB hb
          (try clear hb)
          (try clear hb2)
          (try clear hk)
          (try clear hi)
          refine hK.out _ _ ((blk_cell BK558.out 0).trans rfl) (fun hHeld => ?_)
          clear hK K
          refine no_ 30 ?_
          refine pu_ 3 31 (fl_ 34 4) ?_
          refine pu_ 4 32 (fl_ 34 5) ?_
          refine pu_ 5 33 (fl_ 34 6) ?_
          refine ta_ 6 34 (fl_ 34 7) ?_
          refine on_ 7 35 (fl_ 34 8) fun K hK => ?_
          refine go_ Try.func36 #[.agg #[.slice Ao76 t555.length co76]] ?_
          with_reducible refine (spec_LeftCount.calls k _ _ t555 t566 _ ?side1 ?side2 A11.out).mono ?_
          (case side1 => exact qs_ HO557)
          (case side2 => exact (Kd.Q_reads' HO557.out).2.1)
          rintro e w87 ⟨rfl, hb⟩
          refine ⟨_, rfl, ?_⟩
          replace HO557 := qb_ HO557 hb
          replace BK558 := bb_ BK558 hb
          replace HB := bs_ HB hb
          (try clear hb)
          (try clear hb2)
          (try clear hk)
          (try clear hi)
          refine hK.out _ _ ((blk_cell BK558.out 0).trans rfl) (fun hHeld => ?_)
          clear hK K
          refine no_ 35 ?_
          refine pu_ 8 36 (fl_ 34 9) ?_
          refine pu_ 9 37 (fl_ 34 10) ?_
          refine pu_ 10 38 (fl_ 34 11) ?_
          refine ta_ 11 39 (fl_ 34 12) ?_
          refine ta_ 13 41 (fm_ 34 12287) ?_
          refine on_ 12 40 (fl_ 34 14) fun K hK => ?_
          refine go_ Try.func37 #[.agg #[.slice Ao76 t555.length co76]] ?_
          with_reducible refine (impl_DepthOf.calls k _ _ t555 t567 _ ?side1 ?side2 A13.out).mono ?_
          (case side1 => exact qs_ HO557)
          (case side2 => exact (Kd.Q_reads' HO557.out).2.1)
          rintro e w88 ⟨rfl, hb⟩
          refine ⟨_, rfl, ?_⟩
          replace HO557 := qb_ HO557 hb
          replace BK558 := bb_ BK558 hb
          replace HB := bs_ HB hb
          (try clear hb)
          (try clear hb2)
          (try clear hk)
          (try clear hi)
          refine hK.out _ _ ((blk_cell BK558.out 0).trans rfl) (fun hHeld => ?_)
          clear hK K
          refine no_ 40 ?_
          refine on_ 14 42 (fl_ 34 15) fun K hK => ?_
          refine go_ Try.func38 #[.agg #[.slice Ao76 t555.length co76]] ?_
          with_reducible refine (spec_DepthOf.calls k _ _ t555 t568 _ ?side1 ?side2 A14.out).mono ?_
          (case side1 => exact qs_ HO557)
          (case side2 => exact (Kd.Q_reads' HO557.out).2.1)
          rintro e w89 ⟨rfl, hb⟩
          refine ⟨_, rfl, ?_⟩
          replace HO557 := qb_ HO557 hb
          replace BK558 := bb_ BK558 hb
          replace HB := bs_ HB hb
          (try clear hb)
          (try clear hb2)
          (try clear hk)
          (try clear hi)
          refine hK.out _ _ ((blk_cell BK558.out 0).trans rfl) (fun hHeld => ?_)
          clear hK K
          refine no_ 42 ?_
          refine pu_ 15 43 (fl_ 34 16) ?_
          refine pu_ 16 44 (fl_ 34 17) ?_
          refine pu_ 17 45 (fl_ 34 18) ?_
          refine pu_ 18 46 (fl_ 34 19) ?_
          refine pu_ 19 47 (fl_ 34 20) ?_
          refine pu_ 20 48 (fl_ 34 21) ?_
          refine pu_ 21 49 (fl_ 34 22) ?_
          refine pu_ 22 50 (fl_ 34 23) ?_
          refine pu_ 23 51 (fl_ 34 24) ?_
          refine pu_ 24 52 (fl_ 34 25) ?_
          refine pu_ 25 53 (fl_ 34 26) ?_
          refine pu_ 26 54 (fl_ 34 27) ?_
          refine pu_ 27 55 (fl_ 34 28) ?_
          refine ta_ 28 56 (fl_ 34 29) ?_
          refine ta_ 30 58 (fm_ 34 1610612735) ?_
          refine on_ 29 57 (fl_ 34 31) fun K hK => ?_
          refine go_ Try.func39 #[.agg #[.slice Ao76 t555.length co76]] ?_
          with_reducible refine (impl_PrimitiveBelow.calls k _ _ t555 t569 _ ?side1 ?side2 A18.out).mono ?_
          (case side1 => exact qs_ HO557)
          (case side2 => exact (Kd.Q_reads' HO557.out).2.1)
          rintro e w90 ⟨rfl, hb⟩
          refine ⟨_, rfl, ?_⟩
          replace HO557 := qb_ HO557 hb
          replace BK558 := bb_ BK558 hb
          replace HB := bs_ HB hb
          (try clear hb)
          (try clear hb2)
          (try clear hk)
          (try clear hi)
          refine hK.out _ _ ((blk_cell BK558.out 0).trans rfl) (fun hHeld => ?_)
          clear hK K
          refine no_ 57 ?_
          refine on_ 31 59 (fl_ 34 32) fun K hK => ?_
          refine go_ Try.func40 #[.agg #[.slice Ao76 t555.length co76]] ?_
          with_reducible refine (spec_PrimitiveBelow.calls k _ _ t555 t570 _ ?side1 ?side2 A19.out).mono ?_
          (case side1 => exact qs_ HO557)
          (case side2 => exact (Kd.Q_reads' HO557.out).2.1)
          rintro e w91 ⟨rfl, hb⟩
          refine ⟨_, rfl, ?_⟩
          replace HO557 := qb_ HO557 hb
          replace BK558 := bb_ BK558 hb
          replace HB := bs_ HB hb
          (try clear hb)
          (try clear hb2)
          (try clear hk)
          (try clear hi)
          refine hK.out _ _ ((blk_cell BK558.out 0).trans rfl) (fun hHeld => ?_)
          clear hK K
          refine no_ 59 ?_
          refine pu_ 32 60 (fl_ 34 33) ?_
          refine pu_ 33 61 (fl_ 34 34) ?_
          refine done_ (done_of HT_.out (by kernel_rfl)) ?_
          have hcz92_0 := bc_ BK558
          have hfz92_0 := blk_frozen BK558.out 0
          try go_wp2_with (first | ((with_reducible refine gate_callee (f := 41) rfl ?_); refine gl_ 63 Try.func41 #[.agg #[.slice Ao76 t555.length co76]] ?_; (with_reducible refine (spec_IsSemigroup.calls k _ _ t555 false _ ?side1 ?side2 A21.out).mono ?_); (case side1 => exact qs_ HO557); (case side2 => exact (Kd.Q_reads' HO557.out).2.1); rintro e w93 ⟨rfl, hb⟩; refine ⟨_, rfl, ?_⟩; replace HO557 := qb_ HO557 hb; replace BK558 := bb_ BK558 hb; replace HB := bs_ HB hb; (try clear hb); (try clear hb2); (try clear hk); (try clear hi)))
          go_ret
          exact ⟨er_, bl_ HB.out⟩
         ·rw [if_neg c73] at H
          exact absurd H (by simp)
       ·rw [if_neg c20] at H
        exact absurd H (by simp)
      ·rw [if_neg c17] at H
       have c17b0 : (t562 == t564) = false := beq_eq_false_iff_ne.mpr c17
       have c17b1 : (t562 != t564) = true := bne_iff_ne.mpr c17
       exact absurd H (by simp)
     ·rw [if_neg c16] at H
      have c16b0 : (t561 == t563) = false := beq_eq_false_iff_ne.mpr c16
      have c16b1 : (t561 != t563) = true := bne_iff_ne.mpr c16
      exact absurd H (by simp)
    ·rw [if_neg c15] at H
     have c15b0 : (t567 == t568) = false := beq_eq_false_iff_ne.mpr c15
     have c15b1 : (t567 != t568) = true := bne_iff_ne.mpr c15
     exact absurd H (by simp)
   ·rw [if_neg c12] at H
    have c12b0 : (t560 == t566) = false := beq_eq_false_iff_ne.mpr c12
    have c12b1 : (t560 != t566) = true := bne_iff_ne.mpr c12
    exact absurd H (by simp)
  ·rw [if_neg c10] at H
   have c10b0 : (t559 == t565) = false := beq_eq_false_iff_ne.mpr c10
   have c10b1 : (t559 != t565) = true := bne_iff_ne.mpr c10
   exact absurd H (by simp)
def laws_FnWilf.Pure : Prop := ∀ (l0 : List Int), l0.length ≤ maxLen → l0.length * 1 ≤ 140737488351232 → (∀ x ∈ l0, (Lit.int .u8 x).wf = true) → ∃ k, laws_FnWilf.f k l0 = some true
theorem laws_FnWilf.walk (P : laws_FnWilf.Pure) (a0 : Option Addr) (len0 cap0 : Nat) (z0 : List Int) (w : World) (w0 : (a0 = none ∧ len0 = 0 ∧ cap0 = 0 ∧ z0 = []) ∨ ∃ x, a0 = some x ∧ len0 ≤ cap0 ∧ cap0 ≤ maxLen ∧ z0.length = cap0 ∧ (∀ i, i < z0.length → w.cell? (x.add i) = some (.int .u8 (z0.getD i 0))) ∧ ∀ n ∈ z0, (Lit.int .u8 n).wf = true) (y0 : len0 * 1 ≤ 140737488351232) :
 Calls Try.prog 5 #[.slice a0 len0 cap0] w fun e w' => e = .returned (.bool true) ∧ Below w.heap.size w w' := by
 obtain ⟨l0, rfl, hr0, hm0, hw0, hc0⟩ := ReadsInt.ofRowC w0
 obtain ⟨k, h⟩ := P l0 hm0 y0 hw0
 refine (laws_FnWilf.calls k _ _ l0 true w (Kd.C_of_reads (d := (0 : Int)) (h1 := fun _ => rfl) hr0) hc0 h).mono ?_
 rintro e w' ⟨rfl, hd⟩
 exact ⟨rfl, hd⟩
end Go.Proofs.Ytbjbolblahlhcaa.PFnWilf
end
section
namespace Go.Proofs.Ytbjbolblahlhcaa.M
open Go Go.RowKit Go.Proofs.YtbjbolblahlhcaaW.PrintWords
inductive Sums (g : List Int) : Int → Prop
 | zero : Sums g 0
 | add {n x : Int} : x ∈ g → Sums g n → Sums g (n + x)
theorem Sums.trans {g : List Int} {a b : Int} (ha : Sums g a) (hb : Sums g b) : Sums g (a + b) := by
 induction hb with
 | zero => simpa using ha
 | add hx _ ih => rw [← Int.add_assoc]; exact .add hx ih
theorem Sums.one {g : List Int} {x : Int} (h : x ∈ g) : Sums g x := by simpa using Sums.add h .zero
theorem Sums.sub {g g' : List Int} {n : Int} (h : ∀ x ∈ g, Sums g' x) (hn : Sums g n) : Sums g' n := by
 induction hn with
 | zero => exact .zero
 | add hx _ ih => exact ih.trans (h _ hx)
theorem Sums.mono {g g' : List Int} {n : Int} (h : ∀ x ∈ g, x ∈ g') (hn : Sums g n) : Sums g' n := hn.sub fun x hx => .one (h x hx)
theorem Sums.nonneg {g : List Int} {n : Int} (h : ∀ x ∈ g, 1 ≤ x) (hn : Sums g n) : 0 ≤ n := by
 induction hn with
 | zero => omega
 | add hx _ ih => have := h _ hx; omega
theorem Sums.step {g : List Int} {n : Int} (hn : Sums g n) (h0 : n ≠ 0) : ∃ x ∈ g, Sums g (n - x) := by
 cases hn with
 | zero => exact absurd rfl h0
 | add hx h => exact ⟨_, hx, by rw [Int.add_sub_cancel]; exact h⟩
theorem Sums.mul {g : List Int} {n : Int} (hn : Sums g n) (k : Nat) : Sums g (k * n) := by
 induction k with
 | zero => simpa using Sums.zero
 | succ k ih => rw [Int.natCast_succ, Int.add_mul, Int.one_mul]; exact ih.trans hn
theorem Sums.nil {n : Int} (h : Sums [] n) : n = 0 := by
 cases h with
 | zero => rfl
 | add hx _ => simp at hx
theorem Sums.step_le {g : List Int} (hg : ∀ x ∈ g, 1 ≤ x) {n : Int} : Sums g n ↔ n = 0 ∨ ∃ x ∈ g, x ≤ n ∧ Sums g (n - x) := by
 constructor
 ·intro h
  by_cases h0 : n = 0
  ·exact .inl h0
  ·obtain ⟨x, hx, h⟩ := h.step h0
   exact .inr ⟨x, hx, by have := h.nonneg hg; omega, h⟩
 ·rintro (rfl | ⟨x, hx, _, h⟩)
  ·exact .zero
  ·have := Sums.add hx h
   rwa [Int.sub_add_cancel] at this
theorem emod_add_congr {a b c d m : Int} (h1 : a % m = b % m) (h2 : c % m = d % m) : (a + c) % m = (b + d) % m := by
 rw [Int.add_emod, h1, h2, ← Int.add_emod]
theorem emod_mul_congr {a b m : Int} (k : Int) (h1 : a % m = b % m) : (k * a) % m = (k * b) % m := by
 rw [Int.mul_emod, h1, ← Int.mul_emod]
def Hits (g : List Int) (a d : Int) : Prop := ∃ n, Sums g n ∧ n % a = d % a
theorem Hits.add {g : List Int} {a d e : Int} : Hits g a d → Hits g a e → Hits g a (d + e) := by
 rintro ⟨n, hn, h1⟩ ⟨m, hm, h2⟩
 exact ⟨n + m, hn.trans hm, emod_add_congr h1 h2⟩
theorem Hits.mul {g : List Int} {a d : Int} (k : Nat) : Hits g a d → Hits g a (k * d) := by
 rintro ⟨n, hn, h1⟩
 exact ⟨k * n, hn.mul k, emod_mul_congr _ h1⟩
theorem Hits.congr {g : List Int} {a d e : Int} (h : Hits g a d) (he : d % a = e % a) : Hits g a e := by
 obtain ⟨n, hn, h1⟩ := h
 exact ⟨n, hn, h1.trans he⟩
theorem Hits.neg {g : List Int} {a d : Int} (ha : 1 ≤ a) (h : Hits g a d) : Hits g a (-d) := by
 have := Hits.mul (a - 1).toNat h
 refine this.congr ?_
 rw [Int.toNat_of_nonneg (by omega), Int.sub_mul, Int.one_mul, Int.sub_eq_add_neg, Int.add_comm, Int.add_mul_emod_self_left]
theorem Hits.sub {g : List Int} {a d e : Int} (ha : 1 ≤ a) (h : Hits g a d) (h' : Hits g a e) : Hits g a (d - e) := by
 rw [Int.sub_eq_add_neg]; exact h.add (h'.neg ha)
theorem Hits.zmul {g : List Int} {a d : Int} (ha : 1 ≤ a) (k : Int) (h : Hits g a d) : Hits g a (k * d) := by
 rcases Int.le_total 0 k with hk | hk
 ·have := h.mul k.toNat
  rwa [Int.toNat_of_nonneg hk] at this
 ·have := (h.mul (-k).toNat).neg ha
  rw [Int.toNat_of_nonneg (by omega), Int.neg_mul, Int.neg_neg] at this
  exact this
theorem Hits.gcd {g : List Int} {a : Int} (ha : 1 ≤ a) : ∀ (x y : Nat), Hits g a x → Hits g a y → Hits g a (Nat.gcd x y) := by
 intro x y
 induction x, y using Nat.gcd.induction with
 | H0 n => intro _ h; simpa using h
 | H1 m n hm ih =>
  intro h1 h2
  rw [Nat.gcd_rec]
  refine ih ?_ h1
  have e : ((n % m : Nat) : Int) = (n : Int) - ((n / m : Nat) : Int) * m := by
   have := Nat.mod_add_div n m
   have h3 : (n : Int) = ((n % m : Nat) : Int) + (m : Int) * ((n / m : Nat) : Int) := by exact_mod_cast this.symm
   rw [Int.mul_comm]; omega
  rw [e]
  exact h2.sub ha (h1.zmul ha _)
def gcdL (g : List Int) : Nat := g.foldl (fun d x => Nat.gcd d x.natAbs) 0
theorem gcdL_snoc (g : List Int) (x : Int) : gcdL (g ++ [x]) = Nat.gcd (gcdL g) x.natAbs := by simp [gcdL]
theorem foldl_gcd_dvd (g : List Int) : ∀ d : Nat, (g.foldl (fun d x => Nat.gcd d x.natAbs) d) ∣ d ∧ ∀ x ∈ g, ((g.foldl (fun d x => Nat.gcd d x.natAbs) d : Nat) : Int) ∣ x := by
 induction g with
 | nil => intro d; exact ⟨Nat.dvd_refl _, fun _ h => by simp at h⟩
 | cons y t ih =>
  intro d
  simp only [List.foldl_cons]
  obtain ⟨h1, h2⟩ := ih (Nat.gcd d y.natAbs)
  refine ⟨Nat.dvd_trans h1 (Nat.gcd_dvd_left _ _), fun x hx => ?_⟩
  rcases List.mem_cons.1 hx with rfl | hx
  ·exact Int.ofNat_dvd_left.2 (Nat.dvd_trans h1 (Nat.gcd_dvd_right _ _))
  ·exact h2 x hx
theorem gcdL_dvd {g : List Int} {x : Int} (h : x ∈ g) : (gcdL g : Int) ∣ x := (foldl_gcd_dvd g 0).2 x h
theorem dvd_foldl_gcd (g : List Int) (c : Nat) : ∀ d : Nat, c ∣ d → (∀ x ∈ g, (c : Int) ∣ x) → c ∣ g.foldl (fun d x => Nat.gcd d x.natAbs) d := by
 induction g with
 | nil => intro d h _; exact h
 | cons y t ih =>
  intro d h hx
  simp only [List.foldl_cons]
  exact ih _ (Nat.dvd_gcd h (Int.ofNat_dvd_left.1 (hx y List.mem_cons_self))) fun x h => hx x (List.mem_cons_of_mem _ h)
theorem dvd_gcdL {g : List Int} {c : Nat} (h : ∀ x ∈ g, (c : Int) ∣ x) : c ∣ gcdL g := dvd_foldl_gcd g c 0 (Nat.dvd_zero _) h
theorem gcdL_congr {g g' : List Int} (h : ∀ x, x ∈ g ↔ x ∈ g') : gcdL g = gcdL g' :=
 Nat.dvd_antisymm (dvd_gcdL fun x hx => gcdL_dvd ((h x).2 hx)) (dvd_gcdL fun x hx => gcdL_dvd ((h x).1 hx))
theorem Sums.dvd {g : List Int} {c n : Int} (h : ∀ x ∈ g, c ∣ x) (hn : Sums g n) : c ∣ n := by
 induction hn with
 | zero => exact Int.dvd_zero _
 | add hx _ ih => exact Int.dvd_add ih (h _ hx)
theorem hits_foldl {g0 : List Int} {a : Int} (ha : 1 ≤ a) (hpos : ∀ x ∈ g0, 0 ≤ x) (g : List Int) (hs : ∀ x ∈ g, x ∈ g0) : ∀ d : Nat, Hits g0 a d → Hits g0 a ((g.foldl (fun d x => Nat.gcd d x.natAbs) d : Nat) : Int) := by
 induction g with
 | nil => intro d h; exact h
 | cons y t ih =>
  intro d h
  simp only [List.foldl_cons]
  refine ih (fun x hx => hs x (List.mem_cons_of_mem _ hx)) _ (Hits.gcd ha _ _ h ?_)
  have hy := hs y List.mem_cons_self
  have := hpos y hy
  exact ⟨y, .one hy, by rw [Int.natAbs_of_nonneg this]⟩
theorem hits_gcdL {g : List Int} {a : Int} (ha : 1 ≤ a) (hpos : ∀ x ∈ g, 0 ≤ x) (k : Int) : Hits g a (k * gcdL g) :=
 (hits_foldl ha hpos g (fun _ h => h) 0 ⟨0, .zero, rfl⟩).zmul ha k
def InR (lo hi : Int) (g : List Int) : Prop := ∀ x ∈ g, lo ≤ x ∧ x ≤ hi
structure IsSG (g : List Int) : Prop where
 pos : 1 ≤ g.length
 le : g.length ≤ 12
 rng : InR 1 60 g
 asc : g.Pairwise (· < ·)
 gcd : gcdL g = 1
 minl : ∀ i : Nat, 1 ≤ i → i < g.length → ¬ Sums (g.take i) (g.getD i 0)
 ends : ∀ n : Int, 200 ≤ n → Sums g n
theorem ends_of {g : List Int} {a : Int} (ha : 1 ≤ a) (hag : a ∈ g) {B : Int} (h : ∀ n, B ≤ n → n < B + a → Sums g n) : ∀ n, B ≤ n → Sums g n := by
 intro n hn
 have e : n = B + (n - B) % a + ((n - B) / a) * a := by have := Int.emod_add_mul_ediv (n - B) a; rw [Int.mul_comm]; omega
 have h1 := Int.emod_nonneg (n - B) (show a ≠ 0 by omega)
 have h2 := Int.emod_lt_of_pos (n - B) (show 0 < a by omega)
 have h3 : 0 ≤ (n - B) / a := Int.ediv_nonneg (by omega) (by omega)
 rw [e]
 refine (h _ (by omega) (by omega)).trans ?_
 have := (Sums.one hag).mul ((n - B) / a).toNat
 rwa [Int.toNat_of_nonneg h3] at this
noncomputable def minOf : List Int → List Int → List Int
 | _, [] => []
 | seen, x :: t => open Classical in if Sums seen x then minOf (seen ++ [x]) t else x :: minOf (seen ++ [x]) t
end Go.Proofs.Ytbjbolblahlhcaa.M
end
section
namespace Go.Proofs.Ytbjbolblahlhcaa.M
open Go Go.RowKit Go.Proofs.YtbjbolblahlhcaaW.PrintWords
theorem Ev.pos {α : Type} {c : Prop} [Decidable c] {A B : Nat → Option α} {r : α} (h : c) (k : Ev A r) : Ev (fun n => if c then A n else B n) r := by
 simpa only [if_pos h] using k
theorem Ev.neg {α : Type} {c : Prop} [Decidable c] {A B : Nat → Option α} {r : α} (h : ¬ c) (k : Ev B r) : Ev (fun n => if c then A n else B n) r := by
 simpa only [if_neg h] using k
theorem Ev.call {α β : Type} {g : Option α} {f : Nat → α → Option β} {a : α} {r : β} (h : g = some a) (k : Ev (fun n => f n a) r) : Ev (fun n => g.bind (f n)) r := by
 subst h; exact k
theorem Ev.same {α : Type} {g : Nat → Option α} {r r' : α} (h : Ev g r) (h' : Ev g r') : r = r' := by
 obtain ⟨K, h⟩ := h
 obtain ⟨K', h'⟩ := h'
 have h1 := h (max K K') (Nat.le_max_left _ _)
 have h2 := h' (max K K') (Nat.le_max_right _ _)
 rw [h1] at h2
 exact Option.some.inj h2
def EvB (g : Nat → Option Bool) (P : Prop) : Prop := ∃ b : Bool, Ev g b ∧ (b = true ↔ P)
theorem EvB.iff {g : Nat → Option Bool} {P Q : Prop} (h : EvB g P) (k : P ↔ Q) : EvB g Q := by
 obtain ⟨b, h1, h2⟩ := h
 exact ⟨b, h1, h2.trans k⟩
theorem EvB.yes {g : Nat → Option Bool} {P : Prop} (h : EvB g P) (k : P) : Ev g true := by
 obtain ⟨b, h1, h2⟩ := h
 rw [h2.2 k] at h1; exact h1
theorem EvB.no {g : Nat → Option Bool} {P : Prop} (h : EvB g P) (k : ¬ P) : Ev g false := by
 obtain ⟨b, h1, h2⟩ := h
 cases b with
 | false => exact h1
 | true => exact absurd (h2.1 rfl) k
theorem EvB.of_true {g : Nat → Option Bool} {P : Prop} (h : Ev g true) (k : P) : EvB g P := ⟨true, h, by simp [k]⟩
theorem EvB.of_false {g : Nat → Option Bool} {P : Prop} (h : Ev g false) (k : ¬ P) : EvB g P := ⟨false, h, by simp [k]⟩
theorem EvB.step {g f : Nat → Option Bool} {P : Prop} (h : ∀ k, g (k + 1) = f k) (k : EvB f P) : EvB g P := by
 obtain ⟨b, h1, h2⟩ := k
 exact ⟨b, Ev.step h h1, h2⟩
theorem EvB.pos {c : Prop} [Decidable c] {A B : Nat → Option Bool} {P : Prop} (h : c) (k : EvB A P) : EvB (fun n => if c then A n else B n) P := by
 obtain ⟨b, h1, h2⟩ := k
 exact ⟨b, Ev.pos h h1, h2⟩
theorem EvB.neg {c : Prop} [Decidable c] {A B : Nat → Option Bool} {P : Prop} (h : ¬ c) (k : EvB B P) : EvB (fun n => if c then A n else B n) P := by
 obtain ⟨b, h1, h2⟩ := k
 exact ⟨b, Ev.neg h h1, h2⟩
theorem EvB.bind {α : Type} {g : Nat → Option α} {f : Nat → α → Option Bool} {a : α} {P : Prop} (h : Ev g a) (k : EvB (fun n => f n a) P) : EvB (fun n => (g n).bind (f n)) P := by
 obtain ⟨b, h1, h2⟩ := k
 exact ⟨b, Ev.bind h h1, h2⟩
theorem EvB.call {α : Type} {g : Option α} {f : Nat → α → Option Bool} {a : α} {P : Prop} (h : g = some a) (k : EvB (fun n => f n a) P) : EvB (fun n => g.bind (f n)) P := by
 subst h; exact k
theorem EvB.dec {c : Prop} [Decidable c] {P : Prop} (h : c ↔ P) : EvB (fun _ => some (decide c)) P := ⟨decide c, Ev.now _, by simpa using h⟩
theorem EvB.eqv {g g' : Nat → Option Bool} {P : Prop} (h : EvB g P) (h' : EvB g' P) : ∃ b, Ev g b ∧ Ev g' b ∧ (b = true ↔ P) := by
 obtain ⟨b, h1, h2⟩ := h
 obtain ⟨b', h1', h2'⟩ := h'
 have : b' = b := by rw [Bool.eq_iff_iff, h2, h2']
 subst this
 exact ⟨b', h1, h1', h2⟩
theorem w64 {x : Int} (h1 : -9223372036854775808 ≤ x) (h2 : x ≤ 9223372036854775807) : wrap64 x = x := by unfold wrap64; omega
theorem w64s {j : Nat} (h : j < 9223372036854775807) : wrap64 ((j : Int) + 1) = ((j + 1 : Nat) : Int) := by unfold wrap64; omega
theorem w64p {j : Nat} (h : 1 ≤ j) (h2 : j ≤ 9223372036854775807) : wrap64 ((j : Int) - 1) = ((j - 1 : Nat) : Int) := by unfold wrap64; omega
theorem rd_nat (xs : List Int) (i : Nat) : rd xs (i : Int) = xs.getD i 0 := by simp [rd]
theorem rdOf_nat {α : Type} (d : α) (xs : List α) (i : Nat) : rdOf d xs (i : Int) = xs.getD i d := by simp [rdOf]
theorem rd_get {xs : List Int} {i : Nat} (h : i < xs.length) : rd xs (i : Int) = xs[i] := by rw [rd_nat, List.getD_eq_getElem?_getD, List.getElem?_eq_getElem h]; rfl
theorem rdOf_get {α : Type} {d : α} {xs : List α} {i : Nat} (h : i < xs.length) : rdOf d xs (i : Int) = xs[i] := by rw [rdOf_nat, List.getD_eq_getElem?_getD, List.getElem?_eq_getElem h]; rfl
theorem getD_get {α : Type} {d : α} {xs : List α} {i : Nat} (h : i < xs.length) : xs.getD i d = xs[i] := by rw [List.getD_eq_getElem?_getD, List.getElem?_eq_getElem h]; rfl
theorem rd_mem {xs : List Int} {i : Nat} (h : i < xs.length) : rd xs (i : Int) ∈ xs := by rw [rd_get h]; exact List.getElem_mem h
theorem drop_cons {α : Type} {xs : List α} {i : Nat} (h : i < xs.length) : xs.drop i = xs[i] :: xs.drop (i + 1) := List.drop_eq_getElem_cons h
theorem take_snoc' {α : Type} {xs : List α} {i : Nat} (h : i < xs.length) : xs.take (i + 1) = xs.take i ++ [xs[i]] := by rw [List.take_succ_eq_append_getElem h]
theorem tmod_pos {a b : Int} (h : 0 ≤ a) : Int.tmod a b = a % b := Int.tmod_eq_emod_of_nonneg h
theorem asc_ext : ∀ {s t : List Int}, s.Pairwise (· < ·) → t.Pairwise (· < ·) → (∀ x, x ∈ s ↔ x ∈ t) → s = t
 | [], [], _, _, _ => rfl
 | [], y :: t, _, _, h => by have := (h y).2 List.mem_cons_self; simp at this
 | x :: s, [], _, _, h => by have := (h x).1 List.mem_cons_self; simp at this
 | x :: s, y :: t, hs, ht, h => by
  obtain ⟨hs1, hs2⟩ := List.pairwise_cons.1 hs
  obtain ⟨ht1, ht2⟩ := List.pairwise_cons.1 ht
  have hxy : x = y := by
   rcases List.mem_cons.1 ((h x).1 List.mem_cons_self) with e | e
   ·exact e
   ·rcases List.mem_cons.1 ((h y).2 List.mem_cons_self) with e' | e'
    ·exact e'.symm
    ·have := ht1 x e; have := hs1 y e'; omega
  subst hxy
  congr 1
  refine asc_ext hs2 ht2 fun z => ⟨fun hz => ?_, fun hz => ?_⟩
  ·rcases List.mem_cons.1 ((h z).1 (List.mem_cons_of_mem _ hz)) with e | e
   ·subst e; have := hs1 z hz; omega
   ·exact e
  ·rcases List.mem_cons.1 ((h z).2 (List.mem_cons_of_mem _ hz)) with e | e
   ·subst e; have := ht1 z hz; omega
   ·exact e
theorem pairwise_of_adj {s : List Int} (h : ∀ i : Nat, i + 1 < s.length → s.getD i 0 < s.getD (i + 1) 0) : s.Pairwise (· < ·) := by
 rw [List.pairwise_iff_getElem]
 intro i j hi hj hij
 induction j with
 | zero => omega
 | succ j ih =>
  have h1 := h j (by omega)
  rw [getD_get (by omega), getD_get (by omega)] at h1
  rcases Nat.lt_or_ge i j with hlt | hge
  ·exact Int.lt_trans (ih (by omega) hlt) h1
  ·have : i = j := by omega
   subst this; exact h1
theorem adj_of_pairwise {s : List Int} (h : s.Pairwise (· < ·)) {i : Nat} (hi : i + 1 < s.length) : s.getD i 0 < s.getD (i + 1) 0 := by
 rw [getD_get (by omega), getD_get (by omega)]
 exact List.pairwise_iff_getElem.1 h i (i + 1) (by omega) (by omega) (by omega)
theorem sum_set (f : Int → Nat) : ∀ (R : List Int) (i : Nat) (h : i < R.length) (v : Int), ((R.set i v).map f).sum + f R[i] = (R.map f).sum + f v
 | [], i, h, v => by simp at h
 | x :: R, 0, h, v => by simp; omega
 | x :: R, i + 1, h, v => by
  have := sum_set f R i (by simpa using h) v
  simp only [List.set_cons_succ, List.map_cons, List.sum_cons, List.getElem_cons_succ]
  omega
theorem sum_ge (f : Int → Nat) {R : List Int} {i : Nat} (h : i < R.length) : f R[i] ≤ (R.map f).sum := by
 induction R generalizing i with
 | nil => simp at h
 | cons x R ih =>
  cases i with
  | zero => simp
  | succ i =>
   have := ih (i := i) (by simpa using h)
   simp only [List.map_cons, List.sum_cons, List.getElem_cons_succ]
   omega
theorem sum_le_len (f : Int → Nat) (hf : ∀ x, f x ≤ 1) (R : List Int) : (R.map f).sum ≤ R.length := by
 induction R with
 | nil => simp
 | cons x R ih => have := hf x; simp only [List.map_cons, List.sum_cons, List.length_cons]; omega
theorem InR.mono {lo hi lo' hi' : Int} {l : List Int} (h : InR lo hi l) (h1 : lo' ≤ lo) (h2 : hi ≤ hi') : InR lo' hi' l := fun x hx => ⟨by have := h x hx; omega, by have := h x hx; omega⟩
theorem InR.sub {lo hi : Int} {l l' : List Int} (h : InR lo hi l) (hs : ∀ x ∈ l', x ∈ l) : InR lo hi l' := fun x hx => h x (hs x hx)
end Go.Proofs.Ytbjbolblahlhcaa.M
end
section
namespace Go.Proofs.Ytbjbolblahlhcaa.PFnWilf
open Go.RowKit Go.Proofs.YtbjbolblahlhcaaW.PrintWords Go.Proofs.YtbjbolblahlhcaaW.PrintLast Go.Proofs.YtbjbolblahlhcaaW.PrintMore
open Go.Proofs.Ytbjbolblahlhcaa.SortW (bk_ kr_ t_ f_)
open Go.Proofs.Ytbjbolblahlhcaa.SqW
attribute [local go_sem] max2_int min2_int max_two min_two max_three min_three max_four min_four
set_option linter.unusedVariables false
set_option linter.unusedSimpArgs false
end Go.Proofs.Ytbjbolblahlhcaa.PFnWilf
end
section
namespace Go.Proofs.Ytbjbolblahlhcaa.FFnWilf
open Go Go.RowKit Go.Proofs.YtbjbolblahlhcaaW.PrintWords Go.Proofs.Ytbjbolblahlhcaa.M Go.Proofs.Ytbjbolblahlhcaa.PFnWilf
theorem l1In (a lo hi : Int) : spec_l1In.f a lo hi = some (decide (lo ≤ a ∧ a ≤ hi)) := by
 unfold spec_l1In.f
 by_cases h : a ≥ lo
 ·rw [if_pos h]; congr 1; simp only [decide_eq_decide]; omega
 ·rw [if_neg h]; congr 1; symm; rw [decide_eq_false_iff_not]; omega
theorem within (a lo hi : Int) : impl_within.f a lo hi = some (decide (lo ≤ a ∧ a ≤ hi)) := by
 unfold impl_within.f
 by_cases h : a ≥ lo
 ·rw [if_pos h]; congr 1; simp only [decide_eq_decide]; omega
 ·rw [if_neg h]; congr 1; symm; rw [decide_eq_false_iff_not]; omega
theorem within_yes {a lo hi : Int} (h : lo ≤ a ∧ a ≤ hi) : impl_within.f a lo hi = some true := by rw [within, decide_eq_true h]
theorem within_no {a lo hi : Int} (h : ¬ (lo ≤ a ∧ a ≤ hi)) : impl_within.f a lo hi = some false := by rw [within, decide_eq_false h]
theorem InR_drop {lo hi : Int} {l : List Int} {j : Nat} (h : j < l.length) : InR lo hi (l.drop j) ↔ (lo ≤ l[j] ∧ l[j] ≤ hi) ∧ InR lo hi (l.drop (j + 1)) := by
 unfold InR
 rw [drop_cons h]
 simp only [List.mem_cons, forall_eq_or_imp]
theorem InR_nil (lo hi : Int) : InR lo hi [] := fun _ h => by simp at h
theorem l3Gens_l0 (l : List Int) (hl : l.length ≤ 4611686018427387904) : ∀ (d j : Nat), l.length - j = d → j ≤ l.length → EvB (fun k => spec_l3Gens.l0 k l (j : Int)) (InR 1 60 (l.drop j) ∧ 1 ≤ l.length ∧ l.length ≤ 20) := by
 intro d
 induction d with
 | zero =>
  intro j hd hj
  refine EvB.step (fun _ => spec_l3Gens.l0.eq_2 ..) ?_
  refine EvB.neg (by omega) ?_
  refine EvB.call (l1In _ _ _) ?_
  refine EvB.dec ?_
  have : j = l.length := by omega
  subst this
  simp [InR_nil]; omega
 | succ d ih =>
  intro j hd hj
  have hlt : j < l.length := by omega
  refine EvB.step (fun _ => spec_l3Gens.l0.eq_2 ..) ?_
  refine EvB.pos (by omega) ?_
  refine EvB.pos (by omega) ?_
  refine EvB.call (l1In _ _ _) ?_
  rw [rd_get hlt]
  by_cases h : 1 ≤ l[j] ∧ l[j] ≤ 60
  ·refine EvB.pos (by simpa using h) ?_
   rw [w64s (by omega)]
   refine (ih (j + 1) (by omega) (by omega)).iff ?_
   rw [InR_drop hlt]; simp [h]
  ·refine EvB.neg (by simpa using h) ?_
   refine EvB.of_false (Ev.now _) ?_
   rw [InR_drop hlt]
   exact fun h' => h h'.1.1
def Use (l : List Int) : Prop := InR 1 60 l ∧ 1 ≤ l.length ∧ l.length ≤ 20
theorem l3Gens (l : List Int) (hl : l.length ≤ 4611686018427387904) : EvB (fun k => spec_l3Gens.f k l) (Use l) := by
 have := l3Gens_l0 l hl l.length 0 (by omega) (by omega)
 exact this
theorem allWithin_l0 (lo hi : Int) (l : List Int) (hl : l.length ≤ 4611686018427387904) : ∀ (d j : Nat), l.length - j = d → j ≤ l.length → EvB (fun k => impl_allWithin.l0 k lo hi l (l.length : Int) (j : Int)) (InR lo hi (l.drop j)) := by
 intro d
 induction d with
 | zero =>
  intro j hd hj
  refine EvB.step (fun _ => impl_allWithin.l0.eq_2 ..) ?_
  refine EvB.neg (by omega) ?_
  refine EvB.of_true (Ev.now _) ?_
  have : j = l.length := by omega
  subst this
  simp [InR_nil]
 | succ d ih =>
  intro j hd hj
  have hlt : j < l.length := by omega
  refine EvB.step (fun _ => impl_allWithin.l0.eq_2 ..) ?_
  refine EvB.pos (by omega) ?_
  refine EvB.pos (by omega) ?_
  refine EvB.pos (by omega) ?_
  refine EvB.call (within _ _ _) ?_
  rw [rd_get hlt]
  by_cases h : lo ≤ l[j] ∧ l[j] ≤ hi
  ·refine EvB.pos (by simpa using h) ?_
   rw [w64s (by omega)]
   refine (ih (j + 1) (by omega) (by omega)).iff ?_
   rw [InR_drop hlt]; simp [h]
  ·refine EvB.neg (by simpa using h) ?_
   refine EvB.of_false (Ev.now _) ?_
   rw [InR_drop hlt]
   exact fun h' => h h'.1
theorem allWithin (lo hi : Int) (l : List Int) (hl : l.length ≤ 4611686018427387904) : EvB (fun k => impl_allWithin.f k l lo hi) (InR lo hi l) :=
 allWithin_l0 lo hi l hl l.length 0 (by omega) (by omega)
theorem usable (l : List Int) (hl : l.length ≤ 4611686018427387904) : EvB (fun k => impl_usable.f k l) (Use l) := by
 show EvB (fun k => (impl_within.f (l.length : Int) 1 20).bind fun t => (if t = true then ((impl_allWithin.f k l 1 60).bind fun t' => some t') else (some false))) _
 refine EvB.call (within _ _ _) ?_
 by_cases h : (1 : Int) ≤ l.length ∧ (l.length : Int) ≤ 20
 ·refine EvB.pos (by simpa using h) ?_
  obtain ⟨b, hb, hP⟩ := allWithin 1 60 l hl
  refine EvB.bind hb ⟨b, Ev.now _, hP.trans ?_⟩
  unfold Use
  constructor
  ·intro k; exact ⟨k, by omega, by omega⟩
  ·intro k; exact k.1
 ·refine EvB.neg (by simpa using h) ?_
  refine EvB.of_false (Ev.now _) ?_
  unfold Use; omega
theorem l1Max (a b : Int) : spec_l1Max.f a b = some (max a b) := by
 unfold spec_l1Max.f
 split
 ·congr 1; omega
 ·congr 1; omega
theorem l2Small (a : Int) : spec_l2Small.f a = some (decide (-1000000 ≤ a ∧ a ≤ 1000000)) := by
 unfold spec_l2Small.f
 rw [l1In]; rfl
theorem tmod_nat (a b : Nat) : Int.tmod (a : Int) (b : Int) = ((a % b : Nat) : Int) := by rw [tmod_pos (by omega)]; rfl
theorem sGcd_l0 : ∀ (b a : Nat), Ev (fun k => spec_GcdOf.l0 k (a : Int) (b : Int)) ((Nat.gcd a b : Nat) : Int) := by
 intro b
 induction b using Nat.strongRecOn with
 | _ b ih =>
  intro a
  refine Ev.step (fun _ => spec_GcdOf.l0.eq_2 ..) ?_
  by_cases h : b = 0
  ·subst h
   refine Ev.neg (by omega) ?_
   rw [Nat.gcd_zero_right]; exact Ev.now _
  ·refine Ev.pos (by omega) ?_
   refine Ev.neg (by omega) ?_
   rw [tmod_nat, Nat.gcd_comm a b, Nat.gcd_rec b a, Nat.gcd_comm]
   exact ih (a % b) (Nat.mod_lt _ (by omega)) b
theorem sGcd (a b : Nat) (ha : a ≤ 1000000) (hb : b ≤ 1000000) : Ev (fun k => spec_GcdOf.f k (a : Int) (b : Int)) ((Nat.gcd a b : Nat) : Int) := by
 show Ev (fun k => (spec_l2Small.f a).bind fun t => (if t = true then ((spec_l2Small.f b).bind fun t' => (spec_GcdOf.j0 k a b (!t'))) else (spec_GcdOf.j0 k a b true))) _
 refine Ev.call (l2Small _) ?_
 refine Ev.pos (by simp; omega) ?_
 refine Ev.call (l2Small _) ?_
 rw [decide_eq_true (show -1000000 ≤ (b : Int) ∧ (b : Int) ≤ 1000000 by omega)]
 refine Ev.step (fun _ => spec_GcdOf.j0.eq_2 ..) ?_
 refine Ev.neg (by simp) ?_
 refine Ev.call (l1Max _ _) ?_
 refine Ev.call (l1Max _ _) ?_
 rw [w64 (by omega) (by omega), w64 (by omega) (by omega), show max (a : Int) (-a) = (a : Int) by omega, show max (b : Int) (-b) = (b : Int) by omega]
 exact sGcd_l0 b a
theorem iGcd_l0 : ∀ (a b : Nat), Ev (fun k => impl_GcdOf.l0 k (a : Int) (b : Int)) ((Nat.gcd a b : Nat) : Int) := by
 intro a
 induction a using Nat.strongRecOn with
 | _ a ih =>
  intro b
  refine Ev.step (fun _ => impl_GcdOf.l0.eq_2 ..) ?_
  by_cases h : a = 0
  ·subst h
   refine Ev.pos (by omega) ?_
   rw [Nat.gcd_zero_left]; exact Ev.now _
  ·refine Ev.neg (by omega) ?_
   rw [tmod_nat, Nat.gcd_rec a b]
   exact ih (b % a) (Nat.mod_lt _ (by omega)) a
theorem iGcd (a b : Nat) (ha : a ≤ 1000000) (hb : b ≤ 1000000) : Ev (fun k => impl_GcdOf.f k (a : Int) (b : Int)) ((Nat.gcd a b : Nat) : Int) := by
 show Ev (fun k => (impl_allWithin.f k (([(a : Int), (b : Int)] : List Int)) (-1000000) 1000000).bind fun t => (if t = true then (impl_GcdOf.l0 k (mx a (wrap64 (-(a : Int)))) (mx b (wrap64 (-(b : Int))))) else (some 0))) _
 refine Ev.bind ((allWithin (-1000000) 1000000 [(a : Int), (b : Int)] (by simp)).yes ?_) ?_
 ·intro x hx
  simp at hx
  omega
 ·refine Ev.pos rfl ?_
  rw [w64 (by omega) (by omega), w64 (by omega) (by omega), show mx (a : Int) (-(a : Int)) = (a : Int) by unfold mx; omega, show mx (b : Int) (-(b : Int)) = (b : Int) by unfold mx; omega]
  exact iGcd_l0 a b
theorem gcdL_take {l : List Int} {j : Nat} (h : j < l.length) : gcdL (l.take (j + 1)) = Nat.gcd (gcdL (l.take j)) (l[j]).natAbs := by rw [take_snoc' h, gcdL_snoc]
theorem sGcdList_l0 (l : List Int) (hl : l.length ≤ 4611686018427387904) (hr : InR 1 1000000 l) : ∀ (d j : Nat), l.length - j = d → j ≤ l.length → gcdL (l.take j) ≤ 1000000 → Ev (fun k => spec_GcdOfList.l0 k l ((gcdL (l.take j) : Nat) : Int) (j : Int)) ((gcdL l : Nat) : Int) := by
 intro d
 induction d with
 | zero =>
  intro j hd hj hg
  refine Ev.step (fun _ => spec_GcdOfList.l0.eq_2 ..) ?_
  refine Ev.neg (by omega) ?_
  rw [List.take_of_length_le (by omega)]
  exact Ev.now _
 | succ d ih =>
  intro j hd hj hg
  have hlt : j < l.length := by omega
  have hx := hr _ (List.getElem_mem hlt)
  refine Ev.step (fun _ => spec_GcdOfList.l0.eq_2 ..) ?_
  refine Ev.pos (by omega) ?_
  refine Ev.pos (by omega) ?_
  rw [rd_get hlt]
  have e : l[j] = ((l[j].natAbs : Nat) : Int) := by omega
  refine Ev.bind (a := ((gcdL (l.take (j + 1)) : Nat) : Int)) ?_ ?_
  ·rw [gcdL_take hlt]
   have := sGcd (gcdL (l.take j)) l[j].natAbs hg (by omega)
   rwa [← e] at this
  ·rw [w64s (by omega)]
   refine ih (j + 1) (by omega) (by omega) ?_
   rw [gcdL_take hlt]
   have := Nat.gcd_le_right (gcdL (l.take j)) (show 0 < l[j].natAbs by omega)
   omega
theorem sGcdList (l : List Int) (hl : l.length ≤ 4611686018427387904) (hr : InR 1 1000000 l) : Ev (fun k => spec_GcdOfList.f k l) ((gcdL l : Nat) : Int) :=
 sGcdList_l0 l hl hr l.length 0 (by omega) (by omega) (by simp [gcdL])
theorem iGcdList_l0 (l : List Int) (hl : l.length ≤ 4611686018427387904) (hr : InR 1 1000000 l) : ∀ (d j : Nat), l.length - j = d → j ≤ l.length → gcdL (l.take j) ≤ 1000000 → Ev (fun k => impl_GcdOfList.l0 k ((gcdL (l.take j) : Nat) : Int) l (l.length : Int) (j : Int)) ((gcdL l : Nat) : Int) := by
 intro d
 induction d with
 | zero =>
  intro j hd hj hg
  refine Ev.step (fun _ => impl_GcdOfList.l0.eq_2 ..) ?_
  refine Ev.neg (by omega) ?_
  rw [List.take_of_length_le (by omega)]
  exact Ev.now _
 | succ d ih =>
  intro j hd hj hg
  have hlt : j < l.length := by omega
  have hx := hr _ (List.getElem_mem hlt)
  refine Ev.step (fun _ => impl_GcdOfList.l0.eq_2 ..) ?_
  refine Ev.pos (by omega) ?_
  refine Ev.pos (by omega) ?_
  refine Ev.pos (by omega) ?_
  rw [rd_get hlt]
  have e : l[j] = ((l[j].natAbs : Nat) : Int) := by omega
  refine Ev.bind (a := ((gcdL (l.take (j + 1)) : Nat) : Int)) ?_ ?_
  ·rw [gcdL_take hlt]
   have := iGcd (gcdL (l.take j)) l[j].natAbs hg (by omega)
   rwa [← e] at this
  ·rw [w64s (by omega)]
   refine ih (j + 1) (by omega) (by omega) ?_
   rw [gcdL_take hlt]
   have := Nat.gcd_le_right (gcdL (l.take j)) (show 0 < l[j].natAbs by omega)
   omega
theorem iGcdList (l : List Int) (hl : l.length ≤ 4611686018427387904) (hr : InR 1 1000000 l) : Ev (fun k => impl_GcdOfList.f k l) ((gcdL l : Nat) : Int) :=
 iGcdList_l0 l hl hr l.length 0 (by omega) (by omega) (by simp [gcdL])
theorem sAsc_l0 (l : List Int) (hl : l.length ≤ 4611686018427387904) : ∀ (d j : Nat), l.length - j = d → 1 ≤ j → EvB (fun k => spec_IsAscending.l0 k l (j : Int)) (∀ i : Nat, j ≤ i + 1 → i + 1 < l.length → l.getD i 0 < l.getD (i + 1) 0) := by
 intro d
 induction d with
 | zero =>
  intro j hd hj
  refine EvB.step (fun _ => spec_IsAscending.l0.eq_2 ..) ?_
  refine EvB.neg (by omega) ?_
  exact EvB.of_true (Ev.now _) fun i h1 h2 => by omega
 | succ d ih =>
  intro j hd hj
  have hlt : j < l.length := by omega
  refine EvB.step (fun _ => spec_IsAscending.l0.eq_2 ..) ?_
  rw [w64p hj (by omega)]
  refine EvB.pos (by omega) ?_
  refine EvB.pos (by omega) ?_
  refine EvB.pos (by omega) ?_
  refine EvB.pos (by omega) ?_
  rw [rd_nat, rd_nat]
  by_cases h : l.getD (j - 1) 0 ≥ l.getD j 0
  ·refine EvB.pos h ?_
   refine EvB.of_false (Ev.now _) fun h' => ?_
   have := h' (j - 1) (by omega) (by omega)
   rw [show j - 1 + 1 = j by omega] at this
   omega
  ·refine EvB.neg h ?_
   rw [w64s (by omega)]
   refine (ih (j + 1) (by omega) (by omega)).iff ⟨fun h' i h1 h2 => ?_, fun h' i h1 h2 => h' i (by omega) h2⟩
   rcases Nat.lt_or_ge j (i + 1) with h3 | h3
   ·exact h' i (by omega) h2
   ·have : i = j - 1 := by omega
    subst this
    rw [show j - 1 + 1 = j by omega]
    omega
theorem iAsc_l0 (l : List Int) (hl : l.length ≤ 4611686018427387904) : ∀ (d j : Nat), l.length - j = d → 1 ≤ j → EvB (fun k => impl_IsAscending.l0 k l (j : Int)) (∀ i : Nat, j ≤ i + 1 → i + 1 < l.length → l.getD i 0 < l.getD (i + 1) 0) := by
 intro d
 induction d with
 | zero =>
  intro j hd hj
  refine EvB.step (fun _ => impl_IsAscending.l0.eq_2 ..) ?_
  refine EvB.neg (by omega) ?_
  exact EvB.of_true (Ev.now _) fun i h1 h2 => by omega
 | succ d ih =>
  intro j hd hj
  have hlt : j < l.length := by omega
  refine EvB.step (fun _ => impl_IsAscending.l0.eq_2 ..) ?_
  rw [w64p hj (by omega)]
  refine EvB.pos (by omega) ?_
  refine EvB.pos (by omega) ?_
  refine EvB.pos (by omega) ?_
  refine EvB.pos (by omega) ?_
  rw [rd_nat, rd_nat]
  by_cases h : l.getD j 0 ≤ l.getD (j - 1) 0
  ·refine EvB.pos h ?_
   refine EvB.of_false (Ev.now _) fun h' => ?_
   have := h' (j - 1) (by omega) (by omega)
   rw [show j - 1 + 1 = j by omega] at this
   omega
  ·refine EvB.neg h ?_
   rw [w64s (by omega)]
   refine (ih (j + 1) (by omega) (by omega)).iff ⟨fun h' i h1 h2 => ?_, fun h' i h1 h2 => h' i (by omega) h2⟩
   rcases Nat.lt_or_ge j (i + 1) with h3 | h3
   ·exact h' i (by omega) h2
   ·have : i = j - 1 := by omega
    subst this
    rw [show j - 1 + 1 = j by omega]
    omega
theorem asc_iff (l : List Int) : (∀ i : Nat, 1 ≤ i + 1 → i + 1 < l.length → l.getD i 0 < l.getD (i + 1) 0) ↔ l.Pairwise (· < ·) :=
 ⟨fun h => pairwise_of_adj fun i hi => h i (by omega) hi, fun h i _ hi => adj_of_pairwise h hi⟩
theorem sAsc (l : List Int) (hl : l.length ≤ 4611686018427387904) : EvB (fun k => spec_IsAscending.f k l) (l.Pairwise (· < ·)) :=
 (sAsc_l0 l hl (l.length - 1) 1 rfl (by omega)).iff (asc_iff l)
theorem iAsc (l : List Int) (hl : l.length ≤ 4611686018427387904) : EvB (fun k => impl_IsAscending.f k l) (l.Pairwise (· < ·)) :=
 (iAsc_l0 l hl (l.length - 1) 1 rfl (by omega)).iff (asc_iff l)
theorem l2Same_l0 (a b : List Int) (hl : a.length ≤ 4611686018427387904) (hab : a.length = b.length) : ∀ (d j : Nat), a.length - j = d → j ≤ a.length → EvB (fun k => spec_l2Same.l0 k a b (j : Int)) (a.drop j = b.drop j) := by
 intro d
 induction d with
 | zero =>
  intro j hd hj
  refine EvB.step (fun _ => spec_l2Same.l0.eq_2 ..) ?_
  refine EvB.neg (by omega) ?_
  refine EvB.of_true (Ev.now _) ?_
  rw [List.drop_of_length_le (by omega), List.drop_of_length_le (by omega)]
 | succ d ih =>
  intro j hd hj
  have hlt : j < a.length := by omega
  have hlt' : j < b.length := by omega
  refine EvB.step (fun _ => spec_l2Same.l0.eq_2 ..) ?_
  refine EvB.pos (by omega) ?_
  refine EvB.pos (by omega) ?_
  refine EvB.pos (by omega) ?_
  rw [rd_get hlt, rd_get hlt', drop_cons hlt, drop_cons hlt']
  by_cases h : a[j] = b[j]
  ·refine EvB.pos h ?_
   rw [w64s (by omega)]
   refine (ih (j + 1) (by omega) (by omega)).iff ?_
   rw [List.cons.injEq]
   exact ⟨fun k => ⟨h, k⟩, fun k => k.2⟩
  ·refine EvB.neg h ?_
   refine EvB.of_false (Ev.now _) ?_
   rw [List.cons.injEq]
   exact fun k => h k.1
theorem l2Same (a b : List Int) (hl : a.length ≤ 4611686018427387904) : EvB (fun k => spec_l2Same.f k a b) (a = b) := by
 show EvB (fun k => if (a.length : Int) = (b.length : Int) then (spec_l2Same.l0 k a b 0) else (some false)) _
 by_cases h : (a.length : Int) = (b.length : Int)
 ·refine EvB.pos h ?_
  exact l2Same_l0 a b hl (by omega) a.length 0 (by omega) (by omega)
 ·refine EvB.neg h ?_
  exact EvB.of_false (Ev.now _) (by rintro rfl; exact h rfl)
end Go.Proofs.Ytbjbolblahlhcaa.FFnWilf
end
