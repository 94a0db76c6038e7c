/- Part 4 of the claim for FnWilf, of the chain from the printed contracts and the plain laws to the row. It has no condition of its own. -/
import Derived.Test.YtbjbolblahlhcaaG1ZFnWilf
import Derived.Test.YtbjbolblahlhcaaG3ZFnWilf
import Derived.Test.YtbjbolblahlhcaaG2ZFnWilf
section
namespace Go.Proofs.Ytbjbolblahlhcaa.PFnWilf
open Go.RowKit Go.Proofs.YtbjbolblahlhcaaW.PrintWords Go.Proofs.YtbjbolblahlhcaaW.PrintLast Go.Proofs.YtbjbolblahlhcaaW.PrintMore
open Go.Proofs.Ytbjbolblahlhcaa.SortW (bk_ kr_ t_ f_)
open Go.Proofs.Ytbjbolblahlhcaa.SqW
attribute [local go_sem] max2_int min2_int max_two min_two max_three min_three max_four min_four
set_option linter.unusedVariables false
set_option linter.unusedSimpArgs false
def spec_l3Ends.l0 : Nat → List Int → List Bool → Int → Option (Bool)
 | 0, _, _, _ => none
 | k + 1, x0, x3, x4 => if 0 < (x0.length : Int) then (if x4 < (wrap64 (200 + (rd x0 0))) then (if 0 ≤ x4 then (if x4 < (x3.length : Int) then (if rdOf false x3 x4 = true then (spec_l3Ends.l0 k x0 x3 (wrap64 (x4 + 1))) else (some false)) else (none)) else (none)) else (some true)) else (none)
def spec_l3Ends.f (k : Nat) (l0 : List Int) : Option (Bool) := (spec_l3Table.f k l0 260).bind fun t217 => (spec_l3Ends.l0 k l0 t217 200)
set_option maxHeartbeats 8000000 in
set_option maxRecDepth 100000 in
theorem spec_l3Ends.calls (k : Nat) (A0 : Option Addr) (c0 : Nat) (l0 : List Int) (r : Bool) (w : World) (hr0 : Kd.C (Kd.int .i64) w A0 l0.length l0) (hc0 : l0.length ≤ c0) (h : spec_l3Ends.f k l0 = some r) :
 Calls Try.prog 104 #[.slice A0 l0.length c0] w fun e w' => e = .returned (.bool r) ∧ Below w.heap.size w w' := by
 have HR0 := Aside0.mk hr0
 have HC0 := Aside0.mk hc0
 clear hr0 hc0
 have HB := Aside0.mk (Below.refl w.heap.size w)
 have H := h
 clear h
 unfold spec_l3Ends.f at H
 obtain ⟨t217, A2, H⟩ := ob_ H
 (try dsimp only at H)
 have H' := Aside0.mk H
 clear H
 go_enter Try.func104, Try.ntmps104
 go_wp2_with (first | ((with_reducible refine gate_callee (f := 140) rfl ?_); refine gl_ 6 Try.func140 #[.slice A0 l0.length c0, .int .i64 260] ?_; (with_reducible refine (spec_l3Table.calls k _ _ l0 260 t217 _ ?side1 ?side2 A2.out).mono ?_); (case side1 => repeat (first | exact HR0.out | (with_reducible refine Kd.C_alloc ?_ _) | (with_reducible refine Kd.C_drewN ?_ _) | (with_reducible refine Kd.C_drew ?_))); (case side2 => exact HC0.out); rintro e w3 ⟨v218, rfl, ho0, hb⟩; refine ⟨_, rfl, ?_⟩; have HO219 := rl_ ho0 HB; replace HB := bs_ HB hb; (try clear hb); (try clear hb2); (try clear hk); (try clear hi); (try clear ho0)))
 go_loopg [4] k (fun kq v4 w' => ∃ (x4_1 : Int), v4 = .int .i64 x4_1 ∧ Aside0 (spec_l3Ends.l0 kq l0 t217 x4_1 = some r) ∧ Aside0 (kq ≤ k) ∧ Aside0 (Kd.R Kd.bool 4 w' w.heap.size (fun _ => True) v218 t217) ∧ Aside0 (Below w.heap.size w w'))
 case atStart => exact ⟨(200), sd_, H', ⟨Nat.le_refl _⟩, ⟨kr_ HO219.out⟩, ⟨bl_ HB.out⟩⟩
 case round =>
  clear H'
  try clear c1
  try clear p2
  obtain ⟨x4_1, rfl, HA, HK1, HO_3, HB⟩ := hrel
  cases gk with
  | zero => exact absurd HA.out (by simp [spec_l3Ends.l0])
  | succ k1 =>
   have H := HA.out
   clear HA
   simp only [spec_l3Ends.l0] at H
   by_cases c4 : 0 < (l0.length : Int)
   ·rw [if_pos c4] at H
    have c4b0 : decide (0 < (l0.length : Int)) = true := decide_eq_true c4
    have c4b1 : decide (0 < l0.length) = true := decide_eq_true (by omega)
    clear c4
    by_cases c5 : x4_1 < (wrap64 (200 + (rd l0 0)))
    ·rw [if_pos c5] at H
     have c5b0 : decide (x4_1 < (wrap64 (200 + (rd l0 0)))) = true := decide_eq_true c5
     clear c5
     by_cases c6 : 0 ≤ x4_1
     ·rw [if_pos c6] at H
      have c6b0 : decide (0 ≤ x4_1) = true := decide_eq_true c6
      clear c6
      by_cases c7 : x4_1 < (t217.length : Int)
      ·rw [if_pos c7] at H
       have c7b0 : decide (x4_1 < (t217.length : Int)) = true := decide_eq_true c7
       clear c7
       obtain ⟨bq8, hbq8⟩ : ∃ b_ : Bool, b_ = (rdOf false t217 x4_1) := ⟨_, rfl⟩
       replace H : (if bq8 = true then (spec_l3Ends.l0 k1 l0 t217 (wrap64 (x4_1 + 1))) else (some false)) = some r := by rw [← hbq8] at H; exact H
       have Nbq8 := Aside0.mk hbq8
       clear hbq8
       by_cases c9 : bq8 = true
       ·subst c9
        rw [if_pos rfl] at H
        have H' := Aside0.mk H
        clear H
        have p220 : 0 ≤ (0 : Int) := (by omega)
        have q220 : 0 < (l0.length : Int) := od_
        obtain ⟨ad220, e220, hx220_0⟩ := Kd.at_int HR0.out 0 p220 q220
        cases e220
        have qi220 : (0 < l0.length) = True := eq_true (by omega)
        (try rw [show ((0 : Int)).toNat = 0 from rfl] at hx220_0)
        (try rw [Addr.add_zero'] at hx220_0)
        replace hx220_0 := (HB.out.cell (World.block_lt_of_cell? w _ hx220_0)).trans hx220_0
        replace p220 := eq_true p220
        replace q220 := eq_true q220
        obtain ⟨Ao10, co10, eo10⟩ := Kd.R_slice HO_3.out
        subst eo10
        have p221 : 0 ≤ (x4_1 : Int) := od_
        have q221 : x4_1 < (t217.length : Int) := od_
        obtain ⟨ad221, e221, hx221_0⟩ := Kd.at_bool (Kd.R_reads' HO_3.out).2.2 x4_1 p221 q221
        (try rw [← Nbq8.out] at hx221_0)
        cases e221
        replace p221 := eq_true p221
        replace q221 := eq_true q221
        go_wp2
        go_roundg k1
        case measure => have := HK1.out; omega
        case rel => exact ⟨(wrap64 (x4_1 + 1)), sd_, H', ⟨by have := HK1.out; omega⟩, ⟨kr_ HO_3.out⟩, ⟨bl_ HB.out⟩⟩
       ·obtain rfl := Bool.eq_false_iff.mpr c9
        rw [if_neg nf_] at H
        obtain rfl := Option.some.inj H
        have p220 : 0 ≤ (0 : Int) := (by omega)
        have q220 : 0 < (l0.length : Int) := od_
        obtain ⟨ad220, e220, hx220_0⟩ := Kd.at_int HR0.out 0 p220 q220
        cases e220
        have qi220 : (0 < l0.length) = True := eq_true (by omega)
        (try rw [show ((0 : Int)).toNat = 0 from rfl] at hx220_0)
        (try rw [Addr.add_zero'] at hx220_0)
        replace hx220_0 := (HB.out.cell (World.block_lt_of_cell? w _ hx220_0)).trans hx220_0
        replace p220 := eq_true p220
        replace q220 := eq_true q220
        obtain ⟨Ao11, co11, eo11⟩ := Kd.R_slice HO_3.out
        subst eo11
        have p221 : 0 ≤ (x4_1 : Int) := od_
        have q221 : x4_1 < (t217.length : Int) := od_
        obtain ⟨ad221, e221, hx221_0⟩ := Kd.at_bool (Kd.R_reads' HO_3.out).2.2 x4_1 p221 q221
        (try rw [← Nbq8.out] at hx221_0)
        cases e221
        replace p221 := eq_true p221
        replace q221 := eq_true q221
        go_wp2
        go_ret
        exact ⟨er_, bl_ HB.out⟩
      ·rw [if_neg c7] at H
       exact absurd H (by simp)
     ·rw [if_neg c6] at H
      exact absurd H (by simp)
    ·rw [if_neg c5] at H
     have c5b0 : decide (x4_1 < (wrap64 (200 + (rd l0 0)))) = false := decide_eq_false c5
     clear c5
     obtain rfl := Option.some.inj H
     have p220 : 0 ≤ (0 : Int) := (by omega)
     have q220 : 0 < (l0.length : Int) := od_
     obtain ⟨ad220, e220, hx220_0⟩ := Kd.at_int HR0.out 0 p220 q220
     cases e220
     have qi220 : (0 < l0.length) = True := eq_true (by omega)
     (try rw [show ((0 : Int)).toNat = 0 from rfl] at hx220_0)
     (try rw [Addr.add_zero'] at hx220_0)
     replace hx220_0 := (HB.out.cell (World.block_lt_of_cell? w _ hx220_0)).trans hx220_0
     replace p220 := eq_true p220
     replace q220 := eq_true q220
     go_wp2
     go_ret
     exact ⟨er_, bl_ HB.out⟩
   ·rw [if_neg c4] at H
    exact absurd H (by simp)
end Go.Proofs.Ytbjbolblahlhcaa.PFnWilf
end
section
namespace Go.Proofs.Ytbjbolblahlhcaa.PFnWilf
open Go.RowKit Go.Proofs.YtbjbolblahlhcaaW.PrintWords Go.Proofs.YtbjbolblahlhcaaW.PrintLast Go.Proofs.YtbjbolblahlhcaaW.PrintMore
open Go.Proofs.Ytbjbolblahlhcaa.SortW (bk_ kr_ t_ f_)
open Go.Proofs.Ytbjbolblahlhcaa.SqW
attribute [local go_sem] max2_int min2_int max_two min_two max_three min_three max_four min_four
set_option linter.unusedVariables false
set_option linter.unusedSimpArgs false
def spec_IsSemigroup.f (k : Nat) (l0_0 : List Int) : Option (Bool) := (spec_l3Gens.f k l0_0).bind fun t223 => (if t223 = true then (if (l0_0.length : Int) ≤ 12 then ((spec_IsAscending.f k l0_0).bind fun t224 => (if t224 = true then ((spec_GcdOfList.f k l0_0).bind fun t225 => (if t225 = 1 then ((spec_l3Minimal.f k l0_0).bind fun t226 => ((spec_l2Same.f k t226 l0_0).bind fun t229 => (if t229 = true then ((spec_l3Ends.f k l0_0).bind fun t230 => (some t230)) else (some false)))) else (some false))) else (some false))) else (some false)) else (some false))
def spec_IsSemigroup.T1 : Bool × List (List Nat × List Nat) := (true, [([], []), ([0], [0]), ([1], [1]), ([2, 2], [2]), ([3], [3]), ([4, 3], [3, 4]), ([5, 3], [3, 5]), ([6, 3], [3, 6]), ([3, 7], [3, 7]), ([8, 3], [8]), ([9], [9]), ([10, 9], [9, 10]), ([11, 9, 9], [9, 11]), ([9, 12], [9, 12]), ([13, 12], [13]), ([14], [14]), ([15, 14], [14, 15]), ([16, 14, 14], [14, 16]), ([17, 14], [14, 17]), ([14, 18], [14, 18]), ([19, 17], [19]), ([20], [20]), ([21, 20], [20, 21]), ([22, 20, 20], [20, 22]), ([20], [20]), ([24, 20], [20, 24]), ([23, 25, 23, 20], [20, 23, 25]), ([20, 26], [20, 26]), ([27, 26], [27]), ([28], [28]), ([29, 28], [28, 29]), ([30, 28, 28], [28, 30]), ([28, 31], [28, 31]), ([32, 31, 0, 1, 2, 3, 4, 5, 6, 7, 8, 9, 10, 11, 12, 13, 14, 15, 16, 17, 18, 19, 20, 21, 22, 23, 24, 25, 26, 27, 28, 29, 30, 31, 32], [32])])
def spec_IsSemigroup.B1 : List Nat := [0, 1, 3, 7, 15, 31, 63, 127, 255, 511, 1023, 2047, 4095, 8191, 16383, 32767, 65535, 131071, 262143, 524287, 1048575, 2097151, 4194303, 8388607, 2097151, 18874367, 67108863, 134217727, 268435455, 536870911, 1073741823, 2147483647, 4294967295, 8589934591]
theorem spec_IsSemigroup.tab1 : rtab .any (opsOf Try.f41 1) = spec_IsSemigroup.T1 := by kernel_rfl
theorem spec_IsSemigroup.bits1 : waitsOk spec_IsSemigroup.T1.2 spec_IsSemigroup.B1 = true := by kernel_rfl
set_option maxHeartbeats 8000000 in
set_option maxRecDepth 100000 in
theorem spec_IsSemigroup.calls (k : Nat) (A0_0 : Option Addr) (c0_0 : Nat) (l0_0 : List Int) (r : Bool) (w : World) (hr0_0 : Kd.C (Kd.int .i64) w A0_0 l0_0.length l0_0) (hc0_0 : l0_0.length ≤ c0_0) (h : spec_IsSemigroup.f k l0_0 = some r) :
 Calls Try.prog 41 #[.agg #[.slice A0_0 l0_0.length c0_0]] w fun e w' => e = .returned (.bool r) ∧ Below w.heap.size w w' := by
 have hu41 := Try.underlying41
 have HR0_0 := Aside0.mk hr0_0
 have HC0_0 := Aside0.mk hc0_0
 clear hr0_0 hc0_0
 have HB := Aside0.mk (Below.refl w.heap.size w)
 have H := h
 clear h
 unfold spec_IsSemigroup.f at H
 obtain ⟨t223, A2, H⟩ := ob_ H
 (try dsimp only at H)
 by_cases c3 : t223 = true
 ·subst c3
  rw [if_pos rfl] at H
  by_cases c4 : (l0_0.length : Int) ≤ 12
  ·rw [if_pos c4] at H
   have c4b0 : decide ((l0_0.length : Int) ≤ 12) = true := decide_eq_true c4
   have c4b1 : decide (l0_0.length ≤ 12) = true := decide_eq_true (by omega)
   clear c4
   obtain ⟨t224, A5, H⟩ := ob_ H
   (try dsimp only at H)
   by_cases c6 : t224 = true
   ·subst c6
    rw [if_pos rfl] at H
    obtain ⟨t225, A7, H⟩ := ob_ H
    (try dsimp only at H)
    by_cases c8 : t225 = 1
    ·rw [if_pos c8] at H
     have c8b0 : (t225 == 1) = true := beq_iff_eq.mpr c8
     have c8b1 : (t225 != 1) = false := bne_eq_false_iff_eq.mpr c8
     clear c8
     obtain ⟨t226, A9, H⟩ := ob_ H
     (try dsimp only at H)
     obtain ⟨t229, A10, H⟩ := ob_ H
     (try dsimp only at H)
     by_cases c11 : t229 = true
     ·subst c11
      rw [if_pos rfl] at H
      obtain ⟨t230, A12, H⟩ := ob_ H
      (try dsimp only at H)
      obtain rfl := Option.some.inj H
      go_enter Try.func41, Try.ntmps41
      try go_wp2_with (first | ((with_reducible refine gate_dst (N := 1) rfl ?_); (try (refine gate_guard (by rfl) ?_; dsimp only)); refine be_ 1 #[.slice A0_0 l0_0.length c0_0] 41 fun gb222 hg w13 hbox hb => ?_; have BK222 := Aside0.mk (hbox); have GW222 := ge_ hg HB; have GE222 := ge_ hg HB; replace HB := bs_ HB hb; clear hb hbox hg))
      replace BK222 := Aside0.mk (blk_drew BK222.out)
      replace HB := Aside0.mk (below_drew1 HB.out)
      refine start_ (n := 34) (S := fun w' => w'.cell? ⟨gb222, 0, none⟩ = some (.slice A0_0 l0_0.length c0_0)) (ds := []) (fl_ 34 0) (by kernel_rfl) rfl rfl ((blk_cell BK222.out 0).trans rfl) (fun hHeld => ?_); refine with_tabW spec_IsSemigroup.tab1 spec_IsSemigroup.bits1 (fun HT_ HW_ => ?_)
      generalize w13.drew = w14 at BK222 HB hHeld ⊢
      refine pu_ 0 3 (fl_ 34 1) ?_
      refine ta_ 1 4 (fl_ 34 2) ?_
      refine on_ 2 5 (fl_ 34 3) fun K hK => ?_
      refine go_ Try.func100 #[.slice A0_0 l0_0.length c0_0] ?_
      with_reducible refine (spec_l3Gens.calls k _ _ l0_0 true _ ?side1 ?side2 A2.out).mono ?_
      (case side1 => exact cs_ HR0_0 HB)
      (case side2 => exact HC0_0.out)
      rintro e w' ⟨rfl, ⟨nd, rfl⟩⟩
      refine ⟨_, rfl, ?_⟩
      refine hK.out _ _ ((blk_cell BK222.out 0).trans rfl) (fun hHeld => ?_)
      clear hK K
      refine no_ 5 ?_
      refine pu_ 3 6 (fl_ 34 4) ?_
      refine pu_ 4 7 (fl_ 34 5) ?_
      refine ta_ 5 8 (fl_ 34 6) ?_
      refine pu_ 6 9 (fl_ 34 7) ?_
      refine pu_ 7 10 (fl_ 34 8) ?_
      refine pu_ 8 11 (fl_ 34 9) ?_
      refine pu_ 9 12 (fl_ 34 10) ?_
      refine pu_ 10 13 (fl_ 34 11) ?_
      refine ta_ 11 14 (fl_ 34 12) ?_
      refine on_ 12 15 (fl_ 34 13) fun K hK => ?_
      refine go_ Try.func90 #[.slice A0_0 l0_0.length c0_0] ?_
      with_reducible refine (spec_IsAscending.calls k _ _ l0_0 true _ ?side1 ?side2 A5.out).mono ?_
      (case side1 => exact cs_ HR0_0 HB)
      (case side2 => exact HC0_0.out)
      rintro e w' ⟨rfl, ⟨nd, rfl⟩⟩
      refine ⟨_, rfl, ?_⟩
      refine hK.out _ _ ((blk_cell BK222.out 0).trans rfl) (fun hHeld => ?_)
      clear hK K
      refine no_ 15 ?_
      refine pu_ 13 16 (fl_ 34 14) ?_
      refine pu_ 14 17 (fl_ 34 15) ?_
      refine pu_ 15 18 (fl_ 34 16) ?_
      refine ta_ 16 19 (fl_ 34 17) ?_
      refine on_ 17 20 (fl_ 34 18) fun K hK => ?_
      refine go_ Try.func101 #[.slice A0_0 l0_0.length c0_0] ?_
      with_reducible refine (spec_GcdOfList.calls k _ _ l0_0 t225 _ ?side1 ?side2 A7.out).mono ?_
      (case side1 => exact cs_ HR0_0 HB)
      (case side2 => exact HC0_0.out)
      rintro e w' ⟨rfl, ⟨nd, rfl⟩⟩
      refine ⟨_, rfl, ?_⟩
      refine hK.out _ _ ((blk_cell BK222.out 0).trans rfl) (fun hHeld => ?_)
      clear hK K
      refine no_ 20 ?_
      refine pu_ 18 21 (fl_ 34 19) ?_
      refine pu_ 19 22 (fl_ 34 20) ?_
      refine pu_ 20 23 (fl_ 34 21) ?_
      refine pu_ 21 24 (fl_ 34 22) ?_
      refine pu_ 24 27 (fm_ 34 20971519) ?_
      refine ta_ 22 25 (fm_ 34 25165823) ?_
      refine ta_ 25 28 (fm_ 34 58720255) ?_
      refine on_ 23 26 (fl_ 34 26) fun K hK => ?_
      refine go_ Try.func103 #[.slice A0_0 l0_0.length c0_0] ?_
      with_reducible refine (spec_l3Minimal.calls k _ _ l0_0 t226 _ ?side1 ?side2 A9.out).mono ?_
      (case side1 => exact cs_ HR0_0 HB)
      (case side2 => exact HC0_0.out)
      rintro e w15 ⟨v227, rfl, ho0, hb⟩
      refine ⟨_, rfl, ?_⟩
      have HO228 := rl_ ho0 HB
      replace BK222 := bb_ BK222 hb
      replace HB := bs_ HB hb
      (try clear hb)
      (try clear hb2)
      (try clear hk)
      (try clear hi)
      (try clear ho0)
      obtain ⟨Ao16, co16, eo16⟩ := Kd.R_slice HO228.out
      (first | subst eo16 | (injection eo16 with f1_ f2_ f3_; have f4_ := f1_.symm; have f5_ := f3_.symm; clear f1_ f2_ f3_; subst f4_; subst f5_))
      refine hK.out _ _ ((blk_cell BK222.out 0).trans rfl) (fun hHeld => ?_)
      clear hK K
      refine no_ 26 ?_
      refine on_ 26 29 (fl_ 34 27) fun K hK => ?_
      refine go_ Try.func102 #[.slice Ao16 t226.length co16, .slice A0_0 l0_0.length c0_0] ?_
      with_reducible refine (spec_l2Same.calls k _ _ t226 _ _ l0_0 true _ ?side1 ?side2 ?side3 ?side4 A10.out).mono ?_
      (case side1 => exact rs_ HO228)
      (case side2 => exact (Kd.R_reads' HO228.out).2.1)
      (case side3 => exact cs_ HR0_0 HB)
      (case side4 => exact HC0_0.out)
      rintro e w' ⟨rfl, ⟨nd, rfl⟩⟩
      refine ⟨_, rfl, ?_⟩
      refine hK.out _ _ ((blk_cell BK222.out 0).trans rfl) (fun hHeld => ?_)
      clear hK K
      refine no_ 29 ?_
      refine pu_ 27 30 (fl_ 34 28) ?_
      refine pu_ 28 31 (fl_ 34 29) ?_
      refine pu_ 29 32 (fl_ 34 30) ?_
      refine ta_ 30 33 (fl_ 34 31) ?_
      refine on_ 31 34 (fl_ 34 32) fun K hK => ?_
      refine go_ Try.func104 #[.slice A0_0 l0_0.length c0_0] ?_
      with_reducible refine (spec_l3Ends.calls k _ _ l0_0 t230 _ ?side1 ?side2 A12.out).mono ?_
      (case side1 => exact cs_ HR0_0 HB)
      (case side2 => exact HC0_0.out)
      rintro e w17 ⟨rfl, hb⟩
      refine ⟨_, rfl, ?_⟩
      replace HO228 := rb_ HO228 hb
      replace BK222 := bb_ BK222 hb
      replace HB := bs_ HB hb
      (try clear hb)
      (try clear hb2)
      (try clear hk)
      (try clear hi)
      refine hK.out _ _ ((blk_cell BK222.out 0).trans rfl) (fun hHeld => ?_)
      clear hK K
      refine no_ 34 ?_
      refine pu_ 32 35 (fl_ 34 33) ?_
      refine pu_ 33 2 (fl_ 34 34) ?_
      refine done_ (done_of HT_.out (by kernel_rfl)) ?_
      try go_wp2
      go_ret
      exact ⟨er_, bl_ HB.out⟩
     ·obtain rfl := Bool.eq_false_iff.mpr c11
      rw [if_neg nf_] at H
      obtain rfl := Option.some.inj H
      go_enter Try.func41, Try.ntmps41
      try go_wp2_with (first | ((with_reducible refine gate_dst (N := 1) rfl ?_); (try (refine gate_guard (by rfl) ?_; dsimp only)); refine be_ 1 #[.slice A0_0 l0_0.length c0_0] 41 fun gb222 hg w18 hbox hb => ?_; have BK222 := Aside0.mk (hbox); have GW222 := ge_ hg HB; have GE222 := ge_ hg HB; replace HB := bs_ HB hb; clear hb hbox hg))
      replace BK222 := Aside0.mk (blk_drew BK222.out)
      replace HB := Aside0.mk (below_drew1 HB.out)
      refine start_ (n := 34) (S := fun w' => w'.cell? ⟨gb222, 0, none⟩ = some (.slice A0_0 l0_0.length c0_0)) (ds := []) (fl_ 34 0) (by kernel_rfl) rfl rfl ((blk_cell BK222.out 0).trans rfl) (fun hHeld => ?_); refine with_tabW spec_IsSemigroup.tab1 spec_IsSemigroup.bits1 (fun HT_ HW_ => ?_)
      generalize w18.drew = w19 at BK222 HB hHeld ⊢
      refine pu_ 0 3 (fl_ 34 1) ?_
      refine ta_ 1 4 (fl_ 34 2) ?_
      refine on_ 2 5 (fl_ 34 3) fun K hK => ?_
      refine go_ Try.func100 #[.slice A0_0 l0_0.length c0_0] ?_
      with_reducible refine (spec_l3Gens.calls k _ _ l0_0 true _ ?side1 ?side2 A2.out).mono ?_
      (case side1 => exact cs_ HR0_0 HB)
      (case side2 => exact HC0_0.out)
      rintro e w' ⟨rfl, ⟨nd, rfl⟩⟩
      refine ⟨_, rfl, ?_⟩
      refine hK.out _ _ ((blk_cell BK222.out 0).trans rfl) (fun hHeld => ?_)
      clear hK K
      refine no_ 5 ?_
      refine pu_ 3 6 (fl_ 34 4) ?_
      refine pu_ 4 7 (fl_ 34 5) ?_
      refine ta_ 5 8 (fl_ 34 6) ?_
      refine pu_ 6 9 (fl_ 34 7) ?_
      refine pu_ 7 10 (fl_ 34 8) ?_
      refine pu_ 8 11 (fl_ 34 9) ?_
      refine pu_ 9 12 (fl_ 34 10) ?_
      refine pu_ 10 13 (fl_ 34 11) ?_
      refine ta_ 11 14 (fl_ 34 12) ?_
      refine on_ 12 15 (fl_ 34 13) fun K hK => ?_
      refine go_ Try.func90 #[.slice A0_0 l0_0.length c0_0] ?_
      with_reducible refine (spec_IsAscending.calls k _ _ l0_0 true _ ?side1 ?side2 A5.out).mono ?_
      (case side1 => exact cs_ HR0_0 HB)
      (case side2 => exact HC0_0.out)
      rintro e w' ⟨rfl, ⟨nd, rfl⟩⟩
      refine ⟨_, rfl, ?_⟩
      refine hK.out _ _ ((blk_cell BK222.out 0).trans rfl) (fun hHeld => ?_)
      clear hK K
      refine no_ 15 ?_
      refine pu_ 13 16 (fl_ 34 14) ?_
      refine pu_ 14 17 (fl_ 34 15) ?_
      refine pu_ 15 18 (fl_ 34 16) ?_
      refine ta_ 16 19 (fl_ 34 17) ?_
      refine on_ 17 20 (fl_ 34 18) fun K hK => ?_
      refine go_ Try.func101 #[.slice A0_0 l0_0.length c0_0] ?_
      with_reducible refine (spec_GcdOfList.calls k _ _ l0_0 t225 _ ?side1 ?side2 A7.out).mono ?_
      (case side1 => exact cs_ HR0_0 HB)
      (case side2 => exact HC0_0.out)
      rintro e w' ⟨rfl, ⟨nd, rfl⟩⟩
      refine ⟨_, rfl, ?_⟩
      refine hK.out _ _ ((blk_cell BK222.out 0).trans rfl) (fun hHeld => ?_)
      clear hK K
      refine no_ 20 ?_
      refine pu_ 18 21 (fl_ 34 19) ?_
      refine pu_ 19 22 (fl_ 34 20) ?_
      refine pu_ 20 23 (fl_ 34 21) ?_
      refine pu_ 21 24 (fl_ 34 22) ?_
      refine pu_ 24 27 (fm_ 34 20971519) ?_
      refine ta_ 22 25 (fm_ 34 25165823) ?_
      refine ta_ 25 28 (fm_ 34 58720255) ?_
      refine on_ 23 26 (fl_ 34 26) fun K hK => ?_
      refine go_ Try.func103 #[.slice A0_0 l0_0.length c0_0] ?_
      with_reducible refine (spec_l3Minimal.calls k _ _ l0_0 t226 _ ?side1 ?side2 A9.out).mono ?_
      (case side1 => exact cs_ HR0_0 HB)
      (case side2 => exact HC0_0.out)
      rintro e w20 ⟨v227, rfl, ho0, hb⟩
      refine ⟨_, rfl, ?_⟩
      have HO228 := rl_ ho0 HB
      replace BK222 := bb_ BK222 hb
      replace HB := bs_ HB hb
      (try clear hb)
      (try clear hb2)
      (try clear hk)
      (try clear hi)
      (try clear ho0)
      obtain ⟨Ao21, co21, eo21⟩ := Kd.R_slice HO228.out
      (first | subst eo21 | (injection eo21 with f1_ f2_ f3_; have f4_ := f1_.symm; have f5_ := f3_.symm; clear f1_ f2_ f3_; subst f4_; subst f5_))
      refine hK.out _ _ ((blk_cell BK222.out 0).trans rfl) (fun hHeld => ?_)
      clear hK K
      refine no_ 26 ?_
      refine on_ 26 29 (fl_ 34 27) fun K hK => ?_
      refine go_ Try.func102 #[.slice Ao21 t226.length co21, .slice A0_0 l0_0.length c0_0] ?_
      with_reducible refine (spec_l2Same.calls k _ _ t226 _ _ l0_0 false _ ?side1 ?side2 ?side3 ?side4 A10.out).mono ?_
      (case side1 => exact rs_ HO228)
      (case side2 => exact (Kd.R_reads' HO228.out).2.1)
      (case side3 => exact cs_ HR0_0 HB)
      (case side4 => exact HC0_0.out)
      rintro e w' ⟨rfl, ⟨nd, rfl⟩⟩
      refine ⟨_, rfl, ?_⟩
      refine hK.out _ _ ((blk_cell BK222.out 0).trans rfl) (fun hHeld => ?_)
      clear hK K
      refine no_ 29 ?_
      refine pu_ 27 30 (fl_ 34 28) ?_
      refine pu_ 28 31 (fl_ 34 29) ?_
      refine un_ 29 32 (fl_ 34 30) ?_
      refine un_ 30 33 (fl_ 34 31) ?_
      refine un_ 31 34 (fl_ 34 32) ?_
      refine pu_ 32 35 (fl_ 34 33) ?_
      refine pu_ 33 2 (fl_ 34 34) ?_
      refine done_ (done_of HT_.out (by kernel_rfl)) ?_
      try go_wp2
      go_ret
      exact ⟨er_, bl_ HB.out⟩
    ·rw [if_neg c8] at H
     have c8b0 : (t225 == 1) = false := beq_eq_false_iff_ne.mpr c8
     have c8b1 : (t225 != 1) = true := bne_iff_ne.mpr c8
     obtain rfl := Option.some.inj H
     go_enter Try.func41, Try.ntmps41
     try go_wp2_with (first | ((with_reducible refine gate_dst (N := 1) rfl ?_); (try (refine gate_guard (by rfl) ?_; dsimp only)); refine be_ 1 #[.slice A0_0 l0_0.length c0_0] 41 fun gb222 hg w22 hbox hb => ?_; have BK222 := Aside0.mk (hbox); have GW222 := ge_ hg HB; have GE222 := ge_ hg HB; replace HB := bs_ HB hb; clear hb hbox hg))
     replace BK222 := Aside0.mk (blk_drew BK222.out)
     replace HB := Aside0.mk (below_drew1 HB.out)
     refine start_ (n := 34) (S := fun w' => w'.cell? ⟨gb222, 0, none⟩ = some (.slice A0_0 l0_0.length c0_0)) (ds := []) (fl_ 34 0) (by kernel_rfl) rfl rfl ((blk_cell BK222.out 0).trans rfl) (fun hHeld => ?_); refine with_tabW spec_IsSemigroup.tab1 spec_IsSemigroup.bits1 (fun HT_ HW_ => ?_)
     generalize w22.drew = w23 at BK222 HB hHeld ⊢
     refine pu_ 0 3 (fl_ 34 1) ?_
     refine ta_ 1 4 (fl_ 34 2) ?_
     refine on_ 2 5 (fl_ 34 3) fun K hK => ?_
     refine go_ Try.func100 #[.slice A0_0 l0_0.length c0_0] ?_
     with_reducible refine (spec_l3Gens.calls k _ _ l0_0 true _ ?side1 ?side2 A2.out).mono ?_
     (case side1 => exact cs_ HR0_0 HB)
     (case side2 => exact HC0_0.out)
     rintro e w' ⟨rfl, ⟨nd, rfl⟩⟩
     refine ⟨_, rfl, ?_⟩
     refine hK.out _ _ ((blk_cell BK222.out 0).trans rfl) (fun hHeld => ?_)
     clear hK K
     refine no_ 5 ?_
     refine pu_ 3 6 (fl_ 34 4) ?_
     refine pu_ 4 7 (fl_ 34 5) ?_
     refine ta_ 5 8 (fl_ 34 6) ?_
     refine pu_ 6 9 (fl_ 34 7) ?_
     refine pu_ 7 10 (fl_ 34 8) ?_
     refine pu_ 8 11 (fl_ 34 9) ?_
     refine pu_ 9 12 (fl_ 34 10) ?_
     refine pu_ 10 13 (fl_ 34 11) ?_
     refine ta_ 11 14 (fl_ 34 12) ?_
     refine on_ 12 15 (fl_ 34 13) fun K hK => ?_
     refine go_ Try.func90 #[.slice A0_0 l0_0.length c0_0] ?_
     with_reducible refine (spec_IsAscending.calls k _ _ l0_0 true _ ?side1 ?side2 A5.out).mono ?_
     (case side1 => exact cs_ HR0_0 HB)
     (case side2 => exact HC0_0.out)
     rintro e w' ⟨rfl, ⟨nd, rfl⟩⟩
     refine ⟨_, rfl, ?_⟩
     refine hK.out _ _ ((blk_cell BK222.out 0).trans rfl) (fun hHeld => ?_)
     clear hK K
     refine no_ 15 ?_
     refine pu_ 13 16 (fl_ 34 14) ?_
     refine pu_ 14 17 (fl_ 34 15) ?_
     refine pu_ 15 18 (fl_ 34 16) ?_
     refine ta_ 16 19 (fl_ 34 17) ?_
     refine on_ 17 20 (fl_ 34 18) fun K hK => ?_
     refine go_ Try.func101 #[.slice A0_0 l0_0.length c0_0] ?_
     with_reducible refine (spec_GcdOfList.calls k _ _ l0_0 t225 _ ?side1 ?side2 A7.out).mono ?_
     (case side1 => exact cs_ HR0_0 HB)
     (case side2 => exact HC0_0.out)
     rintro e w' ⟨rfl, ⟨nd, rfl⟩⟩
     refine ⟨_, rfl, ?_⟩
     refine hK.out _ _ ((blk_cell BK222.out 0).trans rfl) (fun hHeld => ?_)
     clear hK K
     refine no_ 20 ?_
     refine pu_ 18 21 (fl_ 34 19) ?_
     refine pu_ 19 22 (fl_ 34 20) ?_
     refine pu_ 20 23 (fl_ 34 21) ?_
     refine un_ 21 24 (fl_ 34 22) ?_
     refine un_ 22 25 (fl_ 34 23) ?_
     refine un_ 23 26 (fl_ 34 24) ?_
     refine un_ 24 27 (fl_ 34 25) ?_
     refine un_ 25 28 (fl_ 34 26) ?_
     refine un_ 26 29 (fl_ 34 27) ?_
     refine pu_ 27 30 (fl_ 34 28) ?_
     refine pu_ 28 31 (fl_ 34 29) ?_
     refine un_ 29 32 (fl_ 34 30) ?_
     refine un_ 30 33 (fl_ 34 31) ?_
     refine un_ 31 34 (fl_ 34 32) ?_
     refine pu_ 32 35 (fl_ 34 33) ?_
     refine pu_ 33 2 (fl_ 34 34) ?_
     refine done_ (done_of HT_.out (by kernel_rfl)) ?_
     try go_wp2
     go_ret
     exact ⟨er_, bl_ HB.out⟩
   ·obtain rfl := Bool.eq_false_iff.mpr c6
    rw [if_neg nf_] at H
    obtain rfl := Option.some.inj H
    go_enter Try.func41, Try.ntmps41
    try go_wp2_with (first | ((with_reducible refine gate_dst (N := 1) rfl ?_); (try (refine gate_guard (by rfl) ?_; dsimp only)); refine be_ 1 #[.slice A0_0 l0_0.length c0_0] 41 fun gb222 hg w24 hbox hb => ?_; have BK222 := Aside0.mk (hbox); have GW222 := ge_ hg HB; have GE222 := ge_ hg HB; replace HB := bs_ HB hb; clear hb hbox hg))
    replace BK222 := Aside0.mk (blk_drew BK222.out)
    replace HB := Aside0.mk (below_drew1 HB.out)
    refine start_ (n := 34) (S := fun w' => w'.cell? ⟨gb222, 0, none⟩ = some (.slice A0_0 l0_0.length c0_0)) (ds := []) (fl_ 34 0) (by kernel_rfl) rfl rfl ((blk_cell BK222.out 0).trans rfl) (fun hHeld => ?_); refine with_tabW spec_IsSemigroup.tab1 spec_IsSemigroup.bits1 (fun HT_ HW_ => ?_)
    generalize w24.drew = w25 at BK222 HB hHeld ⊢
    refine pu_ 0 3 (fl_ 34 1) ?_
    refine ta_ 1 4 (fl_ 34 2) ?_
    refine on_ 2 5 (fl_ 34 3) fun K hK => ?_
    refine go_ Try.func100 #[.slice A0_0 l0_0.length c0_0] ?_
    with_reducible refine (spec_l3Gens.calls k _ _ l0_0 true _ ?side1 ?side2 A2.out).mono ?_
    (case side1 => exact cs_ HR0_0 HB)
    (case side2 => exact HC0_0.out)
    rintro e w' ⟨rfl, ⟨nd, rfl⟩⟩
    refine ⟨_, rfl, ?_⟩
    refine hK.out _ _ ((blk_cell BK222.out 0).trans rfl) (fun hHeld => ?_)
    clear hK K
    refine no_ 5 ?_
    refine pu_ 3 6 (fl_ 34 4) ?_
    refine pu_ 4 7 (fl_ 34 5) ?_
    refine ta_ 5 8 (fl_ 34 6) ?_
    refine pu_ 6 9 (fl_ 34 7) ?_
    refine pu_ 7 10 (fl_ 34 8) ?_
    refine pu_ 8 11 (fl_ 34 9) ?_
    refine pu_ 9 12 (fl_ 34 10) ?_
    refine pu_ 10 13 (fl_ 34 11) ?_
    refine ta_ 11 14 (fl_ 34 12) ?_
    refine on_ 12 15 (fl_ 34 13) fun K hK => ?_
    refine go_ Try.func90 #[.slice A0_0 l0_0.length c0_0] ?_
    with_reducible refine (spec_IsAscending.calls k _ _ l0_0 false _ ?side1 ?side2 A5.out).mono ?_
    (case side1 => exact cs_ HR0_0 HB)
    (case side2 => exact HC0_0.out)
    rintro e w' ⟨rfl, ⟨nd, rfl⟩⟩
    refine ⟨_, rfl, ?_⟩
    refine hK.out _ _ ((blk_cell BK222.out 0).trans rfl) (fun hHeld => ?_)
    clear hK K
    refine no_ 15 ?_
    refine pu_ 13 16 (fl_ 34 14) ?_
    refine pu_ 14 17 (fl_ 34 15) ?_
    refine un_ 15 18 (fl_ 34 16) ?_
    refine un_ 16 19 (fl_ 34 17) ?_
    refine un_ 17 20 (fl_ 34 18) ?_
    refine un_ 18 21 (fl_ 34 19) ?_
    refine pu_ 19 22 (fl_ 34 20) ?_
    refine pu_ 20 23 (fl_ 34 21) ?_
    refine un_ 21 24 (fl_ 34 22) ?_
    refine un_ 22 25 (fl_ 34 23) ?_
    refine un_ 23 26 (fl_ 34 24) ?_
    refine un_ 24 27 (fl_ 34 25) ?_
    refine un_ 25 28 (fl_ 34 26) ?_
    refine un_ 26 29 (fl_ 34 27) ?_
    refine pu_ 27 30 (fl_ 34 28) ?_
    refine pu_ 28 31 (fl_ 34 29) ?_
    refine un_ 29 32 (fl_ 34 30) ?_
    refine un_ 30 33 (fl_ 34 31) ?_
    refine un_ 31 34 (fl_ 34 32) ?_
    refine pu_ 32 35 (fl_ 34 33) ?_
    refine pu_ 33 2 (fl_ 34 34) ?_
    refine done_ (done_of HT_.out (by kernel_rfl)) ?_
    try go_wp2
    go_ret
    exact ⟨er_, bl_ HB.out⟩
  ·rw [if_neg c4] at H
   have c4b0 : decide ((l0_0.length : Int) ≤ 12) = false := decide_eq_false c4
   have c4b1 : decide (l0_0.length ≤ 12) = false := decide_eq_false (by omega)
   clear c4
   obtain rfl := Option.some.inj H
   go_enter Try.func41, Try.ntmps41
   try go_wp2_with (first | ((with_reducible refine gate_dst (N := 1) rfl ?_); (try (refine gate_guard (by rfl) ?_; dsimp only)); refine be_ 1 #[.slice A0_0 l0_0.length c0_0] 41 fun gb222 hg w26 hbox hb => ?_; have BK222 := Aside0.mk (hbox); have GW222 := ge_ hg HB; have GE222 := ge_ hg HB; replace HB := bs_ HB hb; clear hb hbox hg))
   replace BK222 := Aside0.mk (blk_drew BK222.out)
   replace HB := Aside0.mk (below_drew1 HB.out)
   refine start_ (n := 34) (S := fun w' => w'.cell? ⟨gb222, 0, none⟩ = some (.slice A0_0 l0_0.length c0_0)) (ds := []) (fl_ 34 0) (by kernel_rfl) rfl rfl ((blk_cell BK222.out 0).trans rfl) (fun hHeld => ?_); refine with_tabW spec_IsSemigroup.tab1 spec_IsSemigroup.bits1 (fun HT_ HW_ => ?_)
   generalize w26.drew = w27 at BK222 HB hHeld ⊢
   refine pu_ 0 3 (fl_ 34 1) ?_
   refine ta_ 1 4 (fl_ 34 2) ?_
   refine on_ 2 5 (fl_ 34 3) fun K hK => ?_
   refine go_ Try.func100 #[.slice A0_0 l0_0.length c0_0] ?_
   with_reducible refine (spec_l3Gens.calls k _ _ l0_0 true _ ?side1 ?side2 A2.out).mono ?_
   (case side1 => exact cs_ HR0_0 HB)
   (case side2 => exact HC0_0.out)
   rintro e w' ⟨rfl, ⟨nd, rfl⟩⟩
   refine ⟨_, rfl, ?_⟩
   refine hK.out _ _ ((blk_cell BK222.out 0).trans rfl) (fun hHeld => ?_)
   clear hK K
   refine no_ 5 ?_
   refine pu_ 3 6 (fl_ 34 4) ?_
   refine pu_ 4 7 (fl_ 34 5) ?_
   refine ta_ 5 8 (fl_ 34 6) ?_
   refine pu_ 6 9 (fl_ 34 7) ?_
   refine pu_ 7 10 (fl_ 34 8) ?_
   refine pu_ 8 11 (fl_ 34 9) ?_
   refine pu_ 9 12 (fl_ 34 10) ?_
   refine un_ 10 13 (fl_ 34 11) ?_
   refine un_ 11 14 (fl_ 34 12) ?_
   refine un_ 12 15 (fl_ 34 13) ?_
   refine pu_ 13 16 (fl_ 34 14) ?_
   refine pu_ 14 17 (fl_ 34 15) ?_
   refine un_ 15 18 (fl_ 34 16) ?_
   refine un_ 16 19 (fl_ 34 17) ?_
   refine un_ 17 20 (fl_ 34 18) ?_
   refine un_ 18 21 (fl_ 34 19) ?_
   refine pu_ 19 22 (fl_ 34 20) ?_
   refine pu_ 20 23 (fl_ 34 21) ?_
   refine un_ 21 24 (fl_ 34 22) ?_
   refine un_ 22 25 (fl_ 34 23) ?_
   refine un_ 23 26 (fl_ 34 24) ?_
   refine un_ 24 27 (fl_ 34 25) ?_
   refine un_ 25 28 (fl_ 34 26) ?_
   refine un_ 26 29 (fl_ 34 27) ?_
   refine pu_ 27 30 (fl_ 34 28) ?_
   refine pu_ 28 31 (fl_ 34 29) ?_
   refine un_ 29 32 (fl_ 34 30) ?_
   refine un_ 30 33 (fl_ 34 31) ?_
   refine un_ 31 34 (fl_ 34 32) ?_
   refine pu_ 32 35 (fl_ 34 33) ?_
   refine pu_ 33 2 (fl_ 34 34) ?_
   refine done_ (done_of HT_.out (by kernel_rfl)) ?_
   try go_wp2
   go_ret
   exact ⟨er_, bl_ HB.out⟩
 ·obtain rfl := Bool.eq_false_iff.mpr c3
  rw [if_neg nf_] at H
  obtain rfl := Option.some.inj H
  go_enter Try.func41, Try.ntmps41
  try go_wp2_with (first | ((with_reducible refine gate_dst (N := 1) rfl ?_); (try (refine gate_guard (by rfl) ?_; dsimp only)); refine be_ 1 #[.slice A0_0 l0_0.length c0_0] 41 fun gb222 hg w28 hbox hb => ?_; have BK222 := Aside0.mk (hbox); have GW222 := ge_ hg HB; have GE222 := ge_ hg HB; replace HB := bs_ HB hb; clear hb hbox hg))
  replace BK222 := Aside0.mk (blk_drew BK222.out)
  replace HB := Aside0.mk (below_drew1 HB.out)
  refine start_ (n := 34) (S := fun w' => w'.cell? ⟨gb222, 0, none⟩ = some (.slice A0_0 l0_0.length c0_0)) (ds := []) (fl_ 34 0) (by kernel_rfl) rfl rfl ((blk_cell BK222.out 0).trans rfl) (fun hHeld => ?_); refine with_tabW spec_IsSemigroup.tab1 spec_IsSemigroup.bits1 (fun HT_ HW_ => ?_)
  generalize w28.drew = w29 at BK222 HB hHeld ⊢
  refine pu_ 0 3 (fl_ 34 1) ?_
  refine ta_ 1 4 (fl_ 34 2) ?_
  refine on_ 2 5 (fl_ 34 3) fun K hK => ?_
  refine go_ Try.func100 #[.slice A0_0 l0_0.length c0_0] ?_
  with_reducible refine (spec_l3Gens.calls k _ _ l0_0 false _ ?side1 ?side2 A2.out).mono ?_
  (case side1 => exact cs_ HR0_0 HB)
  (case side2 => exact HC0_0.out)
  rintro e w' ⟨rfl, ⟨nd, rfl⟩⟩
  refine ⟨_, rfl, ?_⟩
  refine hK.out _ _ ((blk_cell BK222.out 0).trans rfl) (fun hHeld => ?_)
  clear hK K
  refine no_ 5 ?_
  refine pu_ 3 6 (fl_ 34 4) ?_
  refine un_ 4 7 (fl_ 34 5) ?_
  refine un_ 5 8 (fl_ 34 6) ?_
  refine un_ 6 9 (fl_ 34 7) ?_
  refine un_ 7 10 (fl_ 34 8) ?_
  refine pu_ 8 11 (fl_ 34 9) ?_
  refine pu_ 9 12 (fl_ 34 10) ?_
  refine un_ 10 13 (fl_ 34 11) ?_
  refine un_ 11 14 (fl_ 34 12) ?_
  refine un_ 12 15 (fl_ 34 13) ?_
  refine pu_ 13 16 (fl_ 34 14) ?_
  refine pu_ 14 17 (fl_ 34 15) ?_
  refine un_ 15 18 (fl_ 34 16) ?_
  refine un_ 16 19 (fl_ 34 17) ?_
  refine un_ 17 20 (fl_ 34 18) ?_
  refine un_ 18 21 (fl_ 34 19) ?_
  refine pu_ 19 22 (fl_ 34 20) ?_
  refine pu_ 20 23 (fl_ 34 21) ?_
  refine un_ 21 24 (fl_ 34 22) ?_
  refine un_ 22 25 (fl_ 34 23) ?_
  refine un_ 23 26 (fl_ 34 24) ?_
  refine un_ 24 27 (fl_ 34 25) ?_
  refine un_ 25 28 (fl_ 34 26) ?_
  refine un_ 26 29 (fl_ 34 27) ?_
  refine pu_ 27 30 (fl_ 34 28) ?_
  refine pu_ 28 31 (fl_ 34 29) ?_
  refine un_ 29 32 (fl_ 34 30) ?_
  refine un_ 30 33 (fl_ 34 31) ?_
  refine un_ 31 34 (fl_ 34 32) ?_
  refine pu_ 32 35 (fl_ 34 33) ?_
  refine pu_ 33 2 (fl_ 34 34) ?_
  refine done_ (done_of HT_.out (by kernel_rfl)) ?_
  try go_wp2
  go_ret
  exact ⟨er_, bl_ HB.out⟩
end Go.Proofs.Ytbjbolblahlhcaa.PFnWilf
end
section
namespace Go.Proofs.Ytbjbolblahlhcaa.PFnWilf
open Go.RowKit Go.Proofs.YtbjbolblahlhcaaW.PrintWords Go.Proofs.YtbjbolblahlhcaaW.PrintLast Go.Proofs.YtbjbolblahlhcaaW.PrintMore
open Go.Proofs.Ytbjbolblahlhcaa.SortW (bk_ kr_ t_ f_)
open Go.Proofs.Ytbjbolblahlhcaa.SqW
attribute [local go_sem] max2_int min2_int max_two min_two max_three min_three max_four min_four
set_option linter.unusedVariables false
set_option linter.unusedSimpArgs false
def spec_FromGens.f (k : Nat) (l0 : List Int) : Option (List Int × Bool) := (spec_l3Gens.f k l0).bind fun t232 => (if t232 = true then ((spec_l3Minimal.f k l0).bind fun t233 => ((spec_IsSemigroup.f k t233).bind fun t237 => (if t237 = true then (some (t233, true)) else (some (([] : List Int), false))))) else (some (([] : List Int), false)))
set_option maxHeartbeats 8000000 in
set_option maxRecDepth 100000 in
theorem spec_FromGens.calls (k : Nat) (A0 : Option Addr) (c0 : Nat) (l0 : List Int) (r1 : List Int) (r2 : Bool) (w : World) (hr0 : Kd.C (Kd.int .i64) w A0 l0.length l0) (hc0 : l0.length ≤ c0) (h : spec_FromGens.f k l0 = some (r1, r2)) :
 Calls Try.prog 74 #[.slice A0 l0.length c0] w fun e w' => ∃ v0_ : Value, e = .returned (.tuple #[.agg #[v0_], .bool r2]) ∧ Kd.R (Kd.int .i64) 3 w' w.heap.size (fun _ => True) v0_ r1 ∧ Below w.heap.size w w' := by
 have hu41 := Try.underlying41
 have HR0 := Aside0.mk hr0
 have HC0 := Aside0.mk hc0
 clear hr0 hc0
 have HB := Aside0.mk (Below.refl w.heap.size w)
 have H := h
 clear h
 unfold spec_FromGens.f at H
 obtain ⟨t232, A2, H⟩ := ob_ H
 (try dsimp only at H)
 by_cases c3 : t232 = true
 ·subst c3
  rw [if_pos rfl] at H
  obtain ⟨t233, A4, H⟩ := ob_ H
  (try dsimp only at H)
  obtain ⟨t237, A5, H⟩ := ob_ H
  (try dsimp only at H)
  by_cases c6 : t237 = true
  ·subst c6
   rw [if_pos rfl] at H
   simp only [Option.some.injEq, Prod.mk.injEq] at H
   obtain ⟨rfl, rfl⟩ := H
   go_enter Try.func74, Try.ntmps74
   go_wp2_with (first | ((with_reducible refine gate_dst (N := 2) rfl ?_); refine be_ 2 #[.slice none 0 0] 41 fun gb231 hg w7 hbox hb => ?_; have BK231 := Aside0.mk (hbox); have GW231 := ge_ hg HB; have GE231 := ge_ hg HB; replace HB := bs_ HB hb; clear hb hbox hg) | ((with_reducible refine gate_callee (f := 100) rfl ?_); refine gl_ 6 Try.func100 #[.slice A0 l0.length c0] ?_; (with_reducible refine (spec_l3Gens.calls k _ _ l0 true _ ?side1 ?side2 A2.out).mono ?_); (case side1 => exact cs_ HR0 HB); (case side2 => exact HC0.out); rintro e w' ⟨rfl, ⟨nd, rfl⟩⟩; refine ⟨_, rfl, ?_⟩; (try (rw [drewN_self w7]; generalize hq_ : World.drewN w7 _ = w7; have n0_ : Aside0 (w7.heap[gb231]? = some (.cells #[.slice none 0 0] 41 (0, 0))) := ⟨by rw [← hq_]; exact (bk_ BK231.out)⟩; have n1_ : Aside0 (Below w.heap.size w w7) := ⟨by rw [← hq_]; exact (bl_ HB.out)⟩; clear BK231 HB hq_; have BK231 := n0_; have HB := n1_; clear n0_ n1_))) | ((with_reducible refine gate_callee (f := 103) rfl ?_); refine gl_ 10 Try.func103 #[.slice A0 l0.length c0] ?_; (with_reducible refine (spec_l3Minimal.calls k _ _ l0 t233 _ ?side1 ?side2 A4.out).mono ?_); (case side1 => exact cs_ HR0 HB); (case side2 => exact HC0.out); rintro e w8 ⟨v234, rfl, ho0, hb⟩; refine ⟨_, rfl, ?_⟩; have HO235 := rl_ ho0 HB; replace BK231 := bb_ BK231 hb; replace HB := bs_ HB hb; (try clear hb); (try clear hb2); (try clear hk); (try clear hi); (try clear ho0); obtain ⟨Ao9, co9, eo9⟩ := Kd.R_slice HO235.out; subst eo9) | ((with_reducible refine gate_dst (N := 4) rfl ?_); refine be_ 4 #[.slice none 0 0] 41 fun gb236 hg w10 hbox hb => ?_; replace HO235 := rb_ HO235 hb; have BK236 := Aside0.mk (hbox); have GW236 := ge_ hg HB; have GE236 := ge_ hg HB; replace HB := bs_ HB hb; have NB231_236 := nl_ hg BK231; have NB236_231 := ng_ hg BK231; replace BK231 := bb_ BK231 hb; clear hb hbox hg; have hnb11 := NB236_231.out; have hnc11 := NB231_236.out; have hcz12_0 := bc_ BK236; have hfz12_0 := blk_frozen BK236.out 0) | ((with_reducible refine gate_callee (f := 41) rfl ?_); refine gl_ 13 Try.func41 #[.agg #[.slice Ao9 t233.length co9]] ?_; (with_reducible refine (spec_IsSemigroup.calls k _ _ t233 true _ ?side1 ?side2 A5.out).mono ?_); (case side1 => refine (Kd.R_reads' (e := 3) (base := w.heap.size) (ok := fun k_ => True) (n := t233.length) (c := co9) ?_).2.2; exact (kr_ ((Kd.R_mono (Kd.R_far (p := ⟨gb236, 0, none⟩) (Kd.R_types HO235.out BK236.out (by decide)) (fun _ hk => hk.2) (.slice Ao9 t233.length co9)) (fun _ h_ => h_.1))))); (case side2 => exact (Kd.R_reads' HO235.out).2.1); rintro e w13 ⟨rfl, hb⟩; refine ⟨_, rfl, ?_⟩; replace HO235 := Aside0.mk (Kd.R_below (kr_ ((Kd.R_mono (Kd.R_far (p := ⟨gb236, 0, none⟩) (Kd.R_types HO235.out BK236.out (by decide)) (fun _ hk => hk.2) (.slice Ao9 t233.length co9)) (fun _ h_ => h_.1)))) hb); replace BK231 := Aside0.mk (blk_below (g := gb231) (o := .cells #[.slice none 0 0] 41 (0, 0)) (by (with_reducible repeat (first | refine blk_drewN ?_ _ | refine blk_drew ?_ | refine blk_alloc ?_ _)); refine blk_far ?_ NB231_236.out _; (with_reducible repeat (first | refine blk_drewN ?_ _ | refine blk_drew ?_ | refine blk_alloc ?_ _)); exact BK231.out) hb); replace BK236 := Aside0.mk (blk_below (g := gb236) (o := .cells #[.slice Ao9 t233.length co9] 41 (0, 0)) (by (with_reducible repeat (first | refine blk_drewN ?_ _ | refine blk_drew ?_ | refine blk_alloc ?_ _)); refine blk_put (cs := #[.slice none 0 0]) ?_ 0 _ rfl; (with_reducible repeat (first | refine blk_drewN ?_ _ | refine blk_drew ?_ | refine blk_alloc ?_ _)); exact BK236.out) hb); replace HB := bs_ HB hb; (try clear hb); (try clear hb2); (try clear hk); (try clear hi); have hcz14_0 := bc_ BK236; have hfz14_0 := blk_frozen BK236.out 0; have hcz15_0 := bc_ BK231; have hfz15_0 := blk_frozen BK231.out 0))
   refine bodyPost_ret (results_ct rfl _ _ gb231 41 #[.slice Ao9 t233.length co9] (0, 0) _ rfl (by (with_reducible repeat (first | refine blk_drewN ?_ _ | refine blk_drew ?_ | refine blk_alloc ?_ _)); refine blk_put (cs := #[.slice none 0 0]) ?_ 0 _ rfl; (with_reducible repeat (first | refine blk_drewN ?_ _ | refine blk_drew ?_ | refine blk_alloc ?_ _)); exact BK231.out) Try.underlying41 rfl (by kernel_rfl)) rfl ?_
   exact ⟨_, er_, kr_ (Kd.R_mono (Kd.R_far (p := ⟨gb231, 0, none⟩) (Kd.R_types HO235.out BK231.out (by decide)) (fun _ hk => hk.2) (.slice Ao9 t233.length co9)) (fun _ hk => trivial)), bl_ HB.out⟩
  ·obtain rfl := Bool.eq_false_iff.mpr c6
   rw [if_neg nf_] at H
   simp only [Option.some.injEq, Prod.mk.injEq] at H
   obtain ⟨rfl, rfl⟩ := H
   go_enter Try.func74, Try.ntmps74
   go_wp2_with (first | ((with_reducible refine gate_dst (N := 2) rfl ?_); refine be_ 2 #[.slice none 0 0] 41 fun gb231 hg w16 hbox hb => ?_; have BK231 := Aside0.mk (hbox); have GW231 := ge_ hg HB; have GE231 := ge_ hg HB; replace HB := bs_ HB hb; clear hb hbox hg) | ((with_reducible refine gate_callee (f := 100) rfl ?_); refine gl_ 6 Try.func100 #[.slice A0 l0.length c0] ?_; (with_reducible refine (spec_l3Gens.calls k _ _ l0 true _ ?side1 ?side2 A2.out).mono ?_); (case side1 => exact cs_ HR0 HB); (case side2 => exact HC0.out); rintro e w' ⟨rfl, ⟨nd, rfl⟩⟩; refine ⟨_, rfl, ?_⟩; (try (rw [drewN_self w16]; generalize hq_ : World.drewN w16 _ = w16; have n0_ : Aside0 (w16.heap[gb231]? = some (.cells #[.slice none 0 0] 41 (0, 0))) := ⟨by rw [← hq_]; exact (bk_ BK231.out)⟩; have n1_ : Aside0 (Below w.heap.size w w16) := ⟨by rw [← hq_]; exact (bl_ HB.out)⟩; clear BK231 HB hq_; have BK231 := n0_; have HB := n1_; clear n0_ n1_))) | ((with_reducible refine gate_callee (f := 103) rfl ?_); refine gl_ 10 Try.func103 #[.slice A0 l0.length c0] ?_; (with_reducible refine (spec_l3Minimal.calls k _ _ l0 t233 _ ?side1 ?side2 A4.out).mono ?_); (case side1 => exact cs_ HR0 HB); (case side2 => exact HC0.out); rintro e w17 ⟨v234, rfl, ho0, hb⟩; refine ⟨_, rfl, ?_⟩; have HO235 := rl_ ho0 HB; replace BK231 := bb_ BK231 hb; replace HB := bs_ HB hb; (try clear hb); (try clear hb2); (try clear hk); (try clear hi); (try clear ho0); obtain ⟨Ao18, co18, eo18⟩ := Kd.R_slice HO235.out; subst eo18) | ((with_reducible refine gate_dst (N := 4) rfl ?_); refine be_ 4 #[.slice none 0 0] 41 fun gb236 hg w19 hbox hb => ?_; replace HO235 := rb_ HO235 hb; have BK236 := Aside0.mk (hbox); have GW236 := ge_ hg HB; have GE236 := ge_ hg HB; replace HB := bs_ HB hb; have NB231_236 := nl_ hg BK231; have NB236_231 := ng_ hg BK231; replace BK231 := bb_ BK231 hb; clear hb hbox hg; have hnb20 := NB236_231.out; have hnc20 := NB231_236.out; have hcz21_0 := bc_ BK236; have hfz21_0 := blk_frozen BK236.out 0) | ((with_reducible refine gate_callee (f := 41) rfl ?_); refine gl_ 13 Try.func41 #[.agg #[.slice Ao18 t233.length co18]] ?_; (with_reducible refine (spec_IsSemigroup.calls k _ _ t233 false _ ?side1 ?side2 A5.out).mono ?_); (case side1 => refine (Kd.R_reads' (e := 3) (base := w.heap.size) (ok := fun k_ => True) (n := t233.length) (c := co18) ?_).2.2; exact (kr_ ((Kd.R_mono (Kd.R_far (p := ⟨gb236, 0, none⟩) (Kd.R_types HO235.out BK236.out (by decide)) (fun _ hk => hk.2) (.slice Ao18 t233.length co18)) (fun _ h_ => h_.1))))); (case side2 => exact (Kd.R_reads' HO235.out).2.1); rintro e w22 ⟨rfl, hb⟩; refine ⟨_, rfl, ?_⟩; replace HO235 := Aside0.mk (Kd.R_below (kr_ ((Kd.R_mono (Kd.R_far (p := ⟨gb236, 0, none⟩) (Kd.R_types HO235.out BK236.out (by decide)) (fun _ hk => hk.2) (.slice Ao18 t233.length co18)) (fun _ h_ => h_.1)))) hb); replace BK231 := Aside0.mk (blk_below (g := gb231) (o := .cells #[.slice none 0 0] 41 (0, 0)) (by (with_reducible repeat (first | refine blk_drewN ?_ _ | refine blk_drew ?_ | refine blk_alloc ?_ _)); refine blk_far ?_ NB231_236.out _; (with_reducible repeat (first | refine blk_drewN ?_ _ | refine blk_drew ?_ | refine blk_alloc ?_ _)); exact BK231.out) hb); replace BK236 := Aside0.mk (blk_below (g := gb236) (o := .cells #[.slice Ao18 t233.length co18] 41 (0, 0)) (by (with_reducible repeat (first | refine blk_drewN ?_ _ | refine blk_drew ?_ | refine blk_alloc ?_ _)); refine blk_put (cs := #[.slice none 0 0]) ?_ 0 _ rfl; (with_reducible repeat (first | refine blk_drewN ?_ _ | refine blk_drew ?_ | refine blk_alloc ?_ _)); exact BK236.out) hb); replace HB := bs_ HB hb; (try clear hb); (try clear hb2); (try clear hk); (try clear hi); have hcz23_0 := bc_ BK231; have hfz23_0 := blk_frozen BK231.out 0))
   refine bodyPost_ret (results_ct rfl _ _ gb231 41 #[.slice none 0 0] (0, 0) _ rfl (by (with_reducible repeat (first | refine blk_drewN ?_ _ | refine blk_drew ?_ | refine blk_alloc ?_ _)); refine blk_put (cs := #[.slice none 0 0]) ?_ 0 _ rfl; (with_reducible repeat (first | refine blk_drewN ?_ _ | refine blk_drew ?_ | refine blk_alloc ?_ _)); exact BK231.out) Try.underlying41 rfl (by kernel_rfl)) rfl ?_
   exact ⟨_, er_, by first | exact Kd.R_nil _ _ _ _ _ | exact Kd.N_nil _ _ _ _ _ | exact Kd.V_nil _ _ _ _ _ | exact Kd.Q_nil _ _ _ _ _ | exact Kd.S_nil _ _ _ _ _, bl_ HB.out⟩
 ·obtain rfl := Bool.eq_false_iff.mpr c3
  rw [if_neg nf_] at H
  simp only [Option.some.injEq, Prod.mk.injEq] at H
  obtain ⟨rfl, rfl⟩ := H
  go_enter Try.func74, Try.ntmps74
  go_wp2_with (first | ((with_reducible refine gate_dst (N := 2) rfl ?_); refine be_ 2 #[.slice none 0 0] 41 fun gb231 hg w24 hbox hb => ?_; have BK231 := Aside0.mk (hbox); have GW231 := ge_ hg HB; have GE231 := ge_ hg HB; replace HB := bs_ HB hb; clear hb hbox hg) | ((with_reducible refine gate_callee (f := 100) rfl ?_); refine gl_ 6 Try.func100 #[.slice A0 l0.length c0] ?_; (with_reducible refine (spec_l3Gens.calls k _ _ l0 false _ ?side1 ?side2 A2.out).mono ?_); (case side1 => exact cs_ HR0 HB); (case side2 => exact HC0.out); rintro e w' ⟨rfl, ⟨nd, rfl⟩⟩; refine ⟨_, rfl, ?_⟩; (try (rw [drewN_self w24]; generalize hq_ : World.drewN w24 _ = w24; have n0_ : Aside0 (w24.heap[gb231]? = some (.cells #[.slice none 0 0] 41 (0, 0))) := ⟨by rw [← hq_]; exact (bk_ BK231.out)⟩; have n1_ : Aside0 (Below w.heap.size w w24) := ⟨by rw [← hq_]; exact (bl_ HB.out)⟩; clear BK231 HB hq_; have BK231 := n0_; have HB := n1_; clear n0_ n1_)); have hcz25_0 := bc_ BK231; have hfz25_0 := blk_frozen BK231.out 0))
  refine bodyPost_ret (results_ct rfl _ _ gb231 41 #[.slice none 0 0] (0, 0) _ rfl (by (with_reducible repeat (first | refine blk_drewN ?_ _ | refine blk_drew ?_ | refine blk_alloc ?_ _)); refine blk_put (cs := #[.slice none 0 0]) ?_ 0 _ rfl; (with_reducible repeat (first | refine blk_drewN ?_ _ | refine blk_drew ?_ | refine blk_alloc ?_ _)); exact BK231.out) Try.underlying41 rfl (by kernel_rfl)) rfl ?_
  exact ⟨_, er_, by first | exact Kd.R_nil _ _ _ _ _ | exact Kd.N_nil _ _ _ _ _ | exact Kd.V_nil _ _ _ _ _ | exact Kd.Q_nil _ _ _ _ _ | exact Kd.S_nil _ _ _ _ _, bl_ HB.out⟩
def spec_l1Once.f (s0_0 : List Int) (s0_1 : Int) (s0_2 : Int) (a1 : Int) : Option (Bool × Int × Int) := (spec_l1Below.f s0_0 s0_1 s0_2 a1).bind fun bt238 => (some ((bt238.1 == 0), bt238.2.1, bt238.2.2))
set_option maxHeartbeats 8000000 in
set_option maxRecDepth 100000 in
theorem spec_l1Once.calls (g : Nat) (s0_0 : List Int) (s0_1 : Int) (s0_2 : Int) (a1 : Int) (r1 : Bool) (r2 : Int) (r3 : Int) (w0 w : World) (hI : IsS95 w0 w g s0_0 s0_1 s0_2) (hB : Below w0.heap.size w0 w) (h : spec_l1Once.f s0_0 s0_1 s0_2 a1 = some (r1, r2, r3)) :
 Calls Try.prog 148 #[.pointer (some ⟨g, 0, none⟩), .int .i64 a1] w fun e w' => e = .returned (.bool r1) ∧ IsS95 w0 w' g s0_0 r2 r3 ∧ Below w0.heap.size w0 w' ∧ KeepBut w w' g none := by
 have HI0 := Aside0.mk hI
 have HK := Aside0.mk (KeepBut.refl w g none)
 have HL := Aside0.mk hB.size
 clear hI
 have HW0 := Aside0.mk hB.size
 have HB := Aside0.mk hB
 clear hB
 have H := h
 clear h
 unfold spec_l1Once.f at H
 replace H := Option.bind_eq_some_iff.mp H
 obtain ⟨⟨t238, t239, t240⟩, A30, H⟩ := H
 (try dsimp only at H)
 have A3 := Aside0.mk A30
 clear A30
 simp only [Option.some.injEq, Prod.mk.injEq] at H
 obtain ⟨rfl, rfl, rfl⟩ := H
 go_enter Try.func148, Try.ntmps148
 go_wp2_with (first | ((with_reducible refine gate_callee (f := 82) rfl ?_); refine gl_ 7 Try.func82 #[.pointer (some ⟨g, 0, none⟩), .int .i64 a1] ?_; (with_reducible refine (spec_l1Below.calls g s0_0 s0_1 s0_2 a1 t238 t239 t240 w0 _ ?side1 ?side2 A3.out).mono ?_); (case side1 => exact hi_ HI0.out); (case side2 => exact bl_ HB.out); rintro e w4 ⟨rfl, hi, hb, hk⟩; refine ⟨_, rfl, ?_⟩; replace HK := Aside0.mk (KeepBut.trans (kp_ HK.out) hk (.inl rfl)); replace HB := Aside0.mk (hb); replace HI0 := Aside0.mk (hi); (try clear hb); (try clear hb2); (try clear hk); (try clear hi)))
 go_ret
 exact ⟨er_, hi_ HI0.out, bl_ HB.out, kp_ HK.out⟩
def spec_l3List.f (s0_0 : List Int) (s0_1 : Int) (s0_2 : Int) : Option (List Int × Int × Int) := (spec_l1Below.f s0_0 s0_1 s0_2 8).bind fun bt241 => (if bt241.1 = 0 then (some ((([1] : List Int)), bt241.2.1, bt241.2.2)) else (if bt241.1 = 1 then (some ((([3, 5] : List Int)), bt241.2.1, bt241.2.2)) else (if bt241.1 = 2 then (some ((([4, 6, 9] : List Int)), bt241.2.1, bt241.2.2)) else (if bt241.1 = 3 then (some ((([3, 4, 5] : List Int)), bt241.2.1, bt241.2.2)) else (if bt241.1 = 4 then (some ((([6, 9, 20] : List Int)), bt241.2.1, bt241.2.2)) else (if bt241.1 = 5 then (some ((([5, 7, 9, 11] : List Int)), bt241.2.1, bt241.2.2)) else (if bt241.1 = 6 then (some ((([2, 3] : List Int)), bt241.2.1, bt241.2.2)) else (some ((([4, 5, 11] : List Int)), bt241.2.1, bt241.2.2)))))))))
set_option maxHeartbeats 8000000 in
set_option maxRecDepth 100000 in
theorem spec_l3List.calls (g : Nat) (s0_0 : List Int) (s0_1 : Int) (s0_2 : Int) (r1 : List Int) (r2 : Int) (r3 : Int) (w0 w : World) (hI : IsS95 w0 w g s0_0 s0_1 s0_2) (hB : Below w0.heap.size w0 w) (h : spec_l3List.f s0_0 s0_1 s0_2 = some (r1, r2, r3)) :
 Calls Try.prog 150 #[.pointer (some ⟨g, 0, none⟩)] w fun e w' => ∃ v0_ : Value, e = .returned (v0_) ∧ Kd.R (Kd.int .i64) 3 w' w.heap.size (fun _ => True) v0_ r1 ∧ IsS95 w0 w' g s0_0 r2 r3 ∧ Below w0.heap.size w0 w' ∧ KeepBut w w' g none := by
 have HI0 := Aside0.mk hI
 have HK := Aside0.mk (KeepBut.refl w g none)
 have HL := Aside0.mk hB.size
 clear hI
 have HW0 := Aside0.mk hB.size
 have HB := Aside0.mk hB
 clear hB
 have H := h
 clear h
 unfold spec_l3List.f at H
 replace H := Option.bind_eq_some_iff.mp H
 obtain ⟨⟨t241, t242, t243⟩, A20, H⟩ := H
 (try dsimp only at H)
 have A2 := Aside0.mk A20
 clear A20
 by_cases c3 : t241 = 0
 ·rw [if_pos c3] at H
  have c3b0 : (t241 == 0) = true := beq_iff_eq.mpr c3
  have c3b1 : (t241 != 0) = false := bne_eq_false_iff_eq.mpr c3
  clear c3
  obtain ⟨y244, hy244⟩ : ∃ y_ : List Int, y_ = (([1] : List Int)) := ⟨_, rfl⟩
  replace H : (some (y244, t242, t243)) = some (r1, r2, r3) := by first | (rw [hy244]; with_reducible exact H) | (have H2_ := (Option.bind_some _ _).symm.trans H; rw [hy244]; with_reducible exact H2_) | (have H2_ := (Option.bind_some _ _).symm.trans H; with_reducible exact H2_) | with_reducible exact H | (rw [hy244]; exact H) | exact H
  have Ny244 := Aside0.mk hy244
  clear hy244
  simp only [Option.some.injEq, Prod.mk.injEq] at H
  obtain ⟨rfl, rfl, rfl⟩ := H
  go_enter Try.func150, Try.ntmps150
  go_wp2_with (first | ((with_reducible refine gate_callee (f := 82) rfl ?_); refine gl_ 4 Try.func82 #[.pointer (some ⟨g, 0, none⟩), .int .i64 8] ?_; (with_reducible refine (spec_l1Below.calls g s0_0 s0_1 s0_2 8 t241 t242 t243 w0 _ ?side1 ?side2 A2.out).mono ?_); (case side1 => exact hi_ HI0.out); (case side2 => exact bl_ HB.out); rintro e w4 ⟨rfl, hi, hb, hk⟩; refine ⟨_, rfl, ?_⟩; replace HK := Aside0.mk (KeepBut.trans (kp_ HK.out) hk (.inl rfl)); replace HB := Aside0.mk (hb); replace HI0 := Aside0.mk (hi); (try clear hb); (try clear hb2); (try clear hk); (try clear hi)) | ((with_reducible refine gate_dst (N := 7) rfl ?_); refine Kd.R_lit (Kd.int .i64) _ 3 ?hg (N := 7) ?hd (xs := ([1] : List Int)) (inner := [.int .i64 1]) (ok := fun _ => True) (okp := fun _ => True) ?hr ?hp (fun _ hk => hk) trivial (Below.refl _ _) (Nat.le_refl _) (by simp) ?_; (case hd => rfl); (case hg => rfl); (case hr => first | (go_simp; done) | (go_simp; rfl)); (case hp => exact (Reps.one (show Kd.M (Kd.int .i64) _ _ _ 1 [.int .i64 1] from rfl) (Reps.none _ _))); intro v245 w5 ho6 hb hg_ hnew_; clear hg_ hnew_; (first | rw [← Ny244.out] at ho6 | (simp only [Int.reduceToNat] at ho6; rw [← Ny244.out] at ho6)); have HO246 := Aside0.mk (Kd.R_lower ho6 (keep_size (w := w) (g := g) (row := none) (kp_ HK.out))); replace HI0 := Aside0.mk (IsS95.below (hi_ HI0.out) hb); replace HK := Aside0.mk (KeepBut.trans (kp_ HK.out) (KeepBut.of_below hb g none) (.inl rfl)); replace HB := bs_ HB hb; clear hb ho6))
  go_ret
  exact ⟨_, er_, kr_ HO246.out, hi_ HI0.out, bl_ HB.out, kp_ HK.out⟩
 ·rw [if_neg c3] at H
  have c3b0 : (t241 == 0) = false := beq_eq_false_iff_ne.mpr c3
  have c3b1 : (t241 != 0) = true := bne_iff_ne.mpr c3
  by_cases c7 : t241 = 1
  ·rw [if_pos c7] at H
   have c7b0 : (t241 == 1) = true := beq_iff_eq.mpr c7
   have c7b1 : (t241 != 1) = false := bne_eq_false_iff_eq.mpr c7
   clear c7
   obtain ⟨y247, hy247⟩ : ∃ y_ : List Int, y_ = (([3, 5] : List Int)) := ⟨_, rfl⟩
   replace H : (some (y247, t242, t243)) = some (r1, r2, r3) := by first | (rw [hy247]; with_reducible exact H) | (have H2_ := (Option.bind_some _ _).symm.trans H; rw [hy247]; with_reducible exact H2_) | (have H2_ := (Option.bind_some _ _).symm.trans H; with_reducible exact H2_) | with_reducible exact H | (rw [hy247]; exact H) | exact H
   have Ny247 := Aside0.mk hy247
   clear hy247
   simp only [Option.some.injEq, Prod.mk.injEq] at H
   obtain ⟨rfl, rfl, rfl⟩ := H
   go_enter Try.func150, Try.ntmps150
   go_wp2_with (first | ((with_reducible refine gate_callee (f := 82) rfl ?_); refine gl_ 4 Try.func82 #[.pointer (some ⟨g, 0, none⟩), .int .i64 8] ?_; (with_reducible refine (spec_l1Below.calls g s0_0 s0_1 s0_2 8 t241 t242 t243 w0 _ ?side1 ?side2 A2.out).mono ?_); (case side1 => exact hi_ HI0.out); (case side2 => exact bl_ HB.out); rintro e w8 ⟨rfl, hi, hb, hk⟩; refine ⟨_, rfl, ?_⟩; replace HK := Aside0.mk (KeepBut.trans (kp_ HK.out) hk (.inl rfl)); replace HB := Aside0.mk (hb); replace HI0 := Aside0.mk (hi); (try clear hb); (try clear hb2); (try clear hk); (try clear hi)) | ((with_reducible refine gate_dst (N := 10) rfl ?_); refine Kd.R_lit (Kd.int .i64) _ 3 ?hg (N := 10) ?hd (xs := ([3, 5] : List Int)) (inner := [.int .i64 3, .int .i64 5]) (ok := fun _ => True) (okp := fun _ => True) ?hr ?hp (fun _ hk => hk) trivial (Below.refl _ _) (Nat.le_refl _) (by simp) ?_; (case hd => rfl); (case hg => rfl); (case hr => first | (go_simp; done) | (go_simp; rfl)); (case hp => exact (Reps.one (show Kd.M (Kd.int .i64) _ _ _ 3 [.int .i64 3] from rfl) (Reps.one (show Kd.M (Kd.int .i64) _ _ _ 5 [.int .i64 5] from rfl) (Reps.none _ _)))); intro v248 w9 ho10 hb hg_ hnew_; clear hg_ hnew_; (first | rw [← Ny247.out] at ho10 | (simp only [Int.reduceToNat] at ho10; rw [← Ny247.out] at ho10)); have HO249 := Aside0.mk (Kd.R_lower ho10 (keep_size (w := w) (g := g) (row := none) (kp_ HK.out))); replace HI0 := Aside0.mk (IsS95.below (hi_ HI0.out) hb); replace HK := Aside0.mk (KeepBut.trans (kp_ HK.out) (KeepBut.of_below hb g none) (.inl rfl)); replace HB := bs_ HB hb; clear hb ho10))
   go_ret
   exact ⟨_, er_, kr_ HO249.out, hi_ HI0.out, bl_ HB.out, kp_ HK.out⟩
  ·rw [if_neg c7] at H
   have c7b0 : (t241 == 1) = false := beq_eq_false_iff_ne.mpr c7
   have c7b1 : (t241 != 1) = true := bne_iff_ne.mpr c7
   by_cases c11 : t241 = 2
   ·rw [if_pos c11] at H
    have c11b0 : (t241 == 2) = true := beq_iff_eq.mpr c11
    have c11b1 : (t241 != 2) = false := bne_eq_false_iff_eq.mpr c11
    clear c11
    obtain ⟨y250, hy250⟩ : ∃ y_ : List Int, y_ = (([4, 6, 9] : List Int)) := ⟨_, rfl⟩
    replace H : (some (y250, t242, t243)) = some (r1, r2, r3) := by first | (rw [hy250]; with_reducible exact H) | (have H2_ := (Option.bind_some _ _).symm.trans H; rw [hy250]; with_reducible exact H2_) | (have H2_ := (Option.bind_some _ _).symm.trans H; with_reducible exact H2_) | with_reducible exact H | (rw [hy250]; exact H) | exact H
    have Ny250 := Aside0.mk hy250
    clear hy250
    simp only [Option.some.injEq, Prod.mk.injEq] at H
    obtain ⟨rfl, rfl, rfl⟩ := H
    go_enter Try.func150, Try.ntmps150
    go_wp2_with (first | ((with_reducible refine gate_callee (f := 82) rfl ?_); refine gl_ 4 Try.func82 #[.pointer (some ⟨g, 0, none⟩), .int .i64 8] ?_; (with_reducible refine (spec_l1Below.calls g s0_0 s0_1 s0_2 8 t241 t242 t243 w0 _ ?side1 ?side2 A2.out).mono ?_); (case side1 => exact hi_ HI0.out); (case side2 => exact bl_ HB.out); rintro e w12 ⟨rfl, hi, hb, hk⟩; refine ⟨_, rfl, ?_⟩; replace HK := Aside0.mk (KeepBut.trans (kp_ HK.out) hk (.inl rfl)); replace HB := Aside0.mk (hb); replace HI0 := Aside0.mk (hi); (try clear hb); (try clear hb2); (try clear hk); (try clear hi)) | ((with_reducible refine gate_dst (N := 13) rfl ?_); refine Kd.R_lit (Kd.int .i64) _ 3 ?hg (N := 13) ?hd (xs := ([4, 6, 9] : List Int)) (inner := [.int .i64 4, .int .i64 6, .int .i64 9]) (ok := fun _ => True) (okp := fun _ => True) ?hr ?hp (fun _ hk => hk) trivial (Below.refl _ _) (Nat.le_refl _) (by simp) ?_; (case hd => rfl); (case hg => rfl); (case hr => first | (go_simp; done) | (go_simp; rfl)); (case hp => exact (Reps.one (show Kd.M (Kd.int .i64) _ _ _ 4 [.int .i64 4] from rfl) (Reps.one (show Kd.M (Kd.int .i64) _ _ _ 6 [.int .i64 6] from rfl) (Reps.one (show Kd.M (Kd.int .i64) _ _ _ 9 [.int .i64 9] from rfl) (Reps.none _ _))))); intro v251 w13 ho14 hb hg_ hnew_; clear hg_ hnew_; (first | rw [← Ny250.out] at ho14 | (simp only [Int.reduceToNat] at ho14; rw [← Ny250.out] at ho14)); have HO252 := Aside0.mk (Kd.R_lower ho14 (keep_size (w := w) (g := g) (row := none) (kp_ HK.out))); replace HI0 := Aside0.mk (IsS95.below (hi_ HI0.out) hb); replace HK := Aside0.mk (KeepBut.trans (kp_ HK.out) (KeepBut.of_below hb g none) (.inl rfl)); replace HB := bs_ HB hb; clear hb ho14))
    go_ret
    exact ⟨_, er_, kr_ HO252.out, hi_ HI0.out, bl_ HB.out, kp_ HK.out⟩
   ·rw [if_neg c11] at H
    have c11b0 : (t241 == 2) = false := beq_eq_false_iff_ne.mpr c11
    have c11b1 : (t241 != 2) = true := bne_iff_ne.mpr c11
    by_cases c15 : t241 = 3
    ·rw [if_pos c15] at H
     have c15b0 : (t241 == 3) = true := beq_iff_eq.mpr c15
     have c15b1 : (t241 != 3) = false := bne_eq_false_iff_eq.mpr c15
     clear c15
     obtain ⟨y253, hy253⟩ : ∃ y_ : List Int, y_ = (([3, 4, 5] : List Int)) := ⟨_, rfl⟩
     replace H : (some (y253, t242, t243)) = some (r1, r2, r3) := by first | (rw [hy253]; with_reducible exact H) | (have H2_ := (Option.bind_some _ _).symm.trans H; rw [hy253]; with_reducible exact H2_) | (have H2_ := (Option.bind_some _ _).symm.trans H; with_reducible exact H2_) | with_reducible exact H | (rw [hy253]; exact H) | exact H
     have Ny253 := Aside0.mk hy253
     clear hy253
     simp only [Option.some.injEq, Prod.mk.injEq] at H
     obtain ⟨rfl, rfl, rfl⟩ := H
     go_enter Try.func150, Try.ntmps150
     go_wp2_with (first | ((with_reducible refine gate_callee (f := 82) rfl ?_); refine gl_ 4 Try.func82 #[.pointer (some ⟨g, 0, none⟩), .int .i64 8] ?_; (with_reducible refine (spec_l1Below.calls g s0_0 s0_1 s0_2 8 t241 t242 t243 w0 _ ?side1 ?side2 A2.out).mono ?_); (case side1 => exact hi_ HI0.out); (case side2 => exact bl_ HB.out); rintro e w16 ⟨rfl, hi, hb, hk⟩; refine ⟨_, rfl, ?_⟩; replace HK := Aside0.mk (KeepBut.trans (kp_ HK.out) hk (.inl rfl)); replace HB := Aside0.mk (hb); replace HI0 := Aside0.mk (hi); (try clear hb); (try clear hb2); (try clear hk); (try clear hi)) | ((with_reducible refine gate_dst (N := 16) rfl ?_); refine Kd.R_lit (Kd.int .i64) _ 3 ?hg (N := 16) ?hd (xs := ([3, 4, 5] : List Int)) (inner := [.int .i64 3, .int .i64 4, .int .i64 5]) (ok := fun _ => True) (okp := fun _ => True) ?hr ?hp (fun _ hk => hk) trivial (Below.refl _ _) (Nat.le_refl _) (by simp) ?_; (case hd => rfl); (case hg => rfl); (case hr => first | (go_simp; done) | (go_simp; rfl)); (case hp => exact (Reps.one (show Kd.M (Kd.int .i64) _ _ _ 3 [.int .i64 3] from rfl) (Reps.one (show Kd.M (Kd.int .i64) _ _ _ 4 [.int .i64 4] from rfl) (Reps.one (show Kd.M (Kd.int .i64) _ _ _ 5 [.int .i64 5] from rfl) (Reps.none _ _))))); intro v254 w17 ho18 hb hg_ hnew_; clear hg_ hnew_; (first | rw [← Ny253.out] at ho18 | (simp only [Int.reduceToNat] at ho18; rw [← Ny253.out] at ho18)); have HO255 := Aside0.mk (Kd.R_lower ho18 (keep_size (w := w) (g := g) (row := none) (kp_ HK.out))); replace HI0 := Aside0.mk (IsS95.below (hi_ HI0.out) hb); replace HK := Aside0.mk (KeepBut.trans (kp_ HK.out) (KeepBut.of_below hb g none) (.inl rfl)); replace HB := bs_ HB hb; clear hb ho18))
     go_ret
     exact ⟨_, er_, kr_ HO255.out, hi_ HI0.out, bl_ HB.out, kp_ HK.out⟩
    ·rw [if_neg c15] at H
     have c15b0 : (t241 == 3) = false := beq_eq_false_iff_ne.mpr c15
     have c15b1 : (t241 != 3) = true := bne_iff_ne.mpr c15
     by_cases c19 : t241 = 4
     ·rw [if_pos c19] at H
      have c19b0 : (t241 == 4) = true := beq_iff_eq.mpr c19
      have c19b1 : (t241 != 4) = false := bne_eq_false_iff_eq.mpr c19
      clear c19
      obtain ⟨y256, hy256⟩ : ∃ y_ : List Int, y_ = (([6, 9, 20] : List Int)) := ⟨_, rfl⟩
      replace H : (some (y256, t242, t243)) = some (r1, r2, r3) := by first | (rw [hy256]; with_reducible exact H) | (have H2_ := (Option.bind_some _ _).symm.trans H; rw [hy256]; with_reducible exact H2_) | (have H2_ := (Option.bind_some _ _).symm.trans H; with_reducible exact H2_) | with_reducible exact H | (rw [hy256]; exact H) | exact H
      have Ny256 := Aside0.mk hy256
      clear hy256
      simp only [Option.some.injEq, Prod.mk.injEq] at H
      obtain ⟨rfl, rfl, rfl⟩ := H
      go_enter Try.func150, Try.ntmps150
      go_wp2_with (first | ((with_reducible refine gate_callee (f := 82) rfl ?_); refine gl_ 4 Try.func82 #[.pointer (some ⟨g, 0, none⟩), .int .i64 8] ?_; (with_reducible refine (spec_l1Below.calls g s0_0 s0_1 s0_2 8 t241 t242 t243 w0 _ ?side1 ?side2 A2.out).mono ?_); (case side1 => exact hi_ HI0.out); (case side2 => exact bl_ HB.out); rintro e w20 ⟨rfl, hi, hb, hk⟩; refine ⟨_, rfl, ?_⟩; replace HK := Aside0.mk (KeepBut.trans (kp_ HK.out) hk (.inl rfl)); replace HB := Aside0.mk (hb); replace HI0 := Aside0.mk (hi); (try clear hb); (try clear hb2); (try clear hk); (try clear hi)) | ((with_reducible refine gate_dst (N := 19) rfl ?_); refine Kd.R_lit (Kd.int .i64) _ 3 ?hg (N := 19) ?hd (xs := ([6, 9, 20] : List Int)) (inner := [.int .i64 6, .int .i64 9, .int .i64 20]) (ok := fun _ => True) (okp := fun _ => True) ?hr ?hp (fun _ hk => hk) trivial (Below.refl _ _) (Nat.le_refl _) (by simp) ?_; (case hd => rfl); (case hg => rfl); (case hr => first | (go_simp; done) | (go_simp; rfl)); (case hp => exact (Reps.one (show Kd.M (Kd.int .i64) _ _ _ 6 [.int .i64 6] from rfl) (Reps.one (show Kd.M (Kd.int .i64) _ _ _ 9 [.int .i64 9] from rfl) (Reps.one (show Kd.M (Kd.int .i64) _ _ _ 20 [.int .i64 20] from rfl) (Reps.none _ _))))); intro v257 w21 ho22 hb hg_ hnew_; clear hg_ hnew_; (first | rw [← Ny256.out] at ho22 | (simp only [Int.reduceToNat] at ho22; rw [← Ny256.out] at ho22)); have HO258 := Aside0.mk (Kd.R_lower ho22 (keep_size (w := w) (g := g) (row := none) (kp_ HK.out))); replace HI0 := Aside0.mk (IsS95.below (hi_ HI0.out) hb); replace HK := Aside0.mk (KeepBut.trans (kp_ HK.out) (KeepBut.of_below hb g none) (.inl rfl)); replace HB := bs_ HB hb; clear hb ho22))
      go_ret
      exact ⟨_, er_, kr_ HO258.out, hi_ HI0.out, bl_ HB.out, kp_ HK.out⟩
     ·rw [if_neg c19] at H
      have c19b0 : (t241 == 4) = false := beq_eq_false_iff_ne.mpr c19
      have c19b1 : (t241 != 4) = true := bne_iff_ne.mpr c19
      by_cases c23 : t241 = 5
      ·rw [if_pos c23] at H
       have c23b0 : (t241 == 5) = true := beq_iff_eq.mpr c23
       have c23b1 : (t241 != 5) = false := bne_eq_false_iff_eq.mpr c23
       clear c23
       obtain ⟨y259, hy259⟩ : ∃ y_ : List Int, y_ = (([5, 7, 9, 11] : List Int)) := ⟨_, rfl⟩
       replace H : (some (y259, t242, t243)) = some (r1, r2, r3) := by first | (rw [hy259]; with_reducible exact H) | (have H2_ := (Option.bind_some _ _).symm.trans H; rw [hy259]; with_reducible exact H2_) | (have H2_ := (Option.bind_some _ _).symm.trans H; with_reducible exact H2_) | with_reducible exact H | (rw [hy259]; exact H) | exact H
       have Ny259 := Aside0.mk hy259
       clear hy259
       simp only [Option.some.injEq, Prod.mk.injEq] at H
       obtain ⟨rfl, rfl, rfl⟩ := H
       go_enter Try.func150, Try.ntmps150
       go_wp2_with (first | ((with_reducible refine gate_callee (f := 82) rfl ?_); refine gl_ 4 Try.func82 #[.pointer (some ⟨g, 0, none⟩), .int .i64 8] ?_; (with_reducible refine (spec_l1Below.calls g s0_0 s0_1 s0_2 8 t241 t242 t243 w0 _ ?side1 ?side2 A2.out).mono ?_); (case side1 => exact hi_ HI0.out); (case side2 => exact bl_ HB.out); rintro e w24 ⟨rfl, hi, hb, hk⟩; refine ⟨_, rfl, ?_⟩; replace HK := Aside0.mk (KeepBut.trans (kp_ HK.out) hk (.inl rfl)); replace HB := Aside0.mk (hb); replace HI0 := Aside0.mk (hi); (try clear hb); (try clear hb2); (try clear hk); (try clear hi)) | ((with_reducible refine gate_dst (N := 22) rfl ?_); refine Kd.R_lit (Kd.int .i64) _ 3 ?hg (N := 22) ?hd (xs := ([5, 7, 9, 11] : List Int)) (inner := [.int .i64 5, .int .i64 7, .int .i64 9, .int .i64 11]) (ok := fun _ => True) (okp := fun _ => True) ?hr ?hp (fun _ hk => hk) trivial (Below.refl _ _) (Nat.le_refl _) (by simp) ?_; (case hd => rfl); (case hg => rfl); (case hr => first | (go_simp; done) | (go_simp; rfl)); (case hp => exact (Reps.one (show Kd.M (Kd.int .i64) _ _ _ 5 [.int .i64 5] from rfl) (Reps.one (show Kd.M (Kd.int .i64) _ _ _ 7 [.int .i64 7] from rfl) (Reps.one (show Kd.M (Kd.int .i64) _ _ _ 9 [.int .i64 9] from rfl) (Reps.one (show Kd.M (Kd.int .i64) _ _ _ 11 [.int .i64 11] from rfl) (Reps.none _ _)))))); intro v260 w25 ho26 hb hg_ hnew_; clear hg_ hnew_; (first | rw [← Ny259.out] at ho26 | (simp only [Int.reduceToNat] at ho26; rw [← Ny259.out] at ho26)); have HO261 := Aside0.mk (Kd.R_lower ho26 (keep_size (w := w) (g := g) (row := none) (kp_ HK.out))); replace HI0 := Aside0.mk (IsS95.below (hi_ HI0.out) hb); replace HK := Aside0.mk (KeepBut.trans (kp_ HK.out) (KeepBut.of_below hb g none) (.inl rfl)); replace HB := bs_ HB hb; clear hb ho26))
       go_ret
       exact ⟨_, er_, kr_ HO261.out, hi_ HI0.out, bl_ HB.out, kp_ HK.out⟩
      ·rw [if_neg c23] at H
       have c23b0 : (t241 == 5) = false := beq_eq_false_iff_ne.mpr c23
       have c23b1 : (t241 != 5) = true := bne_iff_ne.mpr c23
       by_cases c27 : t241 = 6
       ·rw [if_pos c27] at H
        have c27b0 : (t241 == 6) = true := beq_iff_eq.mpr c27
        have c27b1 : (t241 != 6) = false := bne_eq_false_iff_eq.mpr c27
        clear c27
        obtain ⟨y262, hy262⟩ : ∃ y_ : List Int, y_ = (([2, 3] : List Int)) := ⟨_, rfl⟩
        replace H : (some (y262, t242, t243)) = some (r1, r2, r3) := by first | (rw [hy262]; with_reducible exact H) | (have H2_ := (Option.bind_some _ _).symm.trans H; rw [hy262]; with_reducible exact H2_) | (have H2_ := (Option.bind_some _ _).symm.trans H; with_reducible exact H2_) | with_reducible exact H | (rw [hy262]; exact H) | exact H
        have Ny262 := Aside0.mk hy262
        clear hy262
        simp only [Option.some.injEq, Prod.mk.injEq] at H
        obtain ⟨rfl, rfl, rfl⟩ := H
        go_enter Try.func150, Try.ntmps150
        go_wp2_with (first | ((with_reducible refine gate_callee (f := 82) rfl ?_); refine gl_ 4 Try.func82 #[.pointer (some ⟨g, 0, none⟩), .int .i64 8] ?_; (with_reducible refine (spec_l1Below.calls g s0_0 s0_1 s0_2 8 t241 t242 t243 w0 _ ?side1 ?side2 A2.out).mono ?_); (case side1 => exact hi_ HI0.out); (case side2 => exact bl_ HB.out); rintro e w28 ⟨rfl, hi, hb, hk⟩; refine ⟨_, rfl, ?_⟩; replace HK := Aside0.mk (KeepBut.trans (kp_ HK.out) hk (.inl rfl)); replace HB := Aside0.mk (hb); replace HI0 := Aside0.mk (hi); (try clear hb); (try clear hb2); (try clear hk); (try clear hi)) | ((with_reducible refine gate_dst (N := 25) rfl ?_); refine Kd.R_lit (Kd.int .i64) _ 3 ?hg (N := 25) ?hd (xs := ([2, 3] : List Int)) (inner := [.int .i64 2, .int .i64 3]) (ok := fun _ => True) (okp := fun _ => True) ?hr ?hp (fun _ hk => hk) trivial (Below.refl _ _) (Nat.le_refl _) (by simp) ?_; (case hd => rfl); (case hg => rfl); (case hr => first | (go_simp; done) | (go_simp; rfl)); (case hp => exact (Reps.one (show Kd.M (Kd.int .i64) _ _ _ 2 [.int .i64 2] from rfl) (Reps.one (show Kd.M (Kd.int .i64) _ _ _ 3 [.int .i64 3] from rfl) (Reps.none _ _)))); intro v263 w29 ho30 hb hg_ hnew_; clear hg_ hnew_; (first | rw [← Ny262.out] at ho30 | (simp only [Int.reduceToNat] at ho30; rw [← Ny262.out] at ho30)); have HO264 := Aside0.mk (Kd.R_lower ho30 (keep_size (w := w) (g := g) (row := none) (kp_ HK.out))); replace HI0 := Aside0.mk (IsS95.below (hi_ HI0.out) hb); replace HK := Aside0.mk (KeepBut.trans (kp_ HK.out) (KeepBut.of_below hb g none) (.inl rfl)); replace HB := bs_ HB hb; clear hb ho30))
        go_ret
        exact ⟨_, er_, kr_ HO264.out, hi_ HI0.out, bl_ HB.out, kp_ HK.out⟩
       ·rw [if_neg c27] at H
        have c27b0 : (t241 == 6) = false := beq_eq_false_iff_ne.mpr c27
        have c27b1 : (t241 != 6) = true := bne_iff_ne.mpr c27
        obtain ⟨y265, hy265⟩ : ∃ y_ : List Int, y_ = (([4, 5, 11] : List Int)) := ⟨_, rfl⟩
        replace H : (some (y265, t242, t243)) = some (r1, r2, r3) := by first | (rw [hy265]; with_reducible exact H) | (have H2_ := (Option.bind_some _ _).symm.trans H; rw [hy265]; with_reducible exact H2_) | (have H2_ := (Option.bind_some _ _).symm.trans H; with_reducible exact H2_) | with_reducible exact H | (rw [hy265]; exact H) | exact H
        have Ny265 := Aside0.mk hy265
        clear hy265
        simp only [Option.some.injEq, Prod.mk.injEq] at H
        obtain ⟨rfl, rfl, rfl⟩ := H
        go_enter Try.func150, Try.ntmps150
        go_wp2_with (first | ((with_reducible refine gate_callee (f := 82) rfl ?_); refine gl_ 4 Try.func82 #[.pointer (some ⟨g, 0, none⟩), .int .i64 8] ?_; (with_reducible refine (spec_l1Below.calls g s0_0 s0_1 s0_2 8 t241 t242 t243 w0 _ ?side1 ?side2 A2.out).mono ?_); (case side1 => exact hi_ HI0.out); (case side2 => exact bl_ HB.out); rintro e w31 ⟨rfl, hi, hb, hk⟩; refine ⟨_, rfl, ?_⟩; replace HK := Aside0.mk (KeepBut.trans (kp_ HK.out) hk (.inl rfl)); replace HB := Aside0.mk (hb); replace HI0 := Aside0.mk (hi); (try clear hb); (try clear hb2); (try clear hk); (try clear hi)) | ((with_reducible refine gate_dst (N := 26) rfl ?_); refine Kd.R_lit (Kd.int .i64) _ 3 ?hg (N := 26) ?hd (xs := ([4, 5, 11] : List Int)) (inner := [.int .i64 4, .int .i64 5, .int .i64 11]) (ok := fun _ => True) (okp := fun _ => True) ?hr ?hp (fun _ hk => hk) trivial (Below.refl _ _) (Nat.le_refl _) (by simp) ?_; (case hd => rfl); (case hg => rfl); (case hr => first | (go_simp; done) | (go_simp; rfl)); (case hp => exact (Reps.one (show Kd.M (Kd.int .i64) _ _ _ 4 [.int .i64 4] from rfl) (Reps.one (show Kd.M (Kd.int .i64) _ _ _ 5 [.int .i64 5] from rfl) (Reps.one (show Kd.M (Kd.int .i64) _ _ _ 11 [.int .i64 11] from rfl) (Reps.none _ _))))); intro v266 w32 ho33 hb hg_ hnew_; clear hg_ hnew_; (first | rw [← Ny265.out] at ho33 | (simp only [Int.reduceToNat] at ho33; rw [← Ny265.out] at ho33)); have HO267 := Aside0.mk (Kd.R_lower ho33 (keep_size (w := w) (g := g) (row := none) (kp_ HK.out))); replace HI0 := Aside0.mk (IsS95.below (hi_ HI0.out) hb); replace HK := Aside0.mk (KeepBut.trans (kp_ HK.out) (KeepBut.of_below hb g none) (.inl rfl)); replace HB := bs_ HB hb; clear hb ho33))
        go_ret
        exact ⟨_, er_, kr_ HO267.out, hi_ HI0.out, bl_ HB.out, kp_ HK.out⟩
mutual
def spec_l3Draw.l0 : Nat → Int → List Int → Int → Int → Option (List Int × Int × Int)
 | 0, _, _, _, _ => none
 | k + 1, x5, x1000, x1001, x1002 => if x5 < 4 then ((spec_l1Below.f x1000 x1001 x1002 8).bind fun bt292 => ((spec_l1Below.f x1000 bt292.2.1 bt292.2.2 4).bind fun bt298 => (spec_l3Draw.l1 k x5 (([wrap64 (2 + bt292.1)] : List Int)) (wrap64 (1 + bt298.1)) 0 x1000 bt298.2.1 bt298.2.2))) else ((spec_l3List.f x1000 x1001 x1002).bind fun bt282 => ((spec_FromGens.f k bt282.1).bind fun bt287 => (some (bt287.1, bt282.2.1, bt282.2.2))))
def spec_l3Draw.l1 : Nat → Int → List Int → Int → Int → List Int → Int → Int → Option (List Int × Int × Int)
 | 0, _, _, _, _, _, _, _ => none
 | k + 1, x5, x6, x7, x8, x1000, x1001, x1002 => if x8 < x7 then (if 0 < (x6.length : Int) then ((spec_l1Below.f x1000 x1001 x1002 12).bind fun bt302 => (if x6.length < 17592186044416 then (spec_l3Draw.l1 k x5 (x6 ++ [wrap64 ((wrap64 ((rd x6 0) + 1)) + bt302.1)]) x7 (wrap64 (x8 + 1)) x1000 bt302.2.1 bt302.2.2) else (none))) else (none)) else ((spec_FromGens.f k x6).bind fun bt308 => (if bt308.2 = true then (some (bt308.1, x1001, x1002)) else (spec_l3Draw.l0 k (wrap64 (x5 + 1)) x1000 x1001 x1002)))
end
def spec_l3Draw.f (k : Nat) (s0_0 : List Int) (s0_1 : Int) (s0_2 : Int) : Option (List Int × Int × Int) := (spec_l1Once.f s0_0 s0_1 s0_2 4).bind fun bt269 => (if bt269.1 = true then ((spec_l3List.f s0_0 bt269.2.1 bt269.2.2).bind fun bt272 => ((spec_FromGens.f k bt272.1).bind fun bt277 => (some (bt277.1, bt272.2.1, bt272.2.2)))) else (spec_l3Draw.l0 k 0 s0_0 bt269.2.1 bt269.2.2))
def spec_l3Draw.T12 : Bool × List (List Nat × List Nat) := (true, [([], []), ([], []), ([1], [1]), ([2], [2]), ([3], [3]), ([], []), ([5], [5]), ([4, 6], [4, 6]), ([7], [7]), ([0, 8, 6], [0, 8]), ([9, 9, 0, 1, 2, 3, 4, 5, 6, 7, 8, 9], [0, 1, 9])])
def spec_l3Draw.B12 : List Nat := [0, 0, 2, 6, 14, 0, 32, 126, 254, 511, 1023]
theorem spec_l3Draw.tab12 : rtab .any (opsOf Try.f132 12) = spec_l3Draw.T12 := by kernel_rfl
theorem spec_l3Draw.bits12 : waitsOk spec_l3Draw.T12.2 spec_l3Draw.B12 = true := by kernel_rfl
set_option maxHeartbeats 8000000 in
set_option maxRecDepth 100000 in
theorem spec_l3Draw.calls (k : Nat) (g : Nat) (s0_0 : List Int) (s0_1 : Int) (s0_2 : Int) (r1 : List Int) (r2 : Int) (r3 : Int) (w0 w : World) (hI : IsS95 w0 w g s0_0 s0_1 s0_2) (hB : Below w0.heap.size w0 w) (h : spec_l3Draw.f k s0_0 s0_1 s0_2 = some (r1, r2, r3)) :
 Calls Try.prog 132 #[.pointer (some ⟨g, 0, none⟩)] w fun e w' => ∃ v0_ : Value, e = .returned (.agg #[v0_]) ∧ Kd.R (Kd.int .i64) 3 w' w.heap.size (fun _ => True) v0_ r1 ∧ IsS95 w0 w' g s0_0 r2 r3 ∧ Below w0.heap.size w0 w' ∧ KeepBut w w' g none := by
 have hu41 := Try.underlying41
 have HI0 := Aside0.mk hI
 have HK := Aside0.mk (KeepBut.refl w g none)
 have HL := Aside0.mk hB.size
 clear hI
 have HW0 := Aside0.mk hB.size
 have HB := Aside0.mk hB
 clear hB
 have H := h
 clear h
 unfold spec_l3Draw.f at H
 replace H := Option.bind_eq_some_iff.mp H
 obtain ⟨⟨t269, t270, t271⟩, A20, H⟩ := H
 (try dsimp only at H)
 have A2 := Aside0.mk A20
 clear A20
 by_cases c3 : t269 = true
 ·subst c3
  rw [if_pos rfl] at H
  replace H := Option.bind_eq_some_iff.mp H
  obtain ⟨⟨t272, t275, t276⟩, A40, H⟩ := H
  (try dsimp only at H)
  have A4 := Aside0.mk A40
  clear A40
  replace H := Option.bind_eq_some_iff.mp H
  obtain ⟨⟨t277, t280⟩, A50, H⟩ := H
  (try dsimp only at H)
  have A5 := Aside0.mk A50
  clear A50
  simp only [Option.some.injEq, Prod.mk.injEq] at H
  obtain ⟨rfl, rfl, rfl⟩ := H
  go_enter Try.func132, Try.ntmps132
  go_wp2_with (first | ((with_reducible refine gate_dst (N := 2) rfl ?_); refine be_ 2 #[.slice none 0 0] 41 fun gb268 hg w6 hbox hb => ?_; replace HB := bs_ HB hb; have BK268 := Aside0.mk (hbox); have GW268 := Aside0.mk ((by rw [hg]; exact (keep_size (w := w) (g := g) (row := none) (kp_ HK.out)) : w.heap.size ≤ gb268)); have GE268 := Aside0.mk ((Nat.le_trans HW0.out (by rw [hg]; exact (keep_size (w := w) (g := g) (row := none) (kp_ HK.out)) : w.heap.size ≤ gb268) : w0.heap.size ≤ gb268)); replace HK := Aside0.mk (KeepBut.trans (kp_ HK.out) (KeepBut.of_below hb g none) (.inl rfl)); have NB0_268 := Aside0.mk ((by rw [hg]; exact Nat.ne_of_lt (IsS95.lt (show IsS95 w0 _ g s0_0 s0_1 s0_2 from hi_ HI0.out)) : g ≠ gb268)); have NB268_0 := Aside0.mk ((by rw [hg]; exact Nat.ne_of_gt (IsS95.lt (show IsS95 w0 _ g s0_0 s0_1 s0_2 from hi_ HI0.out)) : gb268 ≠ g)); replace HI0 := Aside0.mk (IsS95.below (hi_ HI0.out) hb); clear hb hbox hg) | ((with_reducible refine gate_callee (f := 148) rfl ?_); refine gl_ 14 Try.func148 #[.pointer (some ⟨g, 0, none⟩), .int .i64 4] ?_; (with_reducible refine (spec_l1Once.calls g s0_0 s0_1 s0_2 4 true t270 t271 w0 _ ?side1 ?side2 A2.out).mono ?_); (case side1 => exact hi_ HI0.out); (case side2 => exact bl_ HB.out); rintro e w7 ⟨rfl, hi, hb, hk⟩; refine ⟨_, rfl, ?_⟩; replace BK268 := Aside0.mk (KeepBut.blk hk (g' := gb268) (o := .cells #[.slice none 0 0] 41 (0, 0)) (bk_ BK268.out) NB268_0.out (by simp)); replace HK := Aside0.mk (KeepBut.trans (kp_ HK.out) hk (.inl rfl)); replace HB := Aside0.mk (hb); replace HI0 := Aside0.mk (hi); (try clear hb); (try clear hb2); (try clear hk); (try clear hi)) | ((with_reducible refine gate_callee (f := 150) rfl ?_); refine gl_ 17 Try.func150 #[.pointer (some ⟨g, 0, none⟩)] ?_; (with_reducible refine (spec_l3List.calls g s0_0 t270 t271 t272 t275 t276 w0 _ ?side1 ?side2 A4.out).mono ?_); (case side1 => exact hi_ HI0.out); (case side2 => exact bl_ HB.out); rintro e w8 ⟨v273, rfl, ho0, hi, hb, hk⟩; refine ⟨_, rfl, ?_⟩; replace BK268 := Aside0.mk (KeepBut.blk hk (g' := gb268) (o := .cells #[.slice none 0 0] 41 (0, 0)) (bk_ BK268.out) NB268_0.out (by simp)); have HO274 := Aside0.mk (Kd.R_lower ho0 (keep_size (w := w) (g := g) (row := none) (kp_ HK.out))); replace HK := Aside0.mk (KeepBut.trans (kp_ HK.out) hk (.inl rfl)); replace HB := Aside0.mk (hb); replace HI0 := Aside0.mk (hi); (try clear hb); (try clear hb2); (try clear hk); (try clear hi); (try clear ho0); obtain ⟨Ao9, co9, eo9⟩ := Kd.R_slice HO274.out; subst eo9) | ((with_reducible refine gate_callee (f := 74) rfl ?_); refine gl_ 18 Try.func74 #[.slice Ao9 t272.length co9] ?_; (with_reducible refine (spec_FromGens.calls k _ _ t272 t277 t280 _ ?side1 ?side2 A5.out).mono ?_); (case side1 => exact rs_ HO274); (case side2 => exact (Kd.R_reads' HO274.out).2.1); rintro e w10 ⟨v278, rfl, ho0, hb⟩; refine ⟨_, rfl, ?_⟩; have HO279 := Aside0.mk (Kd.R_lower (Kd.R_new' ho0 (Kd.R_lt (kr_ HO274.out))) (keep_size (w := w) (g := g) (row := none) (kp_ HK.out))); replace HO274 := Aside0.mk (Kd.R_elder' (kr_ HO274.out) (Kd.R_base ho0) hb); replace HI0 := Aside0.mk (IsS95.below (hi_ HI0.out) hb); replace BK268 := bb_ BK268 hb; replace HK := Aside0.mk (KeepBut.trans (kp_ HK.out) (KeepBut.of_below hb g none) (.inl rfl)); replace HB := bs_ HB hb; (try clear hb); (try clear hb2); (try clear hk); (try clear hi); (try clear ho0)) | ((with_reducible refine gate_dst (N := 3) rfl ?_); refine be_ 3 #[.slice none 0 0] 41 fun gb281 hg w11 hbox hb => ?_; replace HO274 := rb_ HO274 hb; replace HO279 := rb_ HO279 hb; replace HB := bs_ HB hb; have BK281 := Aside0.mk (hbox); have GW281 := Aside0.mk ((by rw [hg]; exact (keep_size (w := w) (g := g) (row := none) (kp_ HK.out)) : w.heap.size ≤ gb281)); have GE281 := Aside0.mk ((Nat.le_trans HW0.out (by rw [hg]; exact (keep_size (w := w) (g := g) (row := none) (kp_ HK.out)) : w.heap.size ≤ gb281) : w0.heap.size ≤ gb281)); replace HK := Aside0.mk (KeepBut.trans (kp_ HK.out) (KeepBut.of_below hb g none) (.inl rfl)); have NB268_281 := nl_ hg BK268; have NB281_268 := ng_ hg BK268; replace BK268 := bb_ BK268 hb; have NB0_281 := Aside0.mk ((by rw [hg]; exact Nat.ne_of_lt (IsS95.lt (show IsS95 w0 _ g s0_0 t275 t276 from hi_ HI0.out)) : g ≠ gb281)); have NB281_0 := Aside0.mk ((by rw [hg]; exact Nat.ne_of_gt (IsS95.lt (show IsS95 w0 _ g s0_0 t275 t276 from hi_ HI0.out)) : gb281 ≠ g)); replace HI0 := Aside0.mk (IsS95.below (hi_ HI0.out) hb); clear hb hbox hg; obtain ⟨Ao12, co12, eo12⟩ := Kd.R_slice HO279.out; subst eo12; have hnb13 := NB281_268.out; have hnc13 := NB268_281.out; have hnb14 := NB281_0.out; have hnc14 := NB0_281.out; have hcz15_0 := bc_ BK281; have hfz15_0 := blk_frozen BK281.out 0; have hnb16 := NB268_0.out; have hnc16 := NB0_268.out; have hcz17_0 := bc_ BK268; have hfz17_0 := blk_frozen BK268.out 0))
  refine bodyPost_ret (results_cell_row rfl _ _ gb268 41 #[.slice Ao12 t277.length co12] (0, 0) _ rfl (by (with_reducible repeat (first | refine blk_drewN ?_ _ | refine blk_drew ?_ | refine blk_alloc ?_ _)); refine blk_put (cs := #[.slice none 0 0]) ?_ 0 _ rfl; (with_reducible repeat (first | refine blk_drewN ?_ _ | refine blk_drew ?_ | refine blk_alloc ?_ _)); refine blk_far ?_ NB268_281.out _; (with_reducible repeat (first | refine blk_drewN ?_ _ | refine blk_drew ?_ | refine blk_alloc ?_ _)); exact BK268.out) Try.underlying41 rfl (by kernel_rfl)) rfl ?_
  exact ⟨_, er_, kr_ (Kd.R_mono (Kd.R_far (p := ⟨gb268, 0, none⟩) (Kd.R_far (p := ⟨gb281, 0, none⟩) (Kd.R_types (Kd.R_types HO279.out BK281.out (by decide)) BK268.out (by decide)) (fun _ hk => hk.1.2) (.slice Ao12 t277.length co12)) (fun _ hk => hk.2) (.slice Ao12 t277.length co12)) (fun _ hk => trivial)), hi_ HI0.out, bl_ HB.out, kp_ HK.out⟩
 ·obtain rfl := Bool.eq_false_iff.mpr c3
  rw [if_neg nf_] at H
  have H' := Aside0.mk H
  clear H
  go_enter Try.func132, Try.ntmps132
  go_wp2_with (first | ((with_reducible refine gate_dst (N := 2) rfl ?_); refine be_ 2 #[.slice none 0 0] 41 fun gb268 hg w18 hbox hb => ?_; replace HB := bs_ HB hb; have BK268 := Aside0.mk (hbox); have GW268 := Aside0.mk ((by rw [hg]; exact (keep_size (w := w) (g := g) (row := none) (kp_ HK.out)) : w.heap.size ≤ gb268)); have GE268 := Aside0.mk ((Nat.le_trans HW0.out (by rw [hg]; exact (keep_size (w := w) (g := g) (row := none) (kp_ HK.out)) : w.heap.size ≤ gb268) : w0.heap.size ≤ gb268)); replace HK := Aside0.mk (KeepBut.trans (kp_ HK.out) (KeepBut.of_below hb g none) (.inl rfl)); have NB0_268 := Aside0.mk ((by rw [hg]; exact Nat.ne_of_lt (IsS95.lt (show IsS95 w0 _ g s0_0 s0_1 s0_2 from hi_ HI0.out)) : g ≠ gb268)); have NB268_0 := Aside0.mk ((by rw [hg]; exact Nat.ne_of_gt (IsS95.lt (show IsS95 w0 _ g s0_0 s0_1 s0_2 from hi_ HI0.out)) : gb268 ≠ g)); replace HI0 := Aside0.mk (IsS95.below (hi_ HI0.out) hb); clear hb hbox hg) | ((with_reducible refine gate_callee (f := 148) rfl ?_); refine gl_ 14 Try.func148 #[.pointer (some ⟨g, 0, none⟩), .int .i64 4] ?_; (with_reducible refine (spec_l1Once.calls g s0_0 s0_1 s0_2 4 false t270 t271 w0 _ ?side1 ?side2 A2.out).mono ?_); (case side1 => exact hi_ HI0.out); (case side2 => exact bl_ HB.out); rintro e w19 ⟨rfl, hi, hb, hk⟩; refine ⟨_, rfl, ?_⟩; replace BK268 := Aside0.mk (KeepBut.blk hk (g' := gb268) (o := .cells #[.slice none 0 0] 41 (0, 0)) (bk_ BK268.out) NB268_0.out (by simp)); replace HK := Aside0.mk (KeepBut.trans (kp_ HK.out) hk (.inl rfl)); replace HB := Aside0.mk (hb); replace HI0 := Aside0.mk (hi); (try clear hb); (try clear hb2); (try clear hk); (try clear hi)))
  go_loopg [5] k (fun kq v5 w' => ∃ (x5_1 : Int) (x1001_1 : Int) (x1002_1 : Int), v5 = .int .i64 x5_1 ∧ Aside0 (spec_l3Draw.l0 kq x5_1 s0_0 x1001_1 x1002_1 = some (r1, r2, r3)) ∧ Aside0 (kq ≤ k) ∧ Aside0 (w'.heap[gb268]? = some (.cells #[(.slice none 0 0)] 41 (0, 0))) ∧ Aside0 (IsS95 w0 w' g s0_0 x1001_1 x1002_1) ∧ Aside0 (KeepBut w w' g none) ∧ Aside0 (Below w0.heap.size w0 w'))
  case atStart => exact ⟨(0), (t270), (t271), sd_, H', ⟨Nat.le_refl _⟩, ⟨bk_ BK268.out⟩, ⟨hi_ HI0.out⟩, ⟨kp_ HK.out⟩, ⟨bl_ HB.out⟩⟩
  case round =>
   clear H'
   try clear c1
   try clear p2
   try clear c3
   try clear c7
   try clear c13
   try clear c14
   try clear c15
   try clear c16
   try clear hcz15_0
   try clear hcz17_0
   try clear hfz15_0
   try clear hfz17_0
   obtain ⟨x5_1, x1001_1, x1002_1, rfl, HA, HK1, BK268, HI0, HK, HB⟩ := hrel
   cases gk with
   | zero => exact absurd HA.out (by simp [spec_l3Draw.l0])
   | succ k1 =>
    have H := HA.out
    clear HA
    simp only [spec_l3Draw.l0] at H
    by_cases c20 : x5_1 < 4
    ·rw [if_pos c20] at H
     have c20b0 : decide (x5_1 < 4) = true := decide_eq_true c20
     clear c20
     replace H := Option.bind_eq_some_iff.mp H
     obtain ⟨⟨t292, t293, t294⟩, A210, H⟩ := H
     (try dsimp only at H)
     have A21 := Aside0.mk A210
     clear A210
     obtain ⟨y295, hy295⟩ : ∃ y_ : List Int, y_ = (([wrap64 (2 + t292)] : List Int)) := ⟨_, rfl⟩
     replace H : ((spec_l1Below.f s0_0 t293 t294 4).bind fun bt298 => (spec_l3Draw.l1 k1 x5_1 y295 (wrap64 (1 + bt298.1)) 0 s0_0 bt298.2.1 bt298.2.2)) = some (r1, r2, r3) := by first | (rw [hy295]; with_reducible exact H) | (have H2_ := (Option.bind_some _ _).symm.trans H; rw [hy295]; with_reducible exact H2_) | (have H2_ := (Option.bind_some _ _).symm.trans H; with_reducible exact H2_) | with_reducible exact H | (rw [hy295]; exact H) | exact H
     have Ny295 := Aside0.mk hy295
     clear hy295
     replace H := Option.bind_eq_some_iff.mp H
     obtain ⟨⟨t298, t299, t300⟩, A220, H⟩ := H
     (try dsimp only at H)
     have A22 := Aside0.mk A220
     clear A220
     have H' := Aside0.mk H
     clear H
     go_wp2_with (first | ((with_reducible refine gate_callee (f := 82) rfl ?_); refine gl_ 27 Try.func82 #[.pointer (some ⟨g, 0, none⟩), .int .i64 8] ?_; (with_reducible refine (spec_l1Below.calls g s0_0 x1001_1 x1002_1 8 t292 t293 t294 w0 _ ?side1 ?side2 A21.out).mono ?_); (case side1 => exact hi_ HI0.out); (case side2 => exact bl_ HB.out); rintro e w23 ⟨rfl, hi, hb, hk⟩; refine ⟨_, rfl, ?_⟩; replace BK268 := Aside0.mk (KeepBut.blk hk (g' := gb268) (o := .cells #[.slice none 0 0] 41 (0, 0)) (bk_ BK268.out) NB268_0.out (by simp)); replace HK := Aside0.mk (KeepBut.trans (kp_ HK.out) hk (.inl rfl)); replace HB := Aside0.mk (hb); replace HI0 := Aside0.mk (hi); (try clear hb); (try clear hb2); (try clear hk); (try clear hi)) | ((with_reducible refine gate_dst (N := 29) rfl ?_); refine Kd.R_lit (Kd.int .i64) _ 3 ?hg (N := 29) ?hd (xs := ([wrap64 (2 + t292)] : List Int)) (inner := [.int .i64 (wrap64 (2 + t292))]) (ok := fun _ => True) (okp := fun _ => True) ?hr ?hp (fun _ hk => hk) trivial (Below.refl _ _) (Nat.le_refl _) (by simp) ?_; (case hd => rfl); (case hg => rfl); (case hr => first | (go_simp; done) | (go_simp; rfl)); (case hp => exact (Reps.one (show Kd.M (Kd.int .i64) _ _ _ (wrap64 (2 + t292)) [.int .i64 (wrap64 (2 + t292))] from rfl) (Reps.none _ _))); intro v296 w24 ho25 hb hg_ hnew_; clear hg_ hnew_; (first | rw [← Ny295.out] at ho25 | (simp only [Int.reduceToNat] at ho25; rw [← Ny295.out] at ho25)); have HO297 := Aside0.mk (Kd.R_lower ho25 (keep_size (w := w) (g := g) (row := none) (kp_ HK.out))); replace BK268 := bb_ BK268 hb; replace HI0 := Aside0.mk (IsS95.below (hi_ HI0.out) hb); replace HK := Aside0.mk (KeepBut.trans (kp_ HK.out) (KeepBut.of_below hb g none) (.inl rfl)); replace HB := bs_ HB hb; clear hb ho25) | ((with_reducible refine gate_callee (f := 82) rfl ?_); refine gl_ 31 Try.func82 #[.pointer (some ⟨g, 0, none⟩), .int .i64 4] ?_; (with_reducible refine (spec_l1Below.calls g s0_0 t293 t294 4 t298 t299 t300 w0 _ ?side1 ?side2 A22.out).mono ?_); (case side1 => exact hi_ HI0.out); (case side2 => exact bl_ HB.out); rintro e w26 ⟨rfl, hi, hb, hk⟩; refine ⟨_, rfl, ?_⟩; replace BK268 := Aside0.mk (KeepBut.blk hk (g' := gb268) (o := .cells #[.slice none 0 0] 41 (0, 0)) (bk_ BK268.out) NB268_0.out (by simp)); replace HO297 := Aside0.mk (Kd.R_mono (Kd.R_keep (IsS95.apart (show IsS95 w0 _ g s0_0 t293 t294 from hi_ HI0.out) (kr_ HO297.out) (by decide)) hk (fun _ h => h.2)) (fun _ h => h.1)); replace HK := Aside0.mk (KeepBut.trans (kp_ HK.out) hk (.inl rfl)); replace HB := Aside0.mk (hb); replace HI0 := Aside0.mk (hi); (try clear hb); (try clear hb2); (try clear hk); (try clear hi)))
     go_loopg [6, 8] k1 (fun kq v6 v8 w' => ∃ (x6_2 : List Int) (x8_2 : Int) (x1001_2 : Int) (x1002_2 : Int), v8 = .int .i64 x8_2 ∧ Aside0 (spec_l3Draw.l1 kq x5_1 x6_2 (wrap64 (1 + t298)) x8_2 s0_0 x1001_2 x1002_2 = some (r1, r2, r3)) ∧ Aside0 (kq ≤ k1) ∧ Aside0 (Kd.R (Kd.int .i64) 3 w' w.heap.size (fun _ => True) v6 x6_2) ∧ Aside0 (w'.heap[gb268]? = some (.cells #[(.slice none 0 0)] 41 (0, 0))) ∧ Aside0 (IsS95 w0 w' g s0_0 x1001_2 x1002_2) ∧ Aside0 (KeepBut w w' g none) ∧ Aside0 (Below w0.heap.size w0 w'))
     case atStart => exact ⟨(y295), (0), (t299), (t300), sd_, H', ⟨Nat.le_refl _⟩, ⟨kr_ HO297.out⟩, ⟨bk_ BK268.out⟩, ⟨hi_ HI0.out⟩, ⟨kp_ HK.out⟩, ⟨bl_ HB.out⟩⟩
     case round =>
      clear H'
      try clear c1
      try clear c2
      try clear p2
      try clear c3
      try clear p6
      try clear c7
      try clear c8
      try clear c13
      try clear c14
      try clear c15
      try clear c16
      try clear c20
      try clear c20b0
      try clear hcz15_0
      try clear hcz17_0
      try clear hfz15_0
      try clear hfz17_0
      try clear p2
      obtain ⟨x6_2, x8_2, x1001_2, x1002_2, rfl, HA, HK2, HO_6, BK268, HI0, HK, HB⟩ := hrel
      cases gk with
      | zero => exact absurd HA.out (by simp [spec_l3Draw.l1])
      | succ k2 =>
       have H := HA.out
       clear HA
       simp only [spec_l3Draw.l1] at H
       by_cases c27 : x8_2 < (wrap64 (1 + t298))
       ·rw [if_pos c27] at H
        have c27b0 : decide (x8_2 < (wrap64 (1 + t298))) = true := decide_eq_true c27
        clear c27
        by_cases c28 : 0 < (x6_2.length : Int)
        ·rw [if_pos c28] at H
         have c28b0 : decide (0 < (x6_2.length : Int)) = true := decide_eq_true c28
         have c28b1 : decide (0 < x6_2.length) = true := decide_eq_true (by omega)
         clear c28
         replace H := Option.bind_eq_some_iff.mp H
         obtain ⟨⟨t302, t303, t304⟩, A290, H⟩ := H
         (try dsimp only at H)
         have A29 := Aside0.mk A290
         clear A290
         by_cases c30 : x6_2.length < 17592186044416
         ·rw [if_pos c30] at H
          have LMc30 := Aside0.mk c30
          clear c30
          obtain ⟨y305, hy305⟩ : ∃ y_ : List Int, y_ = (x6_2 ++ [wrap64 ((wrap64 ((rd x6_2 0) + 1)) + t302)]) := ⟨_, rfl⟩
          replace H : (spec_l3Draw.l1 k2 x5_1 y305 (wrap64 (1 + t298)) (wrap64 (x8_2 + 1)) s0_0 t303 t304) = some (r1, r2, r3) := by first | (rw [hy305]; with_reducible exact H) | (have H2_ := (Option.bind_some _ _).symm.trans H; rw [hy305]; with_reducible exact H2_) | (have H2_ := (Option.bind_some _ _).symm.trans H; with_reducible exact H2_) | with_reducible exact H | (rw [hy305]; exact H) | exact H
          have Ny305 := Aside0.mk hy305
          clear hy305
          have H' := Aside0.mk H
          clear H
          try go_wp2
          replace HO_6 := Aside0.mk (Kd.R_drew HO_6.out)
          replace BK268 := Aside0.mk (blk_drew BK268.out)
          replace HI0 := Aside0.mk (IsS95.drew HI0.out)
          replace HK := Aside0.mk (keep_drew HK.out)
          replace HB := Aside0.mk (below_drew1 HB.out)
          obtain ⟨Ao32, co32, eo32⟩ := Kd.R_slice HO_6.out
          (first | subst eo32 | (injection eo32 with f1_ f2_ f3_; have f4_ := f1_.symm; have f5_ := f3_.symm; clear f1_ f2_ f3_; subst f4_; subst f5_))
          have p301 : 0 ≤ (0 : Int) := (by omega)
          have q301 : 0 < (x6_2.length : Int) := od_
          obtain ⟨ad301, e301, hx301_0⟩ := Kd.at_int (Kd.R_reads' HO_6.out).2.2 0 p301 q301
          cases e301
          have qi301 : (0 < x6_2.length) = True := eq_true (by omega)
          (try rw [show ((0 : Int)).toNat = 0 from rfl] at hx301_0)
          (try rw [Addr.add_zero'] at hx301_0)
          replace p301 := eq_true p301
          replace q301 := eq_true q301
          refine start_ (n := 11) (S := fun w' => w'.cell? ad301 = some (.int .i64 (rd x6_2 0))) (ds := [8, 9]) (fl_ 11 0) (by kernel_rfl) rfl rfl (hx301_0) (fun hHeld => ?_); refine with_tabW spec_l3Draw.tab12 spec_l3Draw.bits12 (fun HT_ HW_ => ?_)
          generalize wr.drew = w31 at HO_6 BK268 HI0 HK HB hx301_0 hHeld ⊢
          refine pu_ 0 38 (fl_ 11 1) ?_
          refine pu_ 1 39 (fl_ 11 2) ?_
          refine pu_ 2 40 (fl_ 11 3) ?_
          refine pu_ 5 43 (fm_ 11 39) ?_
          refine ta_ 3 41 (fm_ 11 47) ?_
          refine pu_ 4 42 (fl_ 11 6) ?_
          refine on_ 6 44 (fl_ 11 7) fun K hK => ?_
          refine go_ Try.func82 #[.pointer (some ⟨g, 0, none⟩), .int .i64 12] ?_
          with_reducible refine (spec_l1Below.calls g s0_0 x1001_2 x1002_2 12 t302 t303 t304 w0 _ ?side1 ?side2 A29.out).mono ?_
          (case side1 => exact hi_ HI0.out)
          (case side2 => exact bl_ HB.out)
          rintro e w33 ⟨rfl, hi, hb, hk⟩
          have HS0_ := keep_cell hk (hHeld) (by first | (rw [add_block]; exact Kd.own_blk (IsS95.own_ne HI0.out HO_6.out (by decide))) | (show (Addr.add _ _).block ≠ _; rw [add_block]; exact Kd.own_blk (IsS95.own_ne HI0.out HO_6.out (by decide))) | exact Kd.own_blk (IsS95.own_ne HI0.out HO_6.out (by decide)))
          refine ⟨_, rfl, ?_⟩
          replace HO_6 := Aside0.mk (Kd.R_mono (Kd.R_keep (IsS95.apart (show IsS95 w0 _ g s0_0 x1001_2 x1002_2 from hi_ HI0.out) (kr_ HO_6.out) (by decide)) hk (fun _ h => h.2)) (fun _ h => h.1))
          replace BK268 := Aside0.mk (KeepBut.blk hk (g' := gb268) (o := .cells #[.slice none 0 0] 41 (0, 0)) (bk_ BK268.out) NB268_0.out (by simp))
          replace HK := Aside0.mk (KeepBut.trans (kp_ HK.out) hk (.inl rfl))
          replace HB := Aside0.mk (hb)
          replace HI0 := Aside0.mk (hi)
          (try clear hb)
          (try clear hb2)
          (try clear hk)
          (try clear hi)
          refine hK.out _ _ (HS0_) (fun hHeld => ?_)
          clear hK K
          refine no_ 44 ?_
          refine pu_ 7 45 (fl_ 11 8) ?_
          refine last_ (i := 8) (N := some 46) (fl_ 11 9) rfl rfl (one_of HT_.out (by kernel_rfl)) (by decide) (fun K hK => ?_)
          refine value_ (w1 := ?_) (v := ?_) (by rfl) rfl ?_ ?_
          rotate_left 2
          ·go_simp
           constructor
           ·rfl
           ·rfl
          refine hK.out _ _ ?_
          clear hK K
          refine no_ 46 ?_
          refine last_ (i := 9) (N := some 47) (fl_ 11 10) rfl rfl (one_of HT_.out (by kernel_rfl)) (by decide) (fun K hK => ?_)
          refine Kd.R_append_step (Kd.int .i64) w.heap.size (by rfl) (.tmp 38) (.tmp 46) 22 3 (.int .i64 0) 8 rfl Try.underlying22 info3 rfl (by decide) (by omega) (.slice (some ad301) x6_2.length co32) x6_2 (wrap64 ((wrap64 ((rd x6_2 0) + 1)) + t302)) [.int .i64 (wrap64 ((wrap64 ((rd x6_2 0) + 1)) + t302))] (fun _ => True) (fun _ => False) rfl rfl ?aP (fun _ hk => hk.elim) ?aF ?aO (Below.refl _ _) ?aS ?aL ?_
          (case aP => exact rfl)
          (case aF => exact (fun _ _ => trivial))
          (case aO => exact (kr_ HO_6.out))
          (case aS => exact (keep_size (w := w) (g := g) (row := none) (kp_ HK.out)))
          (case aL => have := LMc30.out; omega)
          intro v306 w34 ho hb hg hat
          rw [← Ny305.out] at ho
          have n0_ := Aside0.mk (blk_grown (g := gb268) (o := .cells #[.slice none 0 0] 41 (0, 0)) (bk_ BK268.out) hg (Kd.R_ne HO_6.out BK268.out (by decide)))
          have n1_ := Aside0.mk (IsS95.grown (hi_ HI0.out) hg (IsS95.own_ne HI0.out HO_6.out (by decide)))
          have n2_ := Aside0.mk (below_weaken (bl_ HB.out) HL.out hb)
          have n3_ := Aside0.mk (KeepBut.trans (kp_ HK.out) (KeepBut.of_grown hg g) (Kd.R_base2 HO_6.out))
          have n4_ := Aside0.mk (ho)
          clear BK268
          clear HI0
          clear HB
          clear HK
          clear HO_6
          have BK268 := n0_
          have HI0 := n1_
          have HB := n2_
          have HK := n3_
          have HO307 := n4_
          clear n0_ n1_ n2_ n3_ n4_
          clear ho hb hg hat
          refine hK.out _ _ ?_
          clear hK K
          refine no_ 47 ?_
          refine pu_ 10 6 (fl_ 11 11) ?_
          refine done_ (done_of HT_.out (by kernel_rfl)) ?_
          try go_wp2
          go_roundg k2
          case measure => have := HK1.out; have := HK2.out; omega
          case rel => exact ⟨(y305), (wrap64 (x8_2 + 1)), (t303), (t304), sd_, H', ⟨by have := HK1.out; have := HK2.out; omega⟩, ⟨kr_ HO307.out⟩, ⟨bk_ BK268.out⟩, ⟨hi_ HI0.out⟩, ⟨kp_ HK.out⟩, ⟨bl_ HB.out⟩⟩
         ·rw [if_neg c30] at H
          exact absurd H (by simp)
        ·rw [if_neg c28] at H
         exact absurd H (by simp)
       ·rw [if_neg c27] at H
        have c27b0 : decide (x8_2 < (wrap64 (1 + t298))) = false := decide_eq_false c27
        clear c27
        replace H := Option.bind_eq_some_iff.mp H
        obtain ⟨⟨t308, t311⟩, A350, H⟩ := H
        (try dsimp only at H)
        have A35 := Aside0.mk A350
        clear A350
        by_cases c36 : t311 = true
        ·subst c36
         rw [if_pos rfl] at H
         simp only [Option.some.injEq, Prod.mk.injEq] at H
         obtain ⟨rfl, rfl, rfl⟩ := H
         obtain ⟨Ao37, co37, eo37⟩ := Kd.R_slice HO_6.out
         subst eo37
         go_wp2_with (first | ((with_reducible refine gate_callee (f := 74) rfl ?_); refine gl_ 50 Try.func74 #[.slice Ao37 x6_2.length co37] ?_; (with_reducible refine (spec_FromGens.calls k2 _ _ x6_2 t308 true _ ?side1 ?side2 A35.out).mono ?_); (case side1 => exact rs_ HO_6); (case side2 => exact (Kd.R_reads' HO_6.out).2.1); rintro e w38 ⟨v309, rfl, ho0, hb⟩; refine ⟨_, rfl, ?_⟩; have HO310 := Aside0.mk (Kd.R_lower (Kd.R_new' ho0 (Kd.R_lt (kr_ HO_6.out))) (keep_size (w := w) (g := g) (row := none) (kp_ HK.out))); replace HO_6 := Aside0.mk (Kd.R_elder' (kr_ HO_6.out) (Kd.R_base ho0) hb); replace BK268 := bb_ BK268 hb; replace HI0 := Aside0.mk (IsS95.below (hi_ HI0.out) hb); replace HK := Aside0.mk (KeepBut.trans (kp_ HK.out) (KeepBut.of_below hb g none) (.inl rfl)); replace HB := bs_ HB hb; (try clear hb); (try clear hb2); (try clear hk); (try clear hi); (try clear ho0)) | ((with_reducible refine gate_dst (N := 9) rfl ?_); refine be_ 9 #[.slice none 0 0] 41 fun gb312 hg w39 hbox hb => ?_; replace HO_6 := rb_ HO_6 hb; replace HO310 := rb_ HO310 hb; replace HB := bs_ HB hb; have BK312 := Aside0.mk (hbox); have GW312 := Aside0.mk ((by rw [hg]; exact (keep_size (w := w) (g := g) (row := none) (kp_ HK.out)) : w.heap.size ≤ gb312)); have GE312 := Aside0.mk ((Nat.le_trans HW0.out (by rw [hg]; exact (keep_size (w := w) (g := g) (row := none) (kp_ HK.out)) : w.heap.size ≤ gb312) : w0.heap.size ≤ gb312)); replace HK := Aside0.mk (KeepBut.trans (kp_ HK.out) (KeepBut.of_below hb g none) (.inl rfl)); have NB268_312 := nl_ hg BK268; have NB312_268 := ng_ hg BK268; replace BK268 := bb_ BK268 hb; have NB0_312 := Aside0.mk ((by rw [hg]; exact Nat.ne_of_lt (IsS95.lt (show IsS95 w0 _ g s0_0 x1001_2 x1002_2 from hi_ HI0.out)) : g ≠ gb312)); have NB312_0 := Aside0.mk ((by rw [hg]; exact Nat.ne_of_gt (IsS95.lt (show IsS95 w0 _ g s0_0 x1001_2 x1002_2 from hi_ HI0.out)) : gb312 ≠ g)); replace HI0 := Aside0.mk (IsS95.below (hi_ HI0.out) hb); clear hb hbox hg; obtain ⟨Ao40, co40, eo40⟩ := Kd.R_slice HO310.out; subst eo40; have hnb41 := NB312_268.out; have hnc41 := NB268_312.out; have hnb42 := NB312_0.out; have hnc42 := NB0_312.out; have hcz43_0 := bc_ BK312; have hfz43_0 := blk_frozen BK312.out 0; have hnb44 := NB268_0.out; have hnc44 := NB0_268.out; have hcz45_0 := bc_ BK268; have hfz45_0 := blk_frozen BK268.out 0))
         refine bodyPost_ret (results_cell_row rfl _ _ gb268 41 #[.slice Ao40 t308.length co40] (0, 0) _ rfl (by (with_reducible repeat (first | refine blk_drewN ?_ _ | refine blk_drew ?_ | refine blk_alloc ?_ _)); refine blk_put (cs := #[.slice none 0 0]) ?_ 0 _ rfl; (with_reducible repeat (first | refine blk_drewN ?_ _ | refine blk_drew ?_ | refine blk_alloc ?_ _)); refine blk_far ?_ NB268_312.out _; (with_reducible repeat (first | refine blk_drewN ?_ _ | refine blk_drew ?_ | refine blk_alloc ?_ _)); exact BK268.out) Try.underlying41 rfl (by kernel_rfl)) rfl ?_
         exact ⟨_, er_, kr_ (Kd.R_mono (Kd.R_far (p := ⟨gb268, 0, none⟩) (Kd.R_far (p := ⟨gb312, 0, none⟩) (Kd.R_types (Kd.R_types HO310.out BK312.out (by decide)) BK268.out (by decide)) (fun _ hk => hk.1.2) (.slice Ao40 t308.length co40)) (fun _ hk => hk.2) (.slice Ao40 t308.length co40)) (fun _ hk => trivial)), hi_ HI0.out, bl_ HB.out, kp_ HK.out⟩
        ·obtain rfl := Bool.eq_false_iff.mpr c36
         rw [if_neg nf_] at H
         have H' := Aside0.mk H
         clear H
         obtain ⟨Ao46, co46, eo46⟩ := Kd.R_slice HO_6.out
         subst eo46
         go_wp2_with (first | ((with_reducible refine gate_callee (f := 74) rfl ?_); refine gl_ 50 Try.func74 #[.slice Ao46 x6_2.length co46] ?_; (with_reducible refine (spec_FromGens.calls k2 _ _ x6_2 t308 false _ ?side1 ?side2 A35.out).mono ?_); (case side1 => exact rs_ HO_6); (case side2 => exact (Kd.R_reads' HO_6.out).2.1); rintro e w47 ⟨v309, rfl, ho0, hb⟩; refine ⟨_, rfl, ?_⟩; have HO310 := Aside0.mk (Kd.R_lower (Kd.R_new' ho0 (Kd.R_lt (kr_ HO_6.out))) (keep_size (w := w) (g := g) (row := none) (kp_ HK.out))); replace HO_6 := Aside0.mk (Kd.R_elder' (kr_ HO_6.out) (Kd.R_base ho0) hb); replace BK268 := bb_ BK268 hb; replace HI0 := Aside0.mk (IsS95.below (hi_ HI0.out) hb); replace HK := Aside0.mk (KeepBut.trans (kp_ HK.out) (KeepBut.of_below hb g none) (.inl rfl)); replace HB := bs_ HB hb; (try clear hb); (try clear hb2); (try clear hk); (try clear hi); (try clear ho0)) | ((with_reducible refine gate_dst (N := 9) rfl ?_); refine be_ 9 #[.slice none 0 0] 41 fun gb312 hg w48 hbox hb => ?_; replace HO_6 := rb_ HO_6 hb; replace HO310 := rb_ HO310 hb; replace HB := bs_ HB hb; have BK312 := Aside0.mk (hbox); have GW312 := Aside0.mk ((by rw [hg]; exact (keep_size (w := w) (g := g) (row := none) (kp_ HK.out)) : w.heap.size ≤ gb312)); have GE312 := Aside0.mk ((Nat.le_trans HW0.out (by rw [hg]; exact (keep_size (w := w) (g := g) (row := none) (kp_ HK.out)) : w.heap.size ≤ gb312) : w0.heap.size ≤ gb312)); replace HK := Aside0.mk (KeepBut.trans (kp_ HK.out) (KeepBut.of_below hb g none) (.inl rfl)); have NB268_312 := nl_ hg BK268; have NB312_268 := ng_ hg BK268; replace BK268 := bb_ BK268 hb; have NB0_312 := Aside0.mk ((by rw [hg]; exact Nat.ne_of_lt (IsS95.lt (show IsS95 w0 _ g s0_0 x1001_2 x1002_2 from hi_ HI0.out)) : g ≠ gb312)); have NB312_0 := Aside0.mk ((by rw [hg]; exact Nat.ne_of_gt (IsS95.lt (show IsS95 w0 _ g s0_0 x1001_2 x1002_2 from hi_ HI0.out)) : gb312 ≠ g)); replace HI0 := Aside0.mk (IsS95.below (hi_ HI0.out) hb); clear hb hbox hg; obtain ⟨Ao49, co49, eo49⟩ := Kd.R_slice HO310.out; subst eo49; have hnb50 := NB312_268.out; have hnc50 := NB268_312.out; have hnb51 := NB312_0.out; have hnc51 := NB0_312.out; have hcz52_0 := bc_ BK312; have hfz52_0 := blk_frozen BK312.out 0))
         go_roundg k2
         case measure => have := HK1.out; have := HK2.out; omega
         case rel => exact ⟨(wrap64 (x5_1 + 1)), (x1001_2), (x1002_2), sd_, H', ⟨by have := HK1.out; have := HK2.out; omega⟩, ⟨by (with_reducible repeat (first | refine blk_drewN ?_ _ | refine blk_drew ?_ | refine blk_alloc ?_ _)); refine blk_far ?_ NB268_312.out _; (with_reducible repeat (first | refine blk_drewN ?_ _ | refine blk_drew ?_ | refine blk_alloc ?_ _)); exact BK268.out⟩, ⟨hi_ HI0.out⟩, ⟨kp_ HK.out⟩, ⟨bl_ HB.out⟩⟩
    ·rw [if_neg c20] at H
     have c20b0 : decide (x5_1 < 4) = false := decide_eq_false c20
     clear c20
     replace H := Option.bind_eq_some_iff.mp H
     obtain ⟨⟨t282, t285, t286⟩, A530, H⟩ := H
     (try dsimp only at H)
     have A53 := Aside0.mk A530
     clear A530
     replace H := Option.bind_eq_some_iff.mp H
     obtain ⟨⟨t287, t290⟩, A540, H⟩ := H
     (try dsimp only at H)
     have A54 := Aside0.mk A540
     clear A540
     simp only [Option.some.injEq, Prod.mk.injEq] at H
     obtain ⟨rfl, rfl, rfl⟩ := H
     go_wp2_with (first | ((with_reducible refine gate_callee (f := 150) rfl ?_); refine gl_ 57 Try.func150 #[.pointer (some ⟨g, 0, none⟩)] ?_; (with_reducible refine (spec_l3List.calls g s0_0 x1001_1 x1002_1 t282 t285 t286 w0 _ ?side1 ?side2 A53.out).mono ?_); (case side1 => exact hi_ HI0.out); (case side2 => exact bl_ HB.out); rintro e w55 ⟨v283, rfl, ho0, hi, hb, hk⟩; refine ⟨_, rfl, ?_⟩; replace BK268 := Aside0.mk (KeepBut.blk hk (g' := gb268) (o := .cells #[.slice none 0 0] 41 (0, 0)) (bk_ BK268.out) NB268_0.out (by simp)); have HO284 := Aside0.mk (Kd.R_lower ho0 (keep_size (w := w) (g := g) (row := none) (kp_ HK.out))); replace HK := Aside0.mk (KeepBut.trans (kp_ HK.out) hk (.inl rfl)); replace HB := Aside0.mk (hb); replace HI0 := Aside0.mk (hi); (try clear hb); (try clear hb2); (try clear hk); (try clear hi); (try clear ho0); obtain ⟨Ao56, co56, eo56⟩ := Kd.R_slice HO284.out; subst eo56) | ((with_reducible refine gate_callee (f := 74) rfl ?_); refine gl_ 58 Try.func74 #[.slice Ao56 t282.length co56] ?_; (with_reducible refine (spec_FromGens.calls k1 _ _ t282 t287 t290 _ ?side1 ?side2 A54.out).mono ?_); (case side1 => exact rs_ HO284); (case side2 => exact (Kd.R_reads' HO284.out).2.1); rintro e w57 ⟨v288, rfl, ho0, hb⟩; refine ⟨_, rfl, ?_⟩; have HO289 := Aside0.mk (Kd.R_lower (Kd.R_new' ho0 (Kd.R_lt (kr_ HO284.out))) (keep_size (w := w) (g := g) (row := none) (kp_ HK.out))); replace HO284 := Aside0.mk (Kd.R_elder' (kr_ HO284.out) (Kd.R_base ho0) hb); replace BK268 := bb_ BK268 hb; replace HI0 := Aside0.mk (IsS95.below (hi_ HI0.out) hb); replace HK := Aside0.mk (KeepBut.trans (kp_ HK.out) (KeepBut.of_below hb g none) (.inl rfl)); replace HB := bs_ HB hb; (try clear hb); (try clear hb2); (try clear hk); (try clear hi); (try clear ho0)) | ((with_reducible refine gate_dst (N := 11) rfl ?_); refine be_ 11 #[.slice none 0 0] 41 fun gb291 hg w58 hbox hb => ?_; replace HO284 := rb_ HO284 hb; replace HO289 := rb_ HO289 hb; replace HB := bs_ HB hb; have BK291 := Aside0.mk (hbox); have GW291 := Aside0.mk ((by rw [hg]; exact (keep_size (w := w) (g := g) (row := none) (kp_ HK.out)) : w.heap.size ≤ gb291)); have GE291 := Aside0.mk ((Nat.le_trans HW0.out (by rw [hg]; exact (keep_size (w := w) (g := g) (row := none) (kp_ HK.out)) : w.heap.size ≤ gb291) : w0.heap.size ≤ gb291)); replace HK := Aside0.mk (KeepBut.trans (kp_ HK.out) (KeepBut.of_below hb g none) (.inl rfl)); have NB268_291 := nl_ hg BK268; have NB291_268 := ng_ hg BK268; replace BK268 := bb_ BK268 hb; have NB0_291 := Aside0.mk ((by rw [hg]; exact Nat.ne_of_lt (IsS95.lt (show IsS95 w0 _ g s0_0 t285 t286 from hi_ HI0.out)) : g ≠ gb291)); have NB291_0 := Aside0.mk ((by rw [hg]; exact Nat.ne_of_gt (IsS95.lt (show IsS95 w0 _ g s0_0 t285 t286 from hi_ HI0.out)) : gb291 ≠ g)); replace HI0 := Aside0.mk (IsS95.below (hi_ HI0.out) hb); clear hb hbox hg; obtain ⟨Ao59, co59, eo59⟩ := Kd.R_slice HO289.out; subst eo59; have hnb60 := NB291_268.out; have hnc60 := NB268_291.out; have hnb61 := NB291_0.out; have hnc61 := NB0_291.out; have hcz62_0 := bc_ BK291; have hfz62_0 := blk_frozen BK291.out 0; have hnb63 := NB268_0.out; have hnc63 := NB0_268.out; have hcz64_0 := bc_ BK268; have hfz64_0 := blk_frozen BK268.out 0))
     refine bodyPost_ret (results_cell_row rfl _ _ gb268 41 #[.slice Ao59 t287.length co59] (0, 0) _ rfl (by (with_reducible repeat (first | refine blk_drewN ?_ _ | refine blk_drew ?_ | refine blk_alloc ?_ _)); refine blk_put (cs := #[.slice none 0 0]) ?_ 0 _ rfl; (with_reducible repeat (first | refine blk_drewN ?_ _ | refine blk_drew ?_ | refine blk_alloc ?_ _)); refine blk_far ?_ NB268_291.out _; (with_reducible repeat (first | refine blk_drewN ?_ _ | refine blk_drew ?_ | refine blk_alloc ?_ _)); exact BK268.out) Try.underlying41 rfl (by kernel_rfl)) rfl ?_
     exact ⟨_, er_, kr_ (Kd.R_mono (Kd.R_far (p := ⟨gb268, 0, none⟩) (Kd.R_far (p := ⟨gb291, 0, none⟩) (Kd.R_types (Kd.R_types HO289.out BK291.out (by decide)) BK268.out (by decide)) (fun _ hk => hk.1.2) (.slice Ao59 t287.length co59)) (fun _ hk => hk.2) (.slice Ao59 t287.length co59)) (fun _ hk => trivial)), hi_ HI0.out, bl_ HB.out, kp_ HK.out⟩
end Go.Proofs.Ytbjbolblahlhcaa.PFnWilf
end
