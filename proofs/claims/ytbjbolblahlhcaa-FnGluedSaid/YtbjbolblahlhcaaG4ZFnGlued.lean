/- Part 4 of the claim for FnGlued, of the chain from the printed contracts and the plain laws to the row. It has no condition of its own. -/
import Derived.Test.YtbjbolblahlhcaaG1ZFnGlued
import Derived.Test.YtbjbolblahlhcaaG2ZFnGlued
import Derived.Test.YtbjbolblahlhcaaG3ZFnGlued
section
namespace Go.Proofs.Ytbjbolblahlhcaa.PFnGlued
open Go.RowKit Go.Proofs.YtbjbolblahlhcaaW.PrintWords Go.Proofs.YtbjbolblahlhcaaW.PrintLast Go.Proofs.YtbjbolblahlhcaaW.PrintMore
open Go.Proofs.Ytbjbolblahlhcaa.SortW (bk_ kr_ t_ f_)
open Go.Proofs.Ytbjbolblahlhcaa.SqW
attribute [local go_sem] max2_int min2_int max_two min_two max_three min_three max_four min_four
set_option maxHeartbeats 8000000
set_option maxRecDepth 100000
set_option linter.unusedVariables false
set_option linter.unusedSimpArgs false
def spec_GlueOf.j0 : Nat → Int → Int → Bool → List Int → List Int → Option (List Int × Bool)
 | 0, _, _, _, _, _ => none
 | k + 1, x2, x3, x49, x232000, x233000 => if x49 = true then (some (([] : List Int), false)) else ((spec_l22Times.f k x232000 x2).bind fun t241 => ((spec_l22Times.f k x233000 x3).bind fun t244 => (if t241.length + t244.length < 17592186044416 then ((spec_FromGens.f k (t241 ++ t244)).bind fun bt250 => (some (bt250.1, bt250.2))) else (none))))
def spec_GlueOf.f (k : Nat) (l0_0 : List Int) (l1_0 : List Int) (a2 : Int) (a3 : Int) : Option (List Int × Bool) := (spec_Contains.f k l1_0 a2).bind fun t234 => (if t234 = true then ((spec_Contains.f k l0_0 a3).bind fun t235 => (if t235 = true then ((spec_HasNumber.f k l1_0 a2).bind fun t236 => (if t236 = true then (spec_GlueOf.j0 k a2 a3 true l0_0 l1_0) else ((spec_HasNumber.f k l0_0 a3).bind fun t237 => (if t237 = true then (spec_GlueOf.j0 k a2 a3 true l0_0 l1_0) else ((spec_l1In.f a2 1 60).bind fun t238 => (if t238 = true then ((spec_l1In.f a3 1 60).bind fun t239 => (if t239 = true then ((spec_GcdOf.f k a2 a3).bind fun t240 => (spec_GlueOf.j0 k a2 a3 (t240 != 1) l0_0 l1_0)) else (spec_GlueOf.j0 k a2 a3 true l0_0 l1_0))) else (spec_GlueOf.j0 k a2 a3 true l0_0 l1_0))))))) else (spec_GlueOf.j0 k a2 a3 true l0_0 l1_0))) else (spec_GlueOf.j0 k a2 a3 true l0_0 l1_0))
def spec_GlueOf.T3 : Bool × List (List Nat × List Nat) := (true, [([], []), ([0], [0]), ([], []), ([1, 2], [1, 2]), ([], []), ([4], [4]), ([], []), ([5, 6, 3], [5, 6]), ([3, 7, 7], [3, 7]), ([8, 8], [8]), ([9], [9]), ([10], [10]), ([10], [10]), ([], []), ([13, 11, 9, 0, 1, 2, 3, 4, 5, 6, 7, 8, 9, 10, 11, 13], [11, 13]), ([12, 14, 0, 1, 2, 3, 4, 5, 6, 7, 8, 9, 10, 11, 12, 13, 14], [12])])
def spec_GlueOf.B3 : List Nat := [0, 1, 0, 7, 0, 16, 0, 127, 255, 511, 1023, 2047, 2047, 0, 12287, 32767]
theorem spec_GlueOf.tab3 : rtab .any (opsOf Try.f55 3) = spec_GlueOf.T3 := by kernel_rfl
theorem spec_GlueOf.bits3 : waitsOk spec_GlueOf.T3.2 spec_GlueOf.B3 = true := by kernel_rfl
theorem spec_GlueOf.calls (k : Nat) (A0_0 : Option Addr) (c0_0 : Nat) (l0_0 : List Int) (A1_0 : Option Addr) (c1_0 : Nat) (l1_0 : List Int) (a2 : Int) (a3 : Int) (r1 : List Int) (r2 : Bool) (w : World) (hr0_0 : Kd.C (Kd.int .i64) w A0_0 l0_0.length l0_0) (hc0_0 : l0_0.length ≤ c0_0) (hr1_0 : Kd.C (Kd.int .i64) w A1_0 l1_0.length l1_0) (hc1_0 : l1_0.length ≤ c1_0) (h : spec_GlueOf.f k l0_0 l1_0 a2 a3 = some (r1, r2)) :
 Calls Try.prog 55 #[.agg #[.slice A0_0 l0_0.length c0_0], .agg #[.slice A1_0 l1_0.length c1_0], .int .i64 a2, .int .i64 a3] w fun e w' => ∃ v0_ : Value, e = .returned (.tuple #[.agg #[v0_], .bool r2]) ∧ Kd.R (Kd.int .i64) 3 w' w.heap.size (fun _ => True) v0_ r1 ∧ Below w.heap.size w w' := by
 have hu41 := Try.underlying41
 have HR0_0 := Aside0.mk hr0_0
 have HC0_0 := Aside0.mk hc0_0
 clear hr0_0 hc0_0
 have HR1_0 := Aside0.mk hr1_0
 have HC1_0 := Aside0.mk hc1_0
 clear hr1_0 hc1_0
 have HB := Aside0.mk (Below.refl w.heap.size w)
 have H := h
 clear h
 unfold spec_GlueOf.f at H
 have HC5 := Aside0.mk H
 clear H
 go_enter Try.func55, Try.ntmps55
 go_upto_region 1 with (first | ((with_reducible refine gate_dst (N := 4) rfl ?_); refine be_ 4 #[.slice A0_0 l0_0.length c0_0] 41 fun gb231 hg w6 hbox hb => ?_; have BK231 := Aside0.mk (hbox); have GW231 := ge_ hg HB; have GE231 := ge_ hg HB; replace HB := bs_ HB hb; clear hb hbox hg) | ((with_reducible refine gate_dst (N := 5) rfl ?_); refine be_ 5 #[.slice A1_0 l1_0.length c1_0] 41 fun gb232 hg w7 hbox hb => ?_; have BK232 := Aside0.mk (hbox); have GW232 := ge_ hg HB; have GE232 := ge_ hg HB; replace HB := bs_ HB hb; have NB231_232 := nl_ hg BK231; have NB232_231 := ng_ hg BK231; replace BK231 := bb_ BK231 hb; clear hb hbox hg) | ((with_reducible refine gate_dst (N := 8) rfl ?_); refine be_ 8 #[.slice none 0 0] 41 fun gb233 hg w8 hbox hb => ?_; have BK233 := Aside0.mk (hbox); have GW233 := ge_ hg HB; have GE233 := ge_ hg HB; replace HB := bs_ HB hb; have NB231_233 := nl_ hg BK231; have NB233_231 := ng_ hg BK231; replace BK231 := bb_ BK231 hb; have NB232_233 := nl_ hg BK232; have NB233_232 := ng_ hg BK232; replace BK232 := bb_ BK232 hb; clear hb hbox hg))
 (try simp only [Act.put, List.setIfInBounds_toArray, List.set_cons_zero, List.set_cons_succ])
 go_cut [49] (fun v49 wc => ∃ (kq : Nat) (x49_4 : Bool), v49 = .bool x49_4 ∧ Aside0 (spec_GlueOf.j0 kq a2 a3 x49_4 l0_0 l1_0 = some (r1, r2)) ∧ Aside0 (kq ≤ k) ∧ Aside0 (wc.heap[gb231]? = some (.cells #[(.slice A0_0 l0_0.length c0_0)] 41 (0, 0))) ∧ Aside0 (wc.heap[gb232]? = some (.cells #[(.slice A1_0 l1_0.length c1_0)] 41 (0, 0))) ∧ Aside0 (wc.heap[gb233]? = some (.cells #[(.slice none 0 0)] 41 (0, 0))) ∧ Aside0 (Below w.heap.size w wc))
 case first =>
  have H := HC5.out
  clear HC5
  obtain ⟨t234, A9, H⟩ := ob_ H
  (try dsimp only at H)
  by_cases c10 : t234 = true
  ·subst c10
   rw [if_pos rfl] at H
   obtain ⟨t235, A11, H⟩ := ob_ H
   (try dsimp only at H)
   by_cases c12 : t235 = true
   ·subst c12
    rw [if_pos rfl] at H
    obtain ⟨t236, A13, H⟩ := ob_ H
    (try dsimp only at H)
    by_cases c14 : t236 = true
    ·subst c14
     rw [if_pos rfl] at H
     have H' := Aside0.mk H
     clear H
     have hnb15 := NB232_231.out
     have hnc15 := NB231_232.out
     have hnb16 := NB232_233.out
     have hnc16 := NB233_232.out
     have hcz17_0 := bc_ BK232
     have hfz17_0 := blk_frozen BK232.out 0
     go_wp2_with (first | ((with_reducible refine gate_callee (f := 109) rfl ?_); refine gl_ 14 Try.func109 #[.agg #[.slice A1_0 l1_0.length c1_0], .int .i64 a2] ?_; (with_reducible refine (spec_Contains.calls k _ _ l1_0 a2 true _ ?side1 ?side2 A9.out).mono ?_); (case side1 => exact cs_ HR1_0 HB); (case side2 => exact HC1_0.out); rintro e w18 ⟨rfl, hb⟩; refine ⟨_, rfl, ?_⟩; replace BK231 := bb_ BK231 hb; replace BK232 := bb_ BK232 hb; replace BK233 := bb_ BK233 hb; replace HB := bs_ HB hb; (try clear hb); (try clear hb2); (try clear hk); (try clear hi); have hnb19 := NB231_233.out; have hnc19 := NB233_231.out; have hcz20_0 := bc_ BK231; have hfz20_0 := blk_frozen BK231.out 0) | (go_at_call 109; (with_reducible refine (spec_Contains.calls k _ _ l0_0 a3 true _ ?side1 ?side2 A11.out).mono ?_); (case side1 => exact cs_ HR0_0 HB); (case side2 => exact HC0_0.out); rintro e w21 ⟨rfl, hb⟩; replace BK231 := bb_ BK231 hb; replace BK232 := bb_ BK232 hb; replace BK233 := bb_ BK233 hb; replace HB := bs_ HB hb; (try clear hb); (try clear hb2); (try clear hk); (try clear hi); have hcz22_0 := bc_ BK232; have hfz22_0 := blk_frozen BK232.out 0) | (go_at_call 110; (with_reducible refine (spec_HasNumber.calls k _ _ l1_0 a2 true _ ?side1 ?side2 A13.out).mono ?_); (case side1 => exact cs_ HR1_0 HB); (case side2 => exact HC1_0.out); rintro e w' ⟨rfl, ⟨nd, rfl⟩⟩))
     go_meet
     case rel => exact ⟨_, (true), sd_, H', ⟨le_⟩, ⟨bk_ BK231.out⟩, ⟨bk_ BK232.out⟩, ⟨bk_ BK233.out⟩, ⟨bl_ HB.out⟩⟩
    ·obtain rfl := Bool.eq_false_iff.mpr c14
     rw [if_neg nf_] at H
     obtain ⟨t237, A23, H⟩ := ob_ H
     (try dsimp only at H)
     by_cases c24 : t237 = true
     ·subst c24
      rw [if_pos rfl] at H
      have H' := Aside0.mk H
      clear H
      have hnb25 := NB232_231.out
      have hnc25 := NB231_232.out
      have hnb26 := NB232_233.out
      have hnc26 := NB233_232.out
      have hcz27_0 := bc_ BK232
      have hfz27_0 := blk_frozen BK232.out 0
      go_wp2_with (first | ((with_reducible refine gate_callee (f := 109) rfl ?_); refine gl_ 14 Try.func109 #[.agg #[.slice A1_0 l1_0.length c1_0], .int .i64 a2] ?_; (with_reducible refine (spec_Contains.calls k _ _ l1_0 a2 true _ ?side1 ?side2 A9.out).mono ?_); (case side1 => exact cs_ HR1_0 HB); (case side2 => exact HC1_0.out); rintro e w28 ⟨rfl, hb⟩; refine ⟨_, rfl, ?_⟩; replace BK231 := bb_ BK231 hb; replace BK232 := bb_ BK232 hb; replace BK233 := bb_ BK233 hb; replace HB := bs_ HB hb; (try clear hb); (try clear hb2); (try clear hk); (try clear hi); have hnb29 := NB231_233.out; have hnc29 := NB233_231.out; have hcz30_0 := bc_ BK231; have hfz30_0 := blk_frozen BK231.out 0) | (go_at_call 109; (with_reducible refine (spec_Contains.calls k _ _ l0_0 a3 true _ ?side1 ?side2 A11.out).mono ?_); (case side1 => exact cs_ HR0_0 HB); (case side2 => exact HC0_0.out); rintro e w31 ⟨rfl, hb⟩; replace BK231 := bb_ BK231 hb; replace BK232 := bb_ BK232 hb; replace BK233 := bb_ BK233 hb; replace HB := bs_ HB hb; (try clear hb); (try clear hb2); (try clear hk); (try clear hi); have hcz32_0 := bc_ BK232; have hfz32_0 := blk_frozen BK232.out 0) | (go_at_call 110; (with_reducible refine (spec_HasNumber.calls k _ _ l1_0 a2 false _ ?side1 ?side2 A13.out).mono ?_); (case side1 => exact cs_ HR1_0 HB); (case side2 => exact HC1_0.out); rintro e w' ⟨rfl, ⟨nd, rfl⟩⟩; have hcz33_0 := bc_ BK231; have hfz33_0 := blk_frozen BK231.out 0) | (go_at_call 110; (with_reducible refine (spec_HasNumber.calls k _ _ l0_0 a3 true _ ?side1 ?side2 A23.out).mono ?_); (case side1 => exact cs_ HR0_0 HB); (case side2 => exact HC0_0.out); rintro e w' ⟨rfl, ⟨nd, rfl⟩⟩))
      go_meet
      case rel => exact ⟨_, (true), sd_, H', ⟨le_⟩, ⟨bk_ BK231.out⟩, ⟨bk_ BK232.out⟩, ⟨bk_ BK233.out⟩, ⟨bl_ HB.out⟩⟩
     ·obtain rfl := Bool.eq_false_iff.mpr c24
      rw [if_neg nf_] at H
      obtain ⟨t238, A34, H⟩ := ob_ H
      (try dsimp only at H)
      by_cases c35 : t238 = true
      ·subst c35
       rw [if_pos rfl] at H
       obtain ⟨t239, A36, H⟩ := ob_ H
       (try dsimp only at H)
       by_cases c37 : t239 = true
       ·subst c37
        rw [if_pos rfl] at H
        obtain ⟨t240, A38, H⟩ := ob_ H
        (try dsimp only at H)
        have H' := Aside0.mk H
        clear H
        have hnb39 := NB232_231.out
        have hnc39 := NB231_232.out
        have hnb40 := NB232_233.out
        have hnc40 := NB233_232.out
        have hcz41_0 := bc_ BK232
        have hfz41_0 := blk_frozen BK232.out 0
        go_wp2_with (first | ((with_reducible refine gate_callee (f := 109) rfl ?_); refine gl_ 14 Try.func109 #[.agg #[.slice A1_0 l1_0.length c1_0], .int .i64 a2] ?_; (with_reducible refine (spec_Contains.calls k _ _ l1_0 a2 true _ ?side1 ?side2 A9.out).mono ?_); (case side1 => exact cs_ HR1_0 HB); (case side2 => exact HC1_0.out); rintro e w42 ⟨rfl, hb⟩; refine ⟨_, rfl, ?_⟩; replace BK231 := bb_ BK231 hb; replace BK232 := bb_ BK232 hb; replace BK233 := bb_ BK233 hb; replace HB := bs_ HB hb; (try clear hb); (try clear hb2); (try clear hk); (try clear hi); have hnb43 := NB231_233.out; have hnc43 := NB233_231.out; have hcz44_0 := bc_ BK231; have hfz44_0 := blk_frozen BK231.out 0) | (go_at_call 109; (with_reducible refine (spec_Contains.calls k _ _ l0_0 a3 true _ ?side1 ?side2 A11.out).mono ?_); (case side1 => exact cs_ HR0_0 HB); (case side2 => exact HC0_0.out); rintro e w45 ⟨rfl, hb⟩; replace BK231 := bb_ BK231 hb; replace BK232 := bb_ BK232 hb; replace BK233 := bb_ BK233 hb; replace HB := bs_ HB hb; (try clear hb); (try clear hb2); (try clear hk); (try clear hi); have hcz46_0 := bc_ BK232; have hfz46_0 := blk_frozen BK232.out 0) | (go_at_call 110; (with_reducible refine (spec_HasNumber.calls k _ _ l1_0 a2 false _ ?side1 ?side2 A13.out).mono ?_); (case side1 => exact cs_ HR1_0 HB); (case side2 => exact HC1_0.out); rintro e w' ⟨rfl, ⟨nd, rfl⟩⟩; have hcz47_0 := bc_ BK231; have hfz47_0 := blk_frozen BK231.out 0) | (go_at_call 110; (with_reducible refine (spec_HasNumber.calls k _ _ l0_0 a3 false _ ?side1 ?side2 A23.out).mono ?_); (case side1 => exact cs_ HR0_0 HB); (case side2 => exact HC0_0.out); rintro e w' ⟨rfl, ⟨nd, rfl⟩⟩) | (go_at_call 75; (with_reducible refine (spec_l1In.calls a2 1 60 true _ A34.out).mono ?_); rintro e w' ⟨rfl, ⟨nd, rfl⟩⟩) | (go_at_call 75; (with_reducible refine (spec_l1In.calls a3 1 60 true _ A36.out).mono ?_); rintro e w' ⟨rfl, ⟨nd, rfl⟩⟩) | (go_at_call 97; (with_reducible refine (spec_GcdOf.calls k a2 a3 t240 _ A38.out).mono ?_); rintro e w' ⟨rfl, ⟨nd, rfl⟩⟩))
        go_meet
        case rel => exact ⟨_, ((t240 != 1)), sd_, H', ⟨le_⟩, ⟨bk_ BK231.out⟩, ⟨bk_ BK232.out⟩, ⟨bk_ BK233.out⟩, ⟨bl_ HB.out⟩⟩
       ·obtain rfl := Bool.eq_false_iff.mpr c37
        rw [if_neg nf_] at H
        have H' := Aside0.mk H
        clear H
        have hnb48 := NB232_231.out
        have hnc48 := NB231_232.out
        have hnb49 := NB232_233.out
        have hnc49 := NB233_232.out
        have hcz50_0 := bc_ BK232
        have hfz50_0 := blk_frozen BK232.out 0
        go_wp2_with (first | ((with_reducible refine gate_callee (f := 109) rfl ?_); refine gl_ 14 Try.func109 #[.agg #[.slice A1_0 l1_0.length c1_0], .int .i64 a2] ?_; (with_reducible refine (spec_Contains.calls k _ _ l1_0 a2 true _ ?side1 ?side2 A9.out).mono ?_); (case side1 => exact cs_ HR1_0 HB); (case side2 => exact HC1_0.out); rintro e w51 ⟨rfl, hb⟩; refine ⟨_, rfl, ?_⟩; replace BK231 := bb_ BK231 hb; replace BK232 := bb_ BK232 hb; replace BK233 := bb_ BK233 hb; replace HB := bs_ HB hb; (try clear hb); (try clear hb2); (try clear hk); (try clear hi); have hnb52 := NB231_233.out; have hnc52 := NB233_231.out; have hcz53_0 := bc_ BK231; have hfz53_0 := blk_frozen BK231.out 0) | (go_at_call 109; (with_reducible refine (spec_Contains.calls k _ _ l0_0 a3 true _ ?side1 ?side2 A11.out).mono ?_); (case side1 => exact cs_ HR0_0 HB); (case side2 => exact HC0_0.out); rintro e w54 ⟨rfl, hb⟩; replace BK231 := bb_ BK231 hb; replace BK232 := bb_ BK232 hb; replace BK233 := bb_ BK233 hb; replace HB := bs_ HB hb; (try clear hb); (try clear hb2); (try clear hk); (try clear hi); have hcz55_0 := bc_ BK232; have hfz55_0 := blk_frozen BK232.out 0) | (go_at_call 110; (with_reducible refine (spec_HasNumber.calls k _ _ l1_0 a2 false _ ?side1 ?side2 A13.out).mono ?_); (case side1 => exact cs_ HR1_0 HB); (case side2 => exact HC1_0.out); rintro e w' ⟨rfl, ⟨nd, rfl⟩⟩; have hcz56_0 := bc_ BK231; have hfz56_0 := blk_frozen BK231.out 0) | (go_at_call 110; (with_reducible refine (spec_HasNumber.calls k _ _ l0_0 a3 false _ ?side1 ?side2 A23.out).mono ?_); (case side1 => exact cs_ HR0_0 HB); (case side2 => exact HC0_0.out); rintro e w' ⟨rfl, ⟨nd, rfl⟩⟩) | (go_at_call 75; (with_reducible refine (spec_l1In.calls a2 1 60 true _ A34.out).mono ?_); rintro e w' ⟨rfl, ⟨nd, rfl⟩⟩) | (go_at_call 75; (with_reducible refine (spec_l1In.calls a3 1 60 false _ A36.out).mono ?_); rintro e w' ⟨rfl, ⟨nd, rfl⟩⟩))
        go_meet
        case rel => exact ⟨_, (true), sd_, H', ⟨le_⟩, ⟨bk_ BK231.out⟩, ⟨bk_ BK232.out⟩, ⟨bk_ BK233.out⟩, ⟨bl_ HB.out⟩⟩
      ·obtain rfl := Bool.eq_false_iff.mpr c35
       rw [if_neg nf_] at H
       have H' := Aside0.mk H
       clear H
       have hnb57 := NB232_231.out
       have hnc57 := NB231_232.out
       have hnb58 := NB232_233.out
       have hnc58 := NB233_232.out
       have hcz59_0 := bc_ BK232
       have hfz59_0 := blk_frozen BK232.out 0
       go_wp2_with (first | ((with_reducible refine gate_callee (f := 109) rfl ?_); refine gl_ 14 Try.func109 #[.agg #[.slice A1_0 l1_0.length c1_0], .int .i64 a2] ?_; (with_reducible refine (spec_Contains.calls k _ _ l1_0 a2 true _ ?side1 ?side2 A9.out).mono ?_); (case side1 => exact cs_ HR1_0 HB); (case side2 => exact HC1_0.out); rintro e w60 ⟨rfl, hb⟩; refine ⟨_, rfl, ?_⟩; replace BK231 := bb_ BK231 hb; replace BK232 := bb_ BK232 hb; replace BK233 := bb_ BK233 hb; replace HB := bs_ HB hb; (try clear hb); (try clear hb2); (try clear hk); (try clear hi); have hnb61 := NB231_233.out; have hnc61 := NB233_231.out; have hcz62_0 := bc_ BK231; have hfz62_0 := blk_frozen BK231.out 0) | (go_at_call 109; (with_reducible refine (spec_Contains.calls k _ _ l0_0 a3 true _ ?side1 ?side2 A11.out).mono ?_); (case side1 => exact cs_ HR0_0 HB); (case side2 => exact HC0_0.out); rintro e w63 ⟨rfl, hb⟩; replace BK231 := bb_ BK231 hb; replace BK232 := bb_ BK232 hb; replace BK233 := bb_ BK233 hb; replace HB := bs_ HB hb; (try clear hb); (try clear hb2); (try clear hk); (try clear hi); have hcz64_0 := bc_ BK232; have hfz64_0 := blk_frozen BK232.out 0) | (go_at_call 110; (with_reducible refine (spec_HasNumber.calls k _ _ l1_0 a2 false _ ?side1 ?side2 A13.out).mono ?_); (case side1 => exact cs_ HR1_0 HB); (case side2 => exact HC1_0.out); rintro e w' ⟨rfl, ⟨nd, rfl⟩⟩; have hcz65_0 := bc_ BK231; have hfz65_0 := blk_frozen BK231.out 0) | (go_at_call 110; (with_reducible refine (spec_HasNumber.calls k _ _ l0_0 a3 false _ ?side1 ?side2 A23.out).mono ?_); (case side1 => exact cs_ HR0_0 HB); (case side2 => exact HC0_0.out); rintro e w' ⟨rfl, ⟨nd, rfl⟩⟩) | (go_at_call 75; (with_reducible refine (spec_l1In.calls a2 1 60 false _ A34.out).mono ?_); rintro e w' ⟨rfl, ⟨nd, rfl⟩⟩))
       go_meet
       case rel => exact ⟨_, (true), sd_, H', ⟨le_⟩, ⟨bk_ BK231.out⟩, ⟨bk_ BK232.out⟩, ⟨bk_ BK233.out⟩, ⟨bl_ HB.out⟩⟩
   ·obtain rfl := Bool.eq_false_iff.mpr c12
    rw [if_neg nf_] at H
    have H' := Aside0.mk H
    clear H
    have hnb66 := NB232_231.out
    have hnc66 := NB231_232.out
    have hnb67 := NB232_233.out
    have hnc67 := NB233_232.out
    have hcz68_0 := bc_ BK232
    have hfz68_0 := blk_frozen BK232.out 0
    go_wp2_with (first | ((with_reducible refine gate_callee (f := 109) rfl ?_); refine gl_ 14 Try.func109 #[.agg #[.slice A1_0 l1_0.length c1_0], .int .i64 a2] ?_; (with_reducible refine (spec_Contains.calls k _ _ l1_0 a2 true _ ?side1 ?side2 A9.out).mono ?_); (case side1 => exact cs_ HR1_0 HB); (case side2 => exact HC1_0.out); rintro e w69 ⟨rfl, hb⟩; refine ⟨_, rfl, ?_⟩; replace BK231 := bb_ BK231 hb; replace BK232 := bb_ BK232 hb; replace BK233 := bb_ BK233 hb; replace HB := bs_ HB hb; (try clear hb); (try clear hb2); (try clear hk); (try clear hi); have hnb70 := NB231_233.out; have hnc70 := NB233_231.out; have hcz71_0 := bc_ BK231; have hfz71_0 := blk_frozen BK231.out 0) | (go_at_call 109; (with_reducible refine (spec_Contains.calls k _ _ l0_0 a3 false _ ?side1 ?side2 A11.out).mono ?_); (case side1 => exact cs_ HR0_0 HB); (case side2 => exact HC0_0.out); rintro e w72 ⟨rfl, hb⟩; replace BK231 := bb_ BK231 hb; replace BK232 := bb_ BK232 hb; replace BK233 := bb_ BK233 hb; replace HB := bs_ HB hb; (try clear hb); (try clear hb2); (try clear hk); (try clear hi)))
    go_meet
    case rel => exact ⟨_, (true), sd_, H', ⟨le_⟩, ⟨bk_ BK231.out⟩, ⟨bk_ BK232.out⟩, ⟨bk_ BK233.out⟩, ⟨bl_ HB.out⟩⟩
  ·obtain rfl := Bool.eq_false_iff.mpr c10
   rw [if_neg nf_] at H
   have H' := Aside0.mk H
   clear H
   have hnb73 := NB232_231.out
   have hnc73 := NB231_232.out
   have hnb74 := NB232_233.out
   have hnc74 := NB233_232.out
   have hcz75_0 := bc_ BK232
   have hfz75_0 := blk_frozen BK232.out 0
   go_wp2_with (first | ((with_reducible refine gate_callee (f := 109) rfl ?_); refine gl_ 14 Try.func109 #[.agg #[.slice A1_0 l1_0.length c1_0], .int .i64 a2] ?_; (with_reducible refine (spec_Contains.calls k _ _ l1_0 a2 false _ ?side1 ?side2 A9.out).mono ?_); (case side1 => exact cs_ HR1_0 HB); (case side2 => exact HC1_0.out); rintro e w76 ⟨rfl, hb⟩; refine ⟨_, rfl, ?_⟩; replace BK231 := bb_ BK231 hb; replace BK232 := bb_ BK232 hb; replace BK233 := bb_ BK233 hb; replace HB := bs_ HB hb; (try clear hb); (try clear hb2); (try clear hk); (try clear hi)))
   go_meet
   case rel => exact ⟨_, (true), sd_, H', ⟨le_⟩, ⟨bk_ BK231.out⟩, ⟨bk_ BK232.out⟩, ⟨bk_ BK233.out⟩, ⟨bl_ HB.out⟩⟩
 case rest =>
  clear HC5
  try clear c1
  try clear c2
  try clear p2
  try clear c3
  try clear c4
  try clear c5
  try clear c6
  try clear c7
  try clear c10
  try clear c12
  try clear c14
  try clear c15
  try clear c16
  try clear c19
  try clear c24
  try clear c25
  try clear c26
  try clear c29
  try clear c35
  try clear c37
  try clear c39
  try clear c40
  try clear c43
  try clear c48
  try clear c49
  try clear c52
  try clear c55
  try clear c57
  try clear c58
  try clear c61
  try clear c66
  try clear c67
  try clear c70
  try clear c73
  try clear c74
  try clear hcz17_0
  try clear hcz20_0
  try clear hcz22_0
  try clear hcz27_0
  try clear hcz30_0
  try clear hcz32_0
  try clear hcz33_0
  try clear hcz41_0
  try clear hcz44_0
  try clear hcz46_0
  try clear hcz47_0
  try clear hcz50_0
  try clear hcz53_0
  try clear hcz55_0
  try clear hcz56_0
  try clear hcz59_0
  try clear hcz62_0
  try clear hcz64_0
  try clear hcz65_0
  try clear hcz68_0
  try clear hcz71_0
  try clear hcz75_0
  try clear hfz17_0
  try clear hfz20_0
  try clear hfz22_0
  try clear hfz27_0
  try clear hfz30_0
  try clear hfz32_0
  try clear hfz33_0
  try clear hfz41_0
  try clear hfz44_0
  try clear hfz46_0
  try clear hfz47_0
  try clear hfz50_0
  try clear hfz53_0
  try clear hfz55_0
  try clear hfz56_0
  try clear hfz59_0
  try clear hfz62_0
  try clear hfz64_0
  try clear hfz65_0
  try clear hfz68_0
  try clear hfz71_0
  try clear hfz75_0
  obtain ⟨kq, x49_4, rfl, HA, HJ4, BK231, BK232, BK233, HB⟩ := hcut
  cases kq with
  | zero => exact absurd HA.out (by simp [spec_GlueOf.j0])
  | succ kj4 =>
   have H := HA.out
   clear HA
   simp only [spec_GlueOf.j0] at H
   by_cases c77 : x49_4 = true
   ·subst c77
    rw [if_pos rfl] at H
    simp only [Option.some.injEq, Prod.mk.injEq] at H
    obtain ⟨rfl, rfl⟩ := H
    have hnb78 := NB233_231.out
    have hnc78 := NB231_233.out
    have hnb79 := NB233_232.out
    have hnc79 := NB232_233.out
    have hcz80_0 := bc_ BK233
    have hfz80_0 := blk_frozen BK233.out 0
    go_wp2
    refine bodyPost_ret (results_ct rfl _ _ gb233 41 #[.slice none 0 0] (0, 0) _ rfl (by (with_reducible repeat (first | refine blk_drewN ?_ _ | refine blk_drew ?_ | refine blk_alloc ?_ _)); refine blk_put (cs := #[.slice none 0 0]) ?_ 0 _ rfl; (with_reducible repeat (first | refine blk_drewN ?_ _ | refine blk_drew ?_ | refine blk_alloc ?_ _)); exact BK233.out) Try.underlying41 rfl (by kernel_rfl)) rfl ?_
    exact ⟨_, er_, by first | exact Kd.R_nil _ _ _ _ _ | exact Kd.N_nil _ _ _ _ _ | exact Kd.V_nil _ _ _ _ _ | exact Kd.Q_nil _ _ _ _ _ | exact Kd.S_nil _ _ _ _ _, bl_ HB.out⟩
   ·obtain rfl := Bool.eq_false_iff.mpr c77
    rw [if_neg nf_] at H
    obtain ⟨t241, A81, H⟩ := ob_ H
    (try dsimp only at H)
    obtain ⟨t244, A82, H⟩ := ob_ H
    (try dsimp only at H)
    by_cases c83 : t241.length + t244.length < 17592186044416
    ·rw [if_pos c83] at H
     have LMc83 := Aside0.mk c83
     clear c83
     obtain ⟨y247, hy247⟩ : ∃ y_ : List Int, y_ = (t241 ++ t244) := ⟨_, rfl⟩
     replace H : ((spec_FromGens.f kj4 y247).bind fun bt250 => (some (bt250.1, bt250.2))) = some (r1, r2) := hr_ hy247 H
     have Ny247 := Aside0.mk hy247
     clear hy247
     replace H := Option.bind_eq_some_iff.mp H
     obtain ⟨⟨t250, t253⟩, A840, H⟩ := H
     (try dsimp only at H)
     have A84 := Aside0.mk A840
     clear A840
     simp only [Option.some.injEq, Prod.mk.injEq] at H
     obtain ⟨rfl, rfl⟩ := H
     try go_wp2
     replace BK231 := Aside0.mk (blk_drew BK231.out)
     replace BK232 := Aside0.mk (blk_drew BK232.out)
     replace BK233 := Aside0.mk (blk_drew BK233.out)
     replace HB := Aside0.mk (below_drew1 HB.out)
     refine start_ (n := 16) (S := fun w' => w'.cell? ⟨gb231, 0, none⟩ = some (.slice A0_0 l0_0.length c0_0) ∧ w'.cell? ⟨gb232, 0, none⟩ = some (.slice A1_0 l1_0.length c1_0)) (ds := []) (fl_ 16 0) (by kernel_rfl) rfl rfl ⟨(blk_cell BK231.out 0).trans rfl, (blk_cell BK232.out 0).trans rfl⟩ (fun hHeld => ?_); refine with_tabW spec_GlueOf.tab3 spec_GlueOf.bits3 (fun HT_ HW_ => ?_)
     generalize wc.drew = w85 at BK231 BK232 BK233 HB hHeld ⊢
     refine pu_ 0 52 (fl_ 16 1) ?_
     refine pu_ 2 54 (fm_ 16 5) ?_
     refine pu_ 4 56 (fm_ 16 21) ?_
     refine pu_ 6 58 (fm_ 16 85) ?_
     refine ta_ 1 53 (fm_ 16 87) ?_
     refine ta_ 5 57 (fm_ 16 119) ?_
     refine join_ (σ := Value × Value × Value × Value × Nat) 2 (fl_ 16 14) (fun s_ => [(55, s_.1), (59, s_.2.1), (60, s_.2.2.1), (61, .tuple #[.agg #[s_.2.2.2.1], .bool t253]), (10, .pointer (some ⟨s_.2.2.2.2, 0, none⟩)), (51, .tuple #[.agg #[s_.2.2.2.1], .bool t253]), (62, .agg #[s_.2.2.2.1]), (63, .bool t253)]) (fun s_ w' => (w'.cell? ⟨gb231, 0, none⟩ = some (.slice A0_0 l0_0.length c0_0) ∧ w'.cell? ⟨gb232, 0, none⟩ = some (.slice A1_0 l1_0.length c1_0)) ∧ (Kd.R (Kd.int .i64) 3 w' w.heap.size (fun k_ => some k_ ≠ (s_.2.2.1 : Value).ownBlock ∧ some k_ ≠ (s_.2.2.2.1 : Value).ownBlock) s_.2.1 t244) ∧ (Kd.R (Kd.int .i64) 3 w' w.heap.size (fun k_ => some k_ ≠ (s_.2.1 : Value).ownBlock ∧ some k_ ≠ (s_.2.2.2.1 : Value).ownBlock) s_.2.2.1 y247) ∧ (Kd.R (Kd.int .i64) 3 w' w.heap.size (fun k_ => some k_ ≠ (s_.2.1 : Value).ownBlock ∧ some k_ ≠ (s_.2.2.1 : Value).ownBlock) s_.2.2.2.1 t250) ∧ (w'.heap[gb231]? = some (.cells #[.slice A0_0 l0_0.length c0_0] 41 (0, 0))) ∧ (w'.heap[gb232]? = some (.cells #[.slice A1_0 l1_0.length c1_0] 41 (0, 0))) ∧ (w'.heap[gb233]? = some (.cells #[.slice none 0 0] 41 (0, 0))) ∧ (w'.heap[s_.2.2.2.2]? = some (.cells #[.slice none 0 0] 41 (0, 0))) ∧ (w.heap.size ≤ s_.2.2.2.2) ∧ (w.heap.size ≤ s_.2.2.2.2) ∧ (gb231 ≠ s_.2.2.2.2) ∧ (s_.2.2.2.2 ≠ gb231) ∧ (gb232 ≠ s_.2.2.2.2) ∧ (s_.2.2.2.2 ≠ gb232) ∧ (gb233 ≠ s_.2.2.2.2) ∧ (s_.2.2.2.2 ≠ gb233) ∧ (Below w.heap.size w w')) ?_ ?_
     rotate_left
     ·intro hJ3_7_8_9_13
      refine join_ (σ := Value × Value × Value × Value) 3 (fl_ 16 13) (fun s_ => [(55, s_.1), (59, s_.2.1), (60, s_.2.2.1), (61, .tuple #[.agg #[s_.2.2.2], .bool t253]), (51, .tuple #[.agg #[s_.2.2.2], .bool t253]), (62, .agg #[s_.2.2.2]), (63, .bool t253)]) (fun s_ w' => (w'.cell? ⟨gb231, 0, none⟩ = some (.slice A0_0 l0_0.length c0_0) ∧ w'.cell? ⟨gb232, 0, none⟩ = some (.slice A1_0 l1_0.length c1_0)) ∧ (Kd.R (Kd.int .i64) 3 w' w.heap.size (fun k_ => some k_ ≠ (s_.2.2.1 : Value).ownBlock ∧ some k_ ≠ (s_.2.2.2 : Value).ownBlock) s_.2.1 t244) ∧ (Kd.R (Kd.int .i64) 3 w' w.heap.size (fun k_ => some k_ ≠ (s_.2.1 : Value).ownBlock ∧ some k_ ≠ (s_.2.2.2 : Value).ownBlock) s_.2.2.1 y247) ∧ (Kd.R (Kd.int .i64) 3 w' w.heap.size (fun k_ => some k_ ≠ (s_.2.1 : Value).ownBlock ∧ some k_ ≠ (s_.2.2.1 : Value).ownBlock) s_.2.2.2 t250) ∧ (w'.heap[gb231]? = some (.cells #[.slice A0_0 l0_0.length c0_0] 41 (0, 0))) ∧ (w'.heap[gb232]? = some (.cells #[.slice A1_0 l1_0.length c1_0] 41 (0, 0))) ∧ (w'.heap[gb233]? = some (.cells #[.slice none 0 0] 41 (0, 0))) ∧ (Below w.heap.size w w')) ?_ ?_
      rotate_left
      ·intro hJ3_7_8_9
       refine join_ (σ := Value × Value × Value × Nat) 6 (fm_ 16 8703) (fun s_ => [(55, s_.1), (59, s_.2.1), (60, s_.2.2.1), (10, .pointer (some ⟨s_.2.2.2, 0, none⟩))]) (fun s_ w' => (w'.cell? ⟨gb231, 0, none⟩ = some (.slice A0_0 l0_0.length c0_0) ∧ w'.cell? ⟨gb232, 0, none⟩ = some (.slice A1_0 l1_0.length c1_0)) ∧ (Kd.R (Kd.int .i64) 3 w' w.heap.size (fun k_ => some k_ ≠ (s_.2.2.1 : Value).ownBlock) s_.2.1 t244) ∧ (Kd.R (Kd.int .i64) 3 w' w.heap.size (fun k_ => some k_ ≠ (s_.2.1 : Value).ownBlock) s_.2.2.1 y247) ∧ (w'.heap[gb231]? = some (.cells #[.slice A0_0 l0_0.length c0_0] 41 (0, 0))) ∧ (w'.heap[gb232]? = some (.cells #[.slice A1_0 l1_0.length c1_0] 41 (0, 0))) ∧ (w'.heap[gb233]? = some (.cells #[.slice none 0 0] 41 (0, 0))) ∧ (w'.heap[s_.2.2.2]? = some (.cells #[.slice none 0 0] 41 (0, 0))) ∧ (w.heap.size ≤ s_.2.2.2) ∧ (w.heap.size ≤ s_.2.2.2) ∧ (gb231 ≠ s_.2.2.2) ∧ (s_.2.2.2 ≠ gb231) ∧ (gb232 ≠ s_.2.2.2) ∧ (s_.2.2.2 ≠ gb232) ∧ (gb233 ≠ s_.2.2.2) ∧ (s_.2.2.2 ≠ gb233) ∧ (Below w.heap.size w w')) ?_ ?_
       rotate_left
       ·intro hJ3_7_8_13
        refine join_ (σ := Value × Value × Value) 7 (fl_ 16 9) (fun s_ => [(55, s_.1), (59, s_.2.1), (60, s_.2.2)]) (fun s_ w' => (w'.cell? ⟨gb231, 0, none⟩ = some (.slice A0_0 l0_0.length c0_0) ∧ w'.cell? ⟨gb232, 0, none⟩ = some (.slice A1_0 l1_0.length c1_0)) ∧ (Kd.R (Kd.int .i64) 3 w' w.heap.size (fun k_ => some k_ ≠ (s_.2.2 : Value).ownBlock) s_.2.1 t244) ∧ (Kd.R (Kd.int .i64) 3 w' w.heap.size (fun k_ => some k_ ≠ (s_.2.1 : Value).ownBlock) s_.2.2 y247) ∧ (w'.heap[gb231]? = some (.cells #[.slice A0_0 l0_0.length c0_0] 41 (0, 0))) ∧ (w'.heap[gb232]? = some (.cells #[.slice A1_0 l1_0.length c1_0] 41 (0, 0))) ∧ (w'.heap[gb233]? = some (.cells #[.slice none 0 0] 41 (0, 0))) ∧ (Below w.heap.size w w')) ?_ ?_
        rotate_left
        ·intro hJ3_7_8
         refine join_ (σ := Value × Value × Nat) 7 (fm_ 16 8447) (fun s_ => [(55, s_.1), (59, s_.2.1), (10, .pointer (some ⟨s_.2.2, 0, none⟩))]) (fun s_ w' => (w'.cell? ⟨gb231, 0, none⟩ = some (.slice A0_0 l0_0.length c0_0) ∧ w'.cell? ⟨gb232, 0, none⟩ = some (.slice A1_0 l1_0.length c1_0)) ∧ (Kd.R (Kd.int .i64) 3 w' w.heap.size (fun k_ => some k_ ≠ (s_.2.1 : Value).ownBlock) s_.1 t241) ∧ (Kd.R (Kd.int .i64) 3 w' w.heap.size (fun k_ => some k_ ≠ (s_.1 : Value).ownBlock) s_.2.1 t244) ∧ (w'.heap[gb231]? = some (.cells #[.slice A0_0 l0_0.length c0_0] 41 (0, 0))) ∧ (w'.heap[gb232]? = some (.cells #[.slice A1_0 l1_0.length c1_0] 41 (0, 0))) ∧ (w'.heap[gb233]? = some (.cells #[.slice none 0 0] 41 (0, 0))) ∧ (w'.heap[s_.2.2]? = some (.cells #[.slice none 0 0] 41 (0, 0))) ∧ (w.heap.size ≤ s_.2.2) ∧ (w.heap.size ≤ s_.2.2) ∧ (gb231 ≠ s_.2.2) ∧ (s_.2.2 ≠ gb231) ∧ (gb232 ≠ s_.2.2) ∧ (s_.2.2 ≠ gb232) ∧ (gb233 ≠ s_.2.2) ∧ (s_.2.2 ≠ gb233) ∧ (Below w.heap.size w w')) ?_ ?_
         rotate_left
         ·intro hJ3_7_13
          refine join_ (σ := Value × Value) 8 (fl_ 16 8) (fun s_ => [(55, s_.1), (59, s_.2)]) (fun s_ w' => (w'.cell? ⟨gb231, 0, none⟩ = some (.slice A0_0 l0_0.length c0_0) ∧ w'.cell? ⟨gb232, 0, none⟩ = some (.slice A1_0 l1_0.length c1_0)) ∧ (Kd.R (Kd.int .i64) 3 w' w.heap.size (fun k_ => some k_ ≠ (s_.2 : Value).ownBlock) s_.1 t241) ∧ (Kd.R (Kd.int .i64) 3 w' w.heap.size (fun k_ => some k_ ≠ (s_.1 : Value).ownBlock) s_.2 t244) ∧ (w'.heap[gb231]? = some (.cells #[.slice A0_0 l0_0.length c0_0] 41 (0, 0))) ∧ (w'.heap[gb232]? = some (.cells #[.slice A1_0 l1_0.length c1_0] 41 (0, 0))) ∧ (w'.heap[gb233]? = some (.cells #[.slice none 0 0] 41 (0, 0))) ∧ (Below w.heap.size w w')) ?_ ?_
          rotate_left
          ·intro hJ3_7
           refine join_ (σ := Value × Nat) 8 (fm_ 16 8319) (fun s_ => [(55, s_.1), (10, .pointer (some ⟨s_.2, 0, none⟩))]) (fun s_ w' => (w'.cell? ⟨gb231, 0, none⟩ = some (.slice A0_0 l0_0.length c0_0) ∧ w'.cell? ⟨gb232, 0, none⟩ = some (.slice A1_0 l1_0.length c1_0)) ∧ (Kd.R (Kd.int .i64) 3 w' w.heap.size (fun _ => True) s_.1 t241) ∧ (w'.heap[gb231]? = some (.cells #[.slice A0_0 l0_0.length c0_0] 41 (0, 0))) ∧ (w'.heap[gb232]? = some (.cells #[.slice A1_0 l1_0.length c1_0] 41 (0, 0))) ∧ (w'.heap[gb233]? = some (.cells #[.slice none 0 0] 41 (0, 0))) ∧ (w'.heap[s_.2]? = some (.cells #[.slice none 0 0] 41 (0, 0))) ∧ (w.heap.size ≤ s_.2) ∧ (w.heap.size ≤ s_.2) ∧ (gb231 ≠ s_.2) ∧ (s_.2 ≠ gb231) ∧ (gb232 ≠ s_.2) ∧ (s_.2 ≠ gb232) ∧ (gb233 ≠ s_.2) ∧ (s_.2 ≠ gb233) ∧ (Below w.heap.size w w')) ?_ ?_
           rotate_left
           ·intro hJ3_13
            refine join_ (σ := Value) 9 (fl_ 16 7) (fun s_ => [(55, s_)]) (fun s_ w' => (w'.cell? ⟨gb231, 0, none⟩ = some (.slice A0_0 l0_0.length c0_0) ∧ w'.cell? ⟨gb232, 0, none⟩ = some (.slice A1_0 l1_0.length c1_0)) ∧ (Kd.R (Kd.int .i64) 3 w' w.heap.size (fun _ => True) s_ t241) ∧ (w'.heap[gb231]? = some (.cells #[.slice A0_0 l0_0.length c0_0] 41 (0, 0))) ∧ (w'.heap[gb232]? = some (.cells #[.slice A1_0 l1_0.length c1_0] 41 (0, 0))) ∧ (w'.heap[gb233]? = some (.cells #[.slice none 0 0] 41 (0, 0))) ∧ (Below w.heap.size w w')) ?_ ?_
            rotate_left
            ·intro hJ3
             refine join_ (σ := Nat) 9 (fm_ 16 8311) (fun s_ => [(10, .pointer (some ⟨s_, 0, none⟩))]) (fun s_ w' => (w'.cell? ⟨gb231, 0, none⟩ = some (.slice A0_0 l0_0.length c0_0) ∧ w'.cell? ⟨gb232, 0, none⟩ = some (.slice A1_0 l1_0.length c1_0)) ∧ (w'.heap[gb231]? = some (.cells #[.slice A0_0 l0_0.length c0_0] 41 (0, 0))) ∧ (w'.heap[gb232]? = some (.cells #[.slice A1_0 l1_0.length c1_0] 41 (0, 0))) ∧ (w'.heap[gb233]? = some (.cells #[.slice none 0 0] 41 (0, 0))) ∧ (w'.heap[s_]? = some (.cells #[.slice none 0 0] 41 (0, 0))) ∧ (w.heap.size ≤ s_) ∧ (w.heap.size ≤ s_) ∧ (gb231 ≠ s_) ∧ (s_ ≠ gb231) ∧ (gb232 ≠ s_) ∧ (s_ ≠ gb232) ∧ (gb233 ≠ s_) ∧ (s_ ≠ gb233) ∧ (Below w.heap.size w w')) ?_ ?_
             rotate_left
             ·intro hJ13
              refine two_ (i := 3) (j := 13) (Ni := some 55) (Nj := some 10) (fl_ 16 7) (fm_ 16 8311) rfl rfl rfl rfl (two_of HT_.out (by kernel_rfl)) (by decide) (by decide) (fun K hK => ?_) (fun K hK => ?_)
              ·skip
               refine go_ Try.func111 #[.slice A0_0 l0_0.length c0_0, .int .i64 a2] ?_
               with_reducible refine (spec_l22Times.calls kj4 _ _ l0_0 a2 t241 _ ?side1 ?side2 A81.out).mono ?_
               (case side1 => exact cs_ HR0_0 HB)
               (case side2 => exact HC0_0.out)
               rintro e w86 ⟨v242, rfl, ho0, hb⟩
               refine ⟨_, rfl, ?_⟩
               have HO243 := rl_ ho0 HB
               replace BK231 := bb_ BK231 hb
               replace BK232 := bb_ BK232 hb
               replace BK233 := bb_ BK233 hb
               replace HB := bs_ HB hb
               (try clear hb)
               (try clear hb2)
               (try clear hk)
               (try clear hi)
               (try clear ho0)
               refine hK.out _ _ ⟨(blk_cell BK231.out 0).trans rfl, (blk_cell BK232.out 0).trans rfl⟩ (fun hHeld => ?_)
               clear hK K
               refine no_ 55 ?_
               exact norm_ (by first | (simp only [putAll, Act.put, List.setIfInBounds_toArray, List.set_cons_zero, List.set_cons_succ]; done) | (simp only [putAll, Act.put, List.setIfInBounds_toArray, List.set_cons_zero, List.set_cons_succ]; rfl)) (hJ3 (v242) _ ⟨hHeld, (kr_ HO243.out), (bk_ BK231.out), (bk_ BK232.out), (bk_ BK233.out), (bl_ HB.out)⟩)
              ·skip
               refine box_step ?hg (N := 10) ?hd (cs := #[.slice none 0 0]) (t := 41) ?hr ?_; (case hd => rfl); (case hg => rfl); (case hr => first | (go_simp; done) | (go_simp; rfl))
               intro gb254 hg w86 hbox hb
               have BK254 := Aside0.mk (hbox)
               have GW254 := ge_ hg HB
               have GE254 := ge_ hg HB
               replace HB := bs_ HB hb
               have NB231_254 := nl_ hg BK231
               have NB254_231 := ng_ hg BK231
               replace BK231 := bb_ BK231 hb
               have NB232_254 := nl_ hg BK232
               have NB254_232 := ng_ hg BK232
               replace BK232 := bb_ BK232 hb
               have NB233_254 := nl_ hg BK233
               have NB254_233 := ng_ hg BK233
               replace BK233 := bb_ BK233 hb
               clear hb hbox hg
               refine hK.out _ _ ⟨(blk_cell BK231.out 0).trans rfl, (blk_cell BK232.out 0).trans rfl⟩ (fun hHeld => ?_)
               clear hK K
               refine no_ 10 ?_
               exact norm_ (by first | (simp only [putAll, Act.put, List.setIfInBounds_toArray, List.set_cons_zero, List.set_cons_succ]; done) | (simp only [putAll, Act.put, List.setIfInBounds_toArray, List.set_cons_zero, List.set_cons_succ]; rfl)) (hJ13 (gb254) _ ⟨hHeld, (bk_ BK231.out), (bk_ BK232.out), (bk_ BK233.out), (bk_ BK254.out), GW254.out, GE254.out, NB231_254.out, NB254_231.out, NB232_254.out, NB254_232.out, NB233_254.out, NB254_233.out, (bl_ HB.out)⟩)
             ·skip
              rintro gb254 w87 ⟨hS_, h0_, h1_, h2_, h3_, h4_, h5_, h6_, h7_, h8_, h9_, h10_, h11_, h12_⟩
              have n0_ : Aside0 (w87.heap[gb231]? = some (.cells #[.slice A0_0 l0_0.length c0_0] 41 (0, 0))) := ⟨h0_⟩
              have n1_ : Aside0 (w87.heap[gb232]? = some (.cells #[.slice A1_0 l1_0.length c1_0] 41 (0, 0))) := ⟨h1_⟩
              have n2_ : Aside0 (w87.heap[gb233]? = some (.cells #[.slice none 0 0] 41 (0, 0))) := ⟨h2_⟩
              have n3_ : Aside0 (w87.heap[gb254]? = some (.cells #[.slice none 0 0] 41 (0, 0))) := ⟨h3_⟩
              have n4_ : Aside0 (w.heap.size ≤ gb254) := ⟨h4_⟩
              have n5_ : Aside0 (w.heap.size ≤ gb254) := ⟨h5_⟩
              have n6_ : Aside0 (gb231 ≠ gb254) := ⟨h6_⟩
              have n7_ : Aside0 (gb254 ≠ gb231) := ⟨h7_⟩
              have n8_ : Aside0 (gb232 ≠ gb254) := ⟨h8_⟩
              have n9_ : Aside0 (gb254 ≠ gb232) := ⟨h9_⟩
              have n10_ : Aside0 (gb233 ≠ gb254) := ⟨h10_⟩
              have n11_ : Aside0 (gb254 ≠ gb233) := ⟨h11_⟩
              have n12_ : Aside0 (Below w.heap.size w w87) := ⟨h12_⟩
              clear BK231
              clear BK232
              clear BK233
              clear HB
              clear h0_ h1_ h2_ h3_ h4_ h5_ h6_ h7_ h8_ h9_ h10_ h11_ h12_
              have BK231 := n0_
              have BK232 := n1_
              have BK233 := n2_
              have BK254 := n3_
              have GW254 := n4_
              have GE254 := n5_
              have NB231_254 := n6_
              have NB254_231 := n7_
              have NB232_254 := n8_
              have NB254_232 := n9_
              have NB233_254 := n10_
              have NB254_233 := n11_
              have HB := n12_
              clear n0_ n1_ n2_ n3_ n4_ n5_ n6_ n7_ n8_ n9_ n10_ n11_ n12_
              have hHeld : w87.cell? ⟨gb231, 0, none⟩ = some (.slice A0_0 l0_0.length c0_0) ∧ w87.cell? ⟨gb232, 0, none⟩ = some (.slice A1_0 l1_0.length c1_0) := hS_
              refine norm_ (a' := ?_) ?_ ?_
              rotate_left
              ·simp only [putAll, Act.put, List.setIfInBounds_toArray, List.set_cons_zero, List.set_cons_succ]
               rfl
              refine on_ 3 55 (fm_ 16 8319) fun K hK => ?_
              refine go_ Try.func111 #[.slice A0_0 l0_0.length c0_0, .int .i64 a2] ?_
              with_reducible refine (spec_l22Times.calls kj4 _ _ l0_0 a2 t241 _ ?side1 ?side2 A81.out).mono ?_
              (case side1 => exact cs_ HR0_0 HB)
              (case side2 => exact HC0_0.out)
              rintro e w88 ⟨v242, rfl, ho0, hb⟩
              refine ⟨_, rfl, ?_⟩
              have HO243 := rl_ ho0 HB
              replace BK231 := bb_ BK231 hb
              replace BK232 := bb_ BK232 hb
              replace BK233 := bb_ BK233 hb
              replace BK254 := bb_ BK254 hb
              replace HB := bs_ HB hb
              (try clear hb)
              (try clear hb2)
              (try clear hk)
              (try clear hi)
              (try clear ho0)
              refine hK.out _ _ ⟨(blk_cell BK231.out 0).trans rfl, (blk_cell BK232.out 0).trans rfl⟩ (fun hHeld => ?_)
              clear hK K
              refine no_ 55 ?_
              exact norm_ (by first | (simp only [putAll, Act.put, List.setIfInBounds_toArray, List.set_cons_zero, List.set_cons_succ]; done) | (simp only [putAll, Act.put, List.setIfInBounds_toArray, List.set_cons_zero, List.set_cons_succ]; rfl)) (hJ3_13 (v242, gb254) _ ⟨hHeld, (kr_ HO243.out), (bk_ BK231.out), (bk_ BK232.out), (bk_ BK233.out), (bk_ BK254.out), GW254.out, GE254.out, NB231_254.out, NB254_231.out, NB232_254.out, NB254_232.out, NB233_254.out, NB254_233.out, (bl_ HB.out)⟩)
            ·skip
             rintro v242 w87 ⟨hS_, h0_, h1_, h2_, h3_, h4_⟩
             have n0_ : Aside0 (Kd.R (Kd.int .i64) 3 w87 w.heap.size (fun _ => True) v242 t241) := ⟨h0_⟩
             have n1_ : Aside0 (w87.heap[gb231]? = some (.cells #[.slice A0_0 l0_0.length c0_0] 41 (0, 0))) := ⟨h1_⟩
             have n2_ : Aside0 (w87.heap[gb232]? = some (.cells #[.slice A1_0 l1_0.length c1_0] 41 (0, 0))) := ⟨h2_⟩
             have n3_ : Aside0 (w87.heap[gb233]? = some (.cells #[.slice none 0 0] 41 (0, 0))) := ⟨h3_⟩
             have n4_ : Aside0 (Below w.heap.size w w87) := ⟨h4_⟩
             clear BK231
             clear BK232
             clear BK233
             clear HB
             clear h0_ h1_ h2_ h3_ h4_
             have HO243 := n0_
             have BK231 := n1_
             have BK232 := n2_
             have BK233 := n3_
             have HB := n4_
             clear n0_ n1_ n2_ n3_ n4_
             have hHeld : w87.cell? ⟨gb231, 0, none⟩ = some (.slice A0_0 l0_0.length c0_0) ∧ w87.cell? ⟨gb232, 0, none⟩ = some (.slice A1_0 l1_0.length c1_0) := hS_
             refine norm_ (a' := ?_) ?_ ?_
             rotate_left
             ·simp only [putAll, Act.put, List.setIfInBounds_toArray, List.set_cons_zero, List.set_cons_succ]
              rfl
             refine two_ (i := 7) (j := 13) (Ni := some 59) (Nj := some 10) (fl_ 16 8) (fm_ 16 8319) rfl rfl rfl rfl (two_of HT_.out (by kernel_rfl)) (by decide) (by decide) (fun K hK => ?_) (fun K hK => ?_)
             ·skip
              refine go_ Try.func111 #[.slice A1_0 l1_0.length c1_0, .int .i64 a3] ?_
              with_reducible refine (spec_l22Times.calls kj4 _ _ l1_0 a3 t244 _ ?side1 ?side2 A82.out).mono ?_
              (case side1 => exact cs_ HR1_0 HB)
              (case side2 => exact HC1_0.out)
              rintro e w88 ⟨v245, rfl, ho0, hb⟩
              refine ⟨_, rfl, ?_⟩
              have HO246 := Aside0.mk (Kd.R_lower (Kd.R_new' ho0 (Kd.R_lt (kr_ HO243.out))) (below_size (bl_ HB.out)))
              replace HO243 := Aside0.mk (Kd.R_elder' (kr_ HO243.out) (Kd.R_base ho0) hb)
              replace BK231 := bb_ BK231 hb
              replace BK232 := bb_ BK232 hb
              replace BK233 := bb_ BK233 hb
              replace HB := bs_ HB hb
              (try clear hb)
              (try clear hb2)
              (try clear hk)
              (try clear hi)
              (try clear ho0)
              refine hK.out _ _ ⟨(blk_cell BK231.out 0).trans rfl, (blk_cell BK232.out 0).trans rfl⟩ (fun hHeld => ?_)
              clear hK K
              refine no_ 59 ?_
              exact norm_ (by first | (simp only [putAll, Act.put, List.setIfInBounds_toArray, List.set_cons_zero, List.set_cons_succ]; done) | (simp only [putAll, Act.put, List.setIfInBounds_toArray, List.set_cons_zero, List.set_cons_succ]; rfl)) (hJ3_7 (v242, v245) _ ⟨hHeld, (kr_ (Kd.R_mono HO243.out (fun _ hk => hk.2))), (kr_ (Kd.R_mono HO246.out (fun _ hk => hk.2))), (bk_ BK231.out), (bk_ BK232.out), (bk_ BK233.out), (bl_ HB.out)⟩)
             ·skip
              refine box_step ?hg (N := 10) ?hd (cs := #[.slice none 0 0]) (t := 41) ?hr ?_; (case hd => rfl); (case hg => rfl); (case hr => first | (go_simp; done) | (go_simp; rfl))
              intro gb254 hg w88 hbox hb
              replace HO243 := rb_ HO243 hb
              have BK254 := Aside0.mk (hbox)
              have GW254 := ge_ hg HB
              have GE254 := ge_ hg HB
              replace HB := bs_ HB hb
              have NB231_254 := nl_ hg BK231
              have NB254_231 := ng_ hg BK231
              replace BK231 := bb_ BK231 hb
              have NB232_254 := nl_ hg BK232
              have NB254_232 := ng_ hg BK232
              replace BK232 := bb_ BK232 hb
              have NB233_254 := nl_ hg BK233
              have NB254_233 := ng_ hg BK233
              replace BK233 := bb_ BK233 hb
              clear hb hbox hg
              refine hK.out _ _ ⟨(blk_cell BK231.out 0).trans rfl, (blk_cell BK232.out 0).trans rfl⟩ (fun hHeld => ?_)
              clear hK K
              refine no_ 10 ?_
              exact norm_ (by first | (simp only [putAll, Act.put, List.setIfInBounds_toArray, List.set_cons_zero, List.set_cons_succ]; done) | (simp only [putAll, Act.put, List.setIfInBounds_toArray, List.set_cons_zero, List.set_cons_succ]; rfl)) (hJ3_13 (v242, gb254) _ ⟨hHeld, (kr_ HO243.out), (bk_ BK231.out), (bk_ BK232.out), (bk_ BK233.out), (bk_ BK254.out), GW254.out, GE254.out, NB231_254.out, NB254_231.out, NB232_254.out, NB254_232.out, NB233_254.out, NB254_233.out, (bl_ HB.out)⟩)
           ·skip
            rintro ⟨v242, gb254⟩ w88 ⟨hS_, h0_, h1_, h2_, h3_, h4_, h5_, h6_, h7_, h8_, h9_, h10_, h11_, h12_, h13_⟩
            have n0_ : Aside0 (Kd.R (Kd.int .i64) 3 w88 w.heap.size (fun _ => True) v242 t241) := ⟨h0_⟩
            have n1_ : Aside0 (w88.heap[gb231]? = some (.cells #[.slice A0_0 l0_0.length c0_0] 41 (0, 0))) := ⟨h1_⟩
            have n2_ : Aside0 (w88.heap[gb232]? = some (.cells #[.slice A1_0 l1_0.length c1_0] 41 (0, 0))) := ⟨h2_⟩
            have n3_ : Aside0 (w88.heap[gb233]? = some (.cells #[.slice none 0 0] 41 (0, 0))) := ⟨h3_⟩
            have n4_ : Aside0 (w88.heap[gb254]? = some (.cells #[.slice none 0 0] 41 (0, 0))) := ⟨h4_⟩
            have n5_ : Aside0 (w.heap.size ≤ gb254) := ⟨h5_⟩
            have n6_ : Aside0 (w.heap.size ≤ gb254) := ⟨h6_⟩
            have n7_ : Aside0 (gb231 ≠ gb254) := ⟨h7_⟩
            have n8_ : Aside0 (gb254 ≠ gb231) := ⟨h8_⟩
            have n9_ : Aside0 (gb232 ≠ gb254) := ⟨h9_⟩
            have n10_ : Aside0 (gb254 ≠ gb232) := ⟨h10_⟩
            have n11_ : Aside0 (gb233 ≠ gb254) := ⟨h11_⟩
            have n12_ : Aside0 (gb254 ≠ gb233) := ⟨h12_⟩
            have n13_ : Aside0 (Below w.heap.size w w88) := ⟨h13_⟩
            clear BK231
            clear BK232
            clear BK233
            clear HB
            clear h0_ h1_ h2_ h3_ h4_ h5_ h6_ h7_ h8_ h9_ h10_ h11_ h12_ h13_
            have HO243 := n0_
            have BK231 := n1_
            have BK232 := n2_
            have BK233 := n3_
            have BK254 := n4_
            have GW254 := n5_
            have GE254 := n6_
            have NB231_254 := n7_
            have NB254_231 := n8_
            have NB232_254 := n9_
            have NB254_232 := n10_
            have NB233_254 := n11_
            have NB254_233 := n12_
            have HB := n13_
            clear n0_ n1_ n2_ n3_ n4_ n5_ n6_ n7_ n8_ n9_ n10_ n11_ n12_ n13_
            have hHeld : w88.cell? ⟨gb231, 0, none⟩ = some (.slice A0_0 l0_0.length c0_0) ∧ w88.cell? ⟨gb232, 0, none⟩ = some (.slice A1_0 l1_0.length c1_0) := hS_
            refine norm_ (a' := ?_) ?_ ?_
            rotate_left
            ·simp only [putAll, Act.put, List.setIfInBounds_toArray, List.set_cons_zero, List.set_cons_succ]
             rfl
            refine on_ 7 59 (fm_ 16 8447) fun K hK => ?_
            refine go_ Try.func111 #[.slice A1_0 l1_0.length c1_0, .int .i64 a3] ?_
            with_reducible refine (spec_l22Times.calls kj4 _ _ l1_0 a3 t244 _ ?side1 ?side2 A82.out).mono ?_
            (case side1 => exact cs_ HR1_0 HB)
            (case side2 => exact HC1_0.out)
            rintro e w89 ⟨v245, rfl, ho0, hb⟩
            refine ⟨_, rfl, ?_⟩
            have HO246 := Aside0.mk (Kd.R_lower (Kd.R_new' ho0 (Kd.R_lt (kr_ HO243.out))) (below_size (bl_ HB.out)))
            replace HO243 := Aside0.mk (Kd.R_elder' (kr_ HO243.out) (Kd.R_base ho0) hb)
            replace BK231 := bb_ BK231 hb
            replace BK232 := bb_ BK232 hb
            replace BK233 := bb_ BK233 hb
            replace BK254 := bb_ BK254 hb
            replace HB := bs_ HB hb
            (try clear hb)
            (try clear hb2)
            (try clear hk)
            (try clear hi)
            (try clear ho0)
            refine hK.out _ _ ⟨(blk_cell BK231.out 0).trans rfl, (blk_cell BK232.out 0).trans rfl⟩ (fun hHeld => ?_)
            clear hK K
            refine no_ 59 ?_
            exact norm_ (by first | (simp only [putAll, Act.put, List.setIfInBounds_toArray, List.set_cons_zero, List.set_cons_succ]; done) | (simp only [putAll, Act.put, List.setIfInBounds_toArray, List.set_cons_zero, List.set_cons_succ]; rfl)) (hJ3_7_13 (v242, v245, gb254) _ ⟨hHeld, (kr_ (Kd.R_mono HO243.out (fun _ hk => hk.2))), (kr_ (Kd.R_mono HO246.out (fun _ hk => hk.2))), (bk_ BK231.out), (bk_ BK232.out), (bk_ BK233.out), (bk_ BK254.out), GW254.out, GE254.out, NB231_254.out, NB254_231.out, NB232_254.out, NB254_232.out, NB233_254.out, NB254_233.out, (bl_ HB.out)⟩)
          ·skip
           rintro ⟨v242, v245⟩ w88 ⟨hS_, h0_, h1_, h2_, h3_, h4_, h5_⟩
           have n0_ : Aside0 (Kd.R (Kd.int .i64) 3 w88 w.heap.size (fun k_ => some k_ ≠ (v245 : Value).ownBlock) v242 t241) := ⟨h0_⟩
           have n1_ : Aside0 (Kd.R (Kd.int .i64) 3 w88 w.heap.size (fun k_ => some k_ ≠ (v242 : Value).ownBlock) v245 t244) := ⟨h1_⟩
           have n2_ : Aside0 (w88.heap[gb231]? = some (.cells #[.slice A0_0 l0_0.length c0_0] 41 (0, 0))) := ⟨h2_⟩
           have n3_ : Aside0 (w88.heap[gb232]? = some (.cells #[.slice A1_0 l1_0.length c1_0] 41 (0, 0))) := ⟨h3_⟩
           have n4_ : Aside0 (w88.heap[gb233]? = some (.cells #[.slice none 0 0] 41 (0, 0))) := ⟨h4_⟩
           have n5_ : Aside0 (Below w.heap.size w w88) := ⟨h5_⟩
           clear BK231
           clear BK232
           clear BK233
           clear HB
           clear h0_ h1_ h2_ h3_ h4_ h5_
           have HO243 := n0_
           have HO246 := n1_
           have BK231 := n2_
           have BK232 := n3_
           have BK233 := n4_
           have HB := n5_
           clear n0_ n1_ n2_ n3_ n4_ n5_
           have hHeld : w88.cell? ⟨gb231, 0, none⟩ = some (.slice A0_0 l0_0.length c0_0) ∧ w88.cell? ⟨gb232, 0, none⟩ = some (.slice A1_0 l1_0.length c1_0) := hS_
           obtain ⟨Ao90, co90, eo90⟩ := Kd.R_slice HO246.out
           (first | subst eo90 | (injection eo90 with f1_ f2_ f3_; have f4_ := f1_.symm; have f5_ := f3_.symm; clear f1_ f2_ f3_; subst f4_; subst f5_))
           refine norm_ (a' := ?_) ?_ ?_
           rotate_left
           ·simp only [putAll, Act.put, List.setIfInBounds_toArray, List.set_cons_zero, List.set_cons_succ]
            rfl
           refine two_ (i := 8) (j := 13) (Ni := some 60) (Nj := some 10) (fl_ 16 9) (fm_ 16 8447) rfl rfl rfl rfl (two_of HT_.out (by kernel_rfl)) (by decide) (by decide) (fun K hK => ?_) (fun K hK => ?_)
           ·skip
            refine Kd.R_append_rows_step (Kd.int .i64) (w0 := w) w.heap.size (by rfl) (.tmp 55) (.tmp 59) 22 3 (.int .i64 0) 8 rfl Try.underlying22 info3 rfl (by decide) (by omega) v242 t241 t244 _ _ _ (fun k_ => some k_ ≠ (.slice Ao90 t244.length co90 : Value).ownBlock) (fun _ => False) rfl rfl ?aO ?aR (fun _ _ h => h) (fun _ h => h.elim) ?aF ?aB ?aS ?aL ?_
            (case aR => repeat (first | exact (Kd.R_reads' HO246.out).2.2 | (with_reducible refine Kd.C_alloc ?_ _) | (with_reducible refine Kd.C_drewN ?_ _) | (with_reducible refine Kd.C_drew ?_)))
            (case aB => exact (bl_ HB.out))
            (case aF => exact (fun k_ hk => Kd.fresh' (Kd.R_lt (kr_ HO246.out)) k_ hk))
            (case aO => exact (kr_ HO243.out))
            (case aS => exact (below_size (bl_ HB.out)))
            (case aL => have := LMc83.out; omega)
            intro v248 w89 ho hb hg hat
            rw [← Ny247.out] at ho
            have n0_ := Aside0.mk (blk_grown (g := gb231) (o := .cells #[.slice A0_0 l0_0.length c0_0] 41 (0, 0)) (bk_ BK231.out) hg (Kd.R_ne HO243.out BK231.out (by decide)))
            have n1_ := Aside0.mk (blk_grown (g := gb232) (o := .cells #[.slice A1_0 l1_0.length c1_0] 41 (0, 0)) (bk_ BK232.out) hg (Kd.R_ne HO243.out BK232.out (by decide)))
            have n2_ := Aside0.mk (blk_grown (g := gb233) (o := .cells #[.slice none 0 0] 41 (0, 0)) (bk_ BK233.out) hg (Kd.R_ne HO243.out BK233.out (by decide)))
            have n3_ := Aside0.mk (Kd.R_after (ok := (fun _ => True)) (kr_ (Kd.R_mono HO246.out (fun _ hk => ⟨trivial, by first | exact hk | exact SortW.own_len hk⟩))) hg hat)
            have n4_ := Aside0.mk (hb)
            have n5_ := Aside0.mk (ho)
            clear BK231
            clear BK232
            clear BK233
            clear HO246
            clear HB
            clear HO243
            have BK231 := n0_
            have BK232 := n1_
            have BK233 := n2_
            have HO246 := n3_
            have HB := n4_
            have HO249 := n5_
            clear n0_ n1_ n2_ n3_ n4_ n5_
            clear ho hb hg hat
            refine hK.out _ _ ⟨(blk_cell BK231.out 0).trans rfl, (blk_cell BK232.out 0).trans rfl⟩ (fun hHeld => ?_)
            clear hK K
            refine no_ 60 ?_
            exact norm_ (by first | (simp only [putAll, Act.put, List.setIfInBounds_toArray, List.set_cons_zero, List.set_cons_succ]; done) | (simp only [putAll, Act.put, List.setIfInBounds_toArray, List.set_cons_zero, List.set_cons_succ]; rfl)) (hJ3_7_8 (v242, .slice Ao90 t244.length co90, v248) _ ⟨hHeld, (kr_ (Kd.R_mono HO246.out (fun _ hk => hk.2))), (kr_ HO249.out), (bk_ BK231.out), (bk_ BK232.out), (bk_ BK233.out), (bl_ HB.out)⟩)
           ·skip
            refine box_step ?hg (N := 10) ?hd (cs := #[.slice none 0 0]) (t := 41) ?hr ?_; (case hd => rfl); (case hg => rfl); (case hr => first | (go_simp; done) | (go_simp; rfl))
            intro gb254 hg w89 hbox hb
            replace HO243 := rb_ HO243 hb
            replace HO246 := rb_ HO246 hb
            have BK254 := Aside0.mk (hbox)
            have GW254 := ge_ hg HB
            have GE254 := ge_ hg HB
            replace HB := bs_ HB hb
            have NB231_254 := nl_ hg BK231
            have NB254_231 := ng_ hg BK231
            replace BK231 := bb_ BK231 hb
            have NB232_254 := nl_ hg BK232
            have NB254_232 := ng_ hg BK232
            replace BK232 := bb_ BK232 hb
            have NB233_254 := nl_ hg BK233
            have NB254_233 := ng_ hg BK233
            replace BK233 := bb_ BK233 hb
            clear hb hbox hg
            refine hK.out _ _ ⟨(blk_cell BK231.out 0).trans rfl, (blk_cell BK232.out 0).trans rfl⟩ (fun hHeld => ?_)
            clear hK K
            refine no_ 10 ?_
            exact norm_ (by first | (simp only [putAll, Act.put, List.setIfInBounds_toArray, List.set_cons_zero, List.set_cons_succ]; done) | (simp only [putAll, Act.put, List.setIfInBounds_toArray, List.set_cons_zero, List.set_cons_succ]; rfl)) (hJ3_7_13 (v242, .slice Ao90 t244.length co90, gb254) _ ⟨hHeld, (kr_ HO243.out), (kr_ HO246.out), (bk_ BK231.out), (bk_ BK232.out), (bk_ BK233.out), (bk_ BK254.out), GW254.out, GE254.out, NB231_254.out, NB254_231.out, NB232_254.out, NB254_232.out, NB233_254.out, NB254_233.out, (bl_ HB.out)⟩)
         ·skip
          rintro ⟨v242, v245, gb254⟩ w89 ⟨hS_, h0_, h1_, h2_, h3_, h4_, h5_, h6_, h7_, h8_, h9_, h10_, h11_, h12_, h13_, h14_⟩
          have n0_ : Aside0 (Kd.R (Kd.int .i64) 3 w89 w.heap.size (fun k_ => some k_ ≠ (v245 : Value).ownBlock) v242 t241) := ⟨h0_⟩
          have n1_ : Aside0 (Kd.R (Kd.int .i64) 3 w89 w.heap.size (fun k_ => some k_ ≠ (v242 : Value).ownBlock) v245 t244) := ⟨h1_⟩
          have n2_ : Aside0 (w89.heap[gb231]? = some (.cells #[.slice A0_0 l0_0.length c0_0] 41 (0, 0))) := ⟨h2_⟩
          have n3_ : Aside0 (w89.heap[gb232]? = some (.cells #[.slice A1_0 l1_0.length c1_0] 41 (0, 0))) := ⟨h3_⟩
          have n4_ : Aside0 (w89.heap[gb233]? = some (.cells #[.slice none 0 0] 41 (0, 0))) := ⟨h4_⟩
          have n5_ : Aside0 (w89.heap[gb254]? = some (.cells #[.slice none 0 0] 41 (0, 0))) := ⟨h5_⟩
          have n6_ : Aside0 (w.heap.size ≤ gb254) := ⟨h6_⟩
          have n7_ : Aside0 (w.heap.size ≤ gb254) := ⟨h7_⟩
          have n8_ : Aside0 (gb231 ≠ gb254) := ⟨h8_⟩
          have n9_ : Aside0 (gb254 ≠ gb231) := ⟨h9_⟩
          have n10_ : Aside0 (gb232 ≠ gb254) := ⟨h10_⟩
          have n11_ : Aside0 (gb254 ≠ gb232) := ⟨h11_⟩
          have n12_ : Aside0 (gb233 ≠ gb254) := ⟨h12_⟩
          have n13_ : Aside0 (gb254 ≠ gb233) := ⟨h13_⟩
          have n14_ : Aside0 (Below w.heap.size w w89) := ⟨h14_⟩
          clear BK231
          clear BK232
          clear BK233
          clear HB
          clear h0_ h1_ h2_ h3_ h4_ h5_ h6_ h7_ h8_ h9_ h10_ h11_ h12_ h13_ h14_
          have HO243 := n0_
          have HO246 := n1_
          have BK231 := n2_
          have BK232 := n3_
          have BK233 := n4_
          have BK254 := n5_
          have GW254 := n6_
          have GE254 := n7_
          have NB231_254 := n8_
          have NB254_231 := n9_
          have NB232_254 := n10_
          have NB254_232 := n11_
          have NB233_254 := n12_
          have NB254_233 := n13_
          have HB := n14_
          clear n0_ n1_ n2_ n3_ n4_ n5_ n6_ n7_ n8_ n9_ n10_ n11_ n12_ n13_ n14_
          have hHeld : w89.cell? ⟨gb231, 0, none⟩ = some (.slice A0_0 l0_0.length c0_0) ∧ w89.cell? ⟨gb232, 0, none⟩ = some (.slice A1_0 l1_0.length c1_0) := hS_
          obtain ⟨Ao91, co91, eo91⟩ := Kd.R_slice HO246.out
          (first | subst eo91 | (injection eo91 with f1_ f2_ f3_; have f4_ := f1_.symm; have f5_ := f3_.symm; clear f1_ f2_ f3_; subst f4_; subst f5_))
          refine norm_ (a' := ?_) ?_ ?_
          rotate_left
          ·simp only [putAll, Act.put, List.setIfInBounds_toArray, List.set_cons_zero, List.set_cons_succ]
           rfl
          refine on_ 8 60 (fm_ 16 8703) fun K hK => ?_
          refine Kd.R_append_rows_step (Kd.int .i64) (w0 := w) w.heap.size (by rfl) (.tmp 55) (.tmp 59) 22 3 (.int .i64 0) 8 rfl Try.underlying22 info3 rfl (by decide) (by omega) v242 t241 t244 _ _ _ (fun k_ => some k_ ≠ (.slice Ao91 t244.length co91 : Value).ownBlock) (fun _ => False) rfl rfl ?aO ?aR (fun _ _ h => h) (fun _ h => h.elim) ?aF ?aB ?aS ?aL ?_
          (case aR => repeat (first | exact (Kd.R_reads' HO246.out).2.2 | (with_reducible refine Kd.C_alloc ?_ _) | (with_reducible refine Kd.C_drewN ?_ _) | (with_reducible refine Kd.C_drew ?_)))
          (case aB => exact (bl_ HB.out))
          (case aF => exact (fun k_ hk => Kd.fresh' (Kd.R_lt (kr_ HO246.out)) k_ hk))
          (case aO => exact (kr_ HO243.out))
          (case aS => exact (below_size (bl_ HB.out)))
          (case aL => have := LMc83.out; omega)
          intro v248 w90 ho hb hg hat
          rw [← Ny247.out] at ho
          have n0_ := Aside0.mk (blk_grown (g := gb231) (o := .cells #[.slice A0_0 l0_0.length c0_0] 41 (0, 0)) (bk_ BK231.out) hg (Kd.R_ne HO243.out BK231.out (by decide)))
          have n1_ := Aside0.mk (blk_grown (g := gb232) (o := .cells #[.slice A1_0 l1_0.length c1_0] 41 (0, 0)) (bk_ BK232.out) hg (Kd.R_ne HO243.out BK232.out (by decide)))
          have n2_ := Aside0.mk (blk_grown (g := gb233) (o := .cells #[.slice none 0 0] 41 (0, 0)) (bk_ BK233.out) hg (Kd.R_ne HO243.out BK233.out (by decide)))
          have n3_ := Aside0.mk (Kd.R_after (ok := (fun _ => True)) (kr_ (Kd.R_mono HO246.out (fun _ hk => ⟨trivial, by first | exact hk | exact SortW.own_len hk⟩))) hg hat)
          have n4_ := Aside0.mk (blk_grown (g := gb254) (o := .cells #[.slice none 0 0] 41 (0, 0)) (bk_ BK254.out) hg (Kd.R_ne HO243.out BK254.out (by decide)))
          have n5_ := Aside0.mk (hb)
          have n6_ := Aside0.mk (ho)
          clear BK231
          clear BK232
          clear BK233
          clear HO246
          clear BK254
          clear HB
          clear HO243
          have BK231 := n0_
          have BK232 := n1_
          have BK233 := n2_
          have HO246 := n3_
          have BK254 := n4_
          have HB := n5_
          have HO249 := n6_
          clear n0_ n1_ n2_ n3_ n4_ n5_ n6_
          clear ho hb hg hat
          refine hK.out _ _ ⟨(blk_cell BK231.out 0).trans rfl, (blk_cell BK232.out 0).trans rfl⟩ (fun hHeld => ?_)
          clear hK K
          refine no_ 60 ?_
          exact norm_ (by first | (simp only [putAll, Act.put, List.setIfInBounds_toArray, List.set_cons_zero, List.set_cons_succ]; done) | (simp only [putAll, Act.put, List.setIfInBounds_toArray, List.set_cons_zero, List.set_cons_succ]; rfl)) (hJ3_7_8_13 (v242, .slice Ao91 t244.length co91, v248, gb254) _ ⟨hHeld, (kr_ (Kd.R_mono HO246.out (fun _ hk => hk.2))), (kr_ HO249.out), (bk_ BK231.out), (bk_ BK232.out), (bk_ BK233.out), (bk_ BK254.out), GW254.out, GE254.out, NB231_254.out, NB254_231.out, NB232_254.out, NB254_232.out, NB233_254.out, NB254_233.out, (bl_ HB.out)⟩)
        ·skip
         rintro ⟨v242, v245, v248⟩ w90 ⟨hS_, h0_, h1_, h2_, h3_, h4_, h5_⟩
         have n0_ : Aside0 (Kd.R (Kd.int .i64) 3 w90 w.heap.size (fun k_ => some k_ ≠ (v248 : Value).ownBlock) v245 t244) := ⟨h0_⟩
         have n1_ : Aside0 (Kd.R (Kd.int .i64) 3 w90 w.heap.size (fun k_ => some k_ ≠ (v245 : Value).ownBlock) v248 y247) := ⟨h1_⟩
         have n2_ : Aside0 (w90.heap[gb231]? = some (.cells #[.slice A0_0 l0_0.length c0_0] 41 (0, 0))) := ⟨h2_⟩
         have n3_ : Aside0 (w90.heap[gb232]? = some (.cells #[.slice A1_0 l1_0.length c1_0] 41 (0, 0))) := ⟨h3_⟩
         have n4_ : Aside0 (w90.heap[gb233]? = some (.cells #[.slice none 0 0] 41 (0, 0))) := ⟨h4_⟩
         have n5_ : Aside0 (Below w.heap.size w w90) := ⟨h5_⟩
         clear BK231
         clear BK232
         clear BK233
         clear HB
         clear h0_ h1_ h2_ h3_ h4_ h5_
         have HO246 := n0_
         have HO249 := n1_
         have BK231 := n2_
         have BK232 := n3_
         have BK233 := n4_
         have HB := n5_
         clear n0_ n1_ n2_ n3_ n4_ n5_
         have hHeld : w90.cell? ⟨gb231, 0, none⟩ = some (.slice A0_0 l0_0.length c0_0) ∧ w90.cell? ⟨gb232, 0, none⟩ = some (.slice A1_0 l1_0.length c1_0) := hS_
         obtain ⟨Ao91, co91, eo91⟩ := Kd.R_slice HO249.out
         (first | subst eo91 | (injection eo91 with f1_ f2_ f3_; have f4_ := f1_.symm; have f5_ := f3_.symm; clear f1_ f2_ f3_; subst f4_; subst f5_))
         refine norm_ (a' := ?_) ?_ ?_
         rotate_left
         ·simp only [putAll, Act.put, List.setIfInBounds_toArray, List.set_cons_zero, List.set_cons_succ]
          rfl
         refine two_ (i := 9) (j := 13) (Ni := some 61) (Nj := some 10) (fl_ 16 10) (fm_ 16 8703) rfl rfl rfl rfl (two_of HT_.out (by kernel_rfl)) (by decide) (by decide) (fun K hK => ?_) (fun K hK => ?_)
         ·skip
          refine go_ Try.func74 #[.slice Ao91 y247.length co91] ?_
          with_reducible refine (spec_FromGens.calls kj4 _ _ y247 t250 t253 _ ?side1 ?side2 A84.out).mono ?_
          (case side1 => exact rs_ HO249)
          (case side2 => exact (Kd.R_reads' HO249.out).2.1)
          rintro e w92 ⟨v251, rfl, ho0, hb⟩
          refine ⟨_, rfl, ?_⟩
          have HO252 := Aside0.mk (Kd.R_lower (Kd.R_new' (Kd.R_new' ho0 (Kd.R_lt (kr_ HO246.out))) (Kd.R_lt (kr_ HO249.out))) (below_size (bl_ HB.out)))
          replace HO246 := Aside0.mk (Kd.R_elder' (kr_ HO246.out) (Kd.R_base ho0) hb)
          replace HO249 := Aside0.mk (Kd.R_elder' (kr_ HO249.out) (Kd.R_base ho0) hb)
          replace BK231 := bb_ BK231 hb
          replace BK232 := bb_ BK232 hb
          replace BK233 := bb_ BK233 hb
          replace HB := bs_ HB hb
          (try clear hb)
          (try clear hb2)
          (try clear hk)
          (try clear hi)
          (try clear ho0)
          refine hK.out _ _ ⟨(blk_cell BK231.out 0).trans rfl, (blk_cell BK232.out 0).trans rfl⟩ (fun hHeld => ?_)
          clear hK K
          refine no_ 61 ?_
          refine pu_ 10 51 (fl_ 16 11) ?_
          refine pu_ 11 62 (fl_ 16 12) ?_
          refine pu_ 12 63 (fl_ 16 13) ?_
          exact norm_ (by first | (simp only [putAll, Act.put, List.setIfInBounds_toArray, List.set_cons_zero, List.set_cons_succ]; done) | (simp only [putAll, Act.put, List.setIfInBounds_toArray, List.set_cons_zero, List.set_cons_succ]; rfl)) (hJ3_7_8_9 (v242, v245, .slice Ao91 y247.length co91, v251) _ ⟨hHeld, (kr_ HO246.out), (kr_ HO249.out), (kr_ (Kd.R_mono HO252.out (fun _ hk => ⟨hk.1.2, hk.2⟩))), (bk_ BK231.out), (bk_ BK232.out), (bk_ BK233.out), (bl_ HB.out)⟩)
         ·skip
          refine box_step ?hg (N := 10) ?hd (cs := #[.slice none 0 0]) (t := 41) ?hr ?_; (case hd => rfl); (case hg => rfl); (case hr => first | (go_simp; done) | (go_simp; rfl))
          intro gb254 hg w91 hbox hb
          replace HO246 := rb_ HO246 hb
          replace HO249 := rb_ HO249 hb
          have BK254 := Aside0.mk (hbox)
          have GW254 := ge_ hg HB
          have GE254 := ge_ hg HB
          replace HB := bs_ HB hb
          have NB231_254 := nl_ hg BK231
          have NB254_231 := ng_ hg BK231
          replace BK231 := bb_ BK231 hb
          have NB232_254 := nl_ hg BK232
          have NB254_232 := ng_ hg BK232
          replace BK232 := bb_ BK232 hb
          have NB233_254 := nl_ hg BK233
          have NB254_233 := ng_ hg BK233
          replace BK233 := bb_ BK233 hb
          clear hb hbox hg
          refine hK.out _ _ ⟨(blk_cell BK231.out 0).trans rfl, (blk_cell BK232.out 0).trans rfl⟩ (fun hHeld => ?_)
          clear hK K
          refine no_ 10 ?_
          exact norm_ (by first | (simp only [putAll, Act.put, List.setIfInBounds_toArray, List.set_cons_zero, List.set_cons_succ]; done) | (simp only [putAll, Act.put, List.setIfInBounds_toArray, List.set_cons_zero, List.set_cons_succ]; rfl)) (hJ3_7_8_13 (v242, v245, .slice Ao91 y247.length co91, gb254) _ ⟨hHeld, (kr_ HO246.out), (kr_ HO249.out), (bk_ BK231.out), (bk_ BK232.out), (bk_ BK233.out), (bk_ BK254.out), GW254.out, GE254.out, NB231_254.out, NB254_231.out, NB232_254.out, NB254_232.out, NB233_254.out, NB254_233.out, (bl_ HB.out)⟩)
       ·skip
        rintro ⟨v242, v245, v248, gb254⟩ w91 ⟨hS_, h0_, h1_, h2_, h3_, h4_, h5_, h6_, h7_, h8_, h9_, h10_, h11_, h12_, h13_, h14_⟩
        have n0_ : Aside0 (Kd.R (Kd.int .i64) 3 w91 w.heap.size (fun k_ => some k_ ≠ (v248 : Value).ownBlock) v245 t244) := ⟨h0_⟩
        have n1_ : Aside0 (Kd.R (Kd.int .i64) 3 w91 w.heap.size (fun k_ => some k_ ≠ (v245 : Value).ownBlock) v248 y247) := ⟨h1_⟩
        have n2_ : Aside0 (w91.heap[gb231]? = some (.cells #[.slice A0_0 l0_0.length c0_0] 41 (0, 0))) := ⟨h2_⟩
        have n3_ : Aside0 (w91.heap[gb232]? = some (.cells #[.slice A1_0 l1_0.length c1_0] 41 (0, 0))) := ⟨h3_⟩
        have n4_ : Aside0 (w91.heap[gb233]? = some (.cells #[.slice none 0 0] 41 (0, 0))) := ⟨h4_⟩
        have n5_ : Aside0 (w91.heap[gb254]? = some (.cells #[.slice none 0 0] 41 (0, 0))) := ⟨h5_⟩
        have n6_ : Aside0 (w.heap.size ≤ gb254) := ⟨h6_⟩
        have n7_ : Aside0 (w.heap.size ≤ gb254) := ⟨h7_⟩
        have n8_ : Aside0 (gb231 ≠ gb254) := ⟨h8_⟩
        have n9_ : Aside0 (gb254 ≠ gb231) := ⟨h9_⟩
        have n10_ : Aside0 (gb232 ≠ gb254) := ⟨h10_⟩
        have n11_ : Aside0 (gb254 ≠ gb232) := ⟨h11_⟩
        have n12_ : Aside0 (gb233 ≠ gb254) := ⟨h12_⟩
        have n13_ : Aside0 (gb254 ≠ gb233) := ⟨h13_⟩
        have n14_ : Aside0 (Below w.heap.size w w91) := ⟨h14_⟩
        clear BK231
        clear BK232
        clear BK233
        clear HB
        clear h0_ h1_ h2_ h3_ h4_ h5_ h6_ h7_ h8_ h9_ h10_ h11_ h12_ h13_ h14_
        have HO246 := n0_
        have HO249 := n1_
        have BK231 := n2_
        have BK232 := n3_
        have BK233 := n4_
        have BK254 := n5_
        have GW254 := n6_
        have GE254 := n7_
        have NB231_254 := n8_
        have NB254_231 := n9_
        have NB232_254 := n10_
        have NB254_232 := n11_
        have NB233_254 := n12_
        have NB254_233 := n13_
        have HB := n14_
        clear n0_ n1_ n2_ n3_ n4_ n5_ n6_ n7_ n8_ n9_ n10_ n11_ n12_ n13_ n14_
        have hHeld : w91.cell? ⟨gb231, 0, none⟩ = some (.slice A0_0 l0_0.length c0_0) ∧ w91.cell? ⟨gb232, 0, none⟩ = some (.slice A1_0 l1_0.length c1_0) := hS_
        obtain ⟨Ao92, co92, eo92⟩ := Kd.R_slice HO249.out
        (first | subst eo92 | (injection eo92 with f1_ f2_ f3_; have f4_ := f1_.symm; have f5_ := f3_.symm; clear f1_ f2_ f3_; subst f4_; subst f5_))
        refine norm_ (a' := ?_) ?_ ?_
        rotate_left
        ·simp only [putAll, Act.put, List.setIfInBounds_toArray, List.set_cons_zero, List.set_cons_succ]
         rfl
        refine on_ 9 61 (fm_ 16 9215) fun K hK => ?_
        refine go_ Try.func74 #[.slice Ao92 y247.length co92] ?_
        with_reducible refine (spec_FromGens.calls kj4 _ _ y247 t250 t253 _ ?side1 ?side2 A84.out).mono ?_
        (case side1 => exact rs_ HO249)
        (case side2 => exact (Kd.R_reads' HO249.out).2.1)
        rintro e w93 ⟨v251, rfl, ho0, hb⟩
        refine ⟨_, rfl, ?_⟩
        have HO252 := Aside0.mk (Kd.R_lower (Kd.R_new' (Kd.R_new' ho0 (Kd.R_lt (kr_ HO246.out))) (Kd.R_lt (kr_ HO249.out))) (below_size (bl_ HB.out)))
        replace HO246 := Aside0.mk (Kd.R_elder' (kr_ HO246.out) (Kd.R_base ho0) hb)
        replace HO249 := Aside0.mk (Kd.R_elder' (kr_ HO249.out) (Kd.R_base ho0) hb)
        replace BK231 := bb_ BK231 hb
        replace BK232 := bb_ BK232 hb
        replace BK233 := bb_ BK233 hb
        replace BK254 := bb_ BK254 hb
        replace HB := bs_ HB hb
        (try clear hb)
        (try clear hb2)
        (try clear hk)
        (try clear hi)
        (try clear ho0)
        refine hK.out _ _ ⟨(blk_cell BK231.out 0).trans rfl, (blk_cell BK232.out 0).trans rfl⟩ (fun hHeld => ?_)
        clear hK K
        refine no_ 61 ?_
        refine pu_ 10 51 (fm_ 16 10239) ?_
        refine pu_ 11 62 (fm_ 16 12287) ?_
        refine pu_ 12 63 (fl_ 16 14) ?_
        exact norm_ (by first | (simp only [putAll, Act.put, List.setIfInBounds_toArray, List.set_cons_zero, List.set_cons_succ]; done) | (simp only [putAll, Act.put, List.setIfInBounds_toArray, List.set_cons_zero, List.set_cons_succ]; rfl)) (hJ3_7_8_9_13 (v242, v245, .slice Ao92 y247.length co92, v251, gb254) _ ⟨hHeld, (kr_ HO246.out), (kr_ HO249.out), (kr_ (Kd.R_mono HO252.out (fun _ hk => ⟨hk.1.2, hk.2⟩))), (bk_ BK231.out), (bk_ BK232.out), (bk_ BK233.out), (bk_ BK254.out), GW254.out, GE254.out, NB231_254.out, NB254_231.out, NB232_254.out, NB254_232.out, NB233_254.out, NB254_233.out, (bl_ HB.out)⟩)
      ·skip
       rintro ⟨v242, v245, v248, v251⟩ w92 ⟨hS_, h0_, h1_, h2_, h3_, h4_, h5_, h6_⟩
       have n0_ : Aside0 (Kd.R (Kd.int .i64) 3 w92 w.heap.size (fun k_ => some k_ ≠ (v248 : Value).ownBlock ∧ some k_ ≠ (v251 : Value).ownBlock) v245 t244) := ⟨h0_⟩
       have n1_ : Aside0 (Kd.R (Kd.int .i64) 3 w92 w.heap.size (fun k_ => some k_ ≠ (v245 : Value).ownBlock ∧ some k_ ≠ (v251 : Value).ownBlock) v248 y247) := ⟨h1_⟩
       have n2_ : Aside0 (Kd.R (Kd.int .i64) 3 w92 w.heap.size (fun k_ => some k_ ≠ (v245 : Value).ownBlock ∧ some k_ ≠ (v248 : Value).ownBlock) v251 t250) := ⟨h2_⟩
       have n3_ : Aside0 (w92.heap[gb231]? = some (.cells #[.slice A0_0 l0_0.length c0_0] 41 (0, 0))) := ⟨h3_⟩
       have n4_ : Aside0 (w92.heap[gb232]? = some (.cells #[.slice A1_0 l1_0.length c1_0] 41 (0, 0))) := ⟨h4_⟩
       have n5_ : Aside0 (w92.heap[gb233]? = some (.cells #[.slice none 0 0] 41 (0, 0))) := ⟨h5_⟩
       have n6_ : Aside0 (Below w.heap.size w w92) := ⟨h6_⟩
       clear BK231
       clear BK232
       clear BK233
       clear HB
       clear h0_ h1_ h2_ h3_ h4_ h5_ h6_
       have HO246 := n0_
       have HO249 := n1_
       have HO252 := n2_
       have BK231 := n3_
       have BK232 := n4_
       have BK233 := n5_
       have HB := n6_
       clear n0_ n1_ n2_ n3_ n4_ n5_ n6_
       have hHeld : w92.cell? ⟨gb231, 0, none⟩ = some (.slice A0_0 l0_0.length c0_0) ∧ w92.cell? ⟨gb232, 0, none⟩ = some (.slice A1_0 l1_0.length c1_0) := hS_
       refine norm_ (a' := ?_) ?_ ?_
       rotate_left
       ·simp only [putAll, Act.put, List.setIfInBounds_toArray, List.set_cons_zero, List.set_cons_succ]
        rfl
       refine on_ 13 10 (fl_ 16 14) fun K hK => ?_
       refine box_step ?hg (N := 10) ?hd (cs := #[.slice none 0 0]) (t := 41) ?hr ?_; (case hd => rfl); (case hg => rfl); (case hr => first | (go_simp; done) | (go_simp; rfl))
       intro gb254 hg w93 hbox hb
       replace HO246 := rb_ HO246 hb
       replace HO249 := rb_ HO249 hb
       replace HO252 := rb_ HO252 hb
       have BK254 := Aside0.mk (hbox)
       have GW254 := ge_ hg HB
       have GE254 := ge_ hg HB
       replace HB := bs_ HB hb
       have NB231_254 := nl_ hg BK231
       have NB254_231 := ng_ hg BK231
       replace BK231 := bb_ BK231 hb
       have NB232_254 := nl_ hg BK232
       have NB254_232 := ng_ hg BK232
       replace BK232 := bb_ BK232 hb
       have NB233_254 := nl_ hg BK233
       have NB254_233 := ng_ hg BK233
       replace BK233 := bb_ BK233 hb
       clear hb hbox hg
       refine hK.out _ _ ⟨(blk_cell BK231.out 0).trans rfl, (blk_cell BK232.out 0).trans rfl⟩ (fun hHeld => ?_)
       clear hK K
       refine no_ 10 ?_
       exact norm_ (by first | (simp only [putAll, Act.put, List.setIfInBounds_toArray, List.set_cons_zero, List.set_cons_succ]; done) | (simp only [putAll, Act.put, List.setIfInBounds_toArray, List.set_cons_zero, List.set_cons_succ]; rfl)) (hJ3_7_8_9_13 (v242, v245, v248, v251, gb254) _ ⟨hHeld, (kr_ HO246.out), (kr_ HO249.out), (kr_ HO252.out), (bk_ BK231.out), (bk_ BK232.out), (bk_ BK233.out), (bk_ BK254.out), GW254.out, GE254.out, NB231_254.out, NB254_231.out, NB232_254.out, NB254_232.out, NB233_254.out, NB254_233.out, (bl_ HB.out)⟩)
     rintro ⟨v242, v245, v248, v251, gb254⟩ w93 ⟨hS_, h0_, h1_, h2_, h3_, h4_, h5_, h6_, h7_, h8_, h9_, h10_, h11_, h12_, h13_, h14_, h15_⟩
     have n0_ : Aside0 (Kd.R (Kd.int .i64) 3 w93 w.heap.size (fun k_ => some k_ ≠ (v248 : Value).ownBlock ∧ some k_ ≠ (v251 : Value).ownBlock) v245 t244) := ⟨h0_⟩
     have n1_ : Aside0 (Kd.R (Kd.int .i64) 3 w93 w.heap.size (fun k_ => some k_ ≠ (v245 : Value).ownBlock ∧ some k_ ≠ (v251 : Value).ownBlock) v248 y247) := ⟨h1_⟩
     have n2_ : Aside0 (Kd.R (Kd.int .i64) 3 w93 w.heap.size (fun k_ => some k_ ≠ (v245 : Value).ownBlock ∧ some k_ ≠ (v248 : Value).ownBlock) v251 t250) := ⟨h2_⟩
     have n3_ : Aside0 (w93.heap[gb231]? = some (.cells #[.slice A0_0 l0_0.length c0_0] 41 (0, 0))) := ⟨h3_⟩
     have n4_ : Aside0 (w93.heap[gb232]? = some (.cells #[.slice A1_0 l1_0.length c1_0] 41 (0, 0))) := ⟨h4_⟩
     have n5_ : Aside0 (w93.heap[gb233]? = some (.cells #[.slice none 0 0] 41 (0, 0))) := ⟨h5_⟩
     have n6_ : Aside0 (w93.heap[gb254]? = some (.cells #[.slice none 0 0] 41 (0, 0))) := ⟨h6_⟩
     have n7_ : Aside0 (w.heap.size ≤ gb254) := ⟨h7_⟩
     have n8_ : Aside0 (w.heap.size ≤ gb254) := ⟨h8_⟩
     have n9_ : Aside0 (gb231 ≠ gb254) := ⟨h9_⟩
     have n10_ : Aside0 (gb254 ≠ gb231) := ⟨h10_⟩
     have n11_ : Aside0 (gb232 ≠ gb254) := ⟨h11_⟩
     have n12_ : Aside0 (gb254 ≠ gb232) := ⟨h12_⟩
     have n13_ : Aside0 (gb233 ≠ gb254) := ⟨h13_⟩
     have n14_ : Aside0 (gb254 ≠ gb233) := ⟨h14_⟩
     have n15_ : Aside0 (Below w.heap.size w w93) := ⟨h15_⟩
     clear BK231
     clear BK232
     clear BK233
     clear HB
     clear h0_ h1_ h2_ h3_ h4_ h5_ h6_ h7_ h8_ h9_ h10_ h11_ h12_ h13_ h14_ h15_
     have HO246 := n0_
     have HO249 := n1_
     have HO252 := n2_
     have BK231 := n3_
     have BK232 := n4_
     have BK233 := n5_
     have BK254 := n6_
     have GW254 := n7_
     have GE254 := n8_
     have NB231_254 := n9_
     have NB254_231 := n10_
     have NB232_254 := n11_
     have NB254_232 := n12_
     have NB233_254 := n13_
     have NB254_233 := n14_
     have HB := n15_
     clear n0_ n1_ n2_ n3_ n4_ n5_ n6_ n7_ n8_ n9_ n10_ n11_ n12_ n13_ n14_ n15_
     have hHeld : w93.cell? ⟨gb231, 0, none⟩ = some (.slice A0_0 l0_0.length c0_0) ∧ w93.cell? ⟨gb232, 0, none⟩ = some (.slice A1_0 l1_0.length c1_0) := hS_
     obtain ⟨Ao94, co94, eo94⟩ := Kd.R_slice HO252.out
     (first | subst eo94 | (injection eo94 with f1_ f2_ f3_; have f4_ := f1_.symm; have f5_ := f3_.symm; clear f1_ f2_ f3_; subst f4_; subst f5_))
     refine norm_ (a' := ?_) ?_ ?_
     rotate_left
     ·simp only [putAll, Act.put, List.setIfInBounds_toArray, List.set_cons_zero, List.set_cons_succ]
      rfl
     refine one_ (i := 14) (N := none) (fl_ 16 15) rfl rfl (one_of HT_.out (by kernel_rfl)) (by decide) (fun K hK => ?_)
     have hs95 : w93.cell? ⟨gb254, 0, none⟩ = some (.slice none 0 0) := (blk_cell BK254.out 0).trans rfl
     have hfs95 := blk_frozen BK254.out 0
     have hns95_0 := NB231_254.out
     have hns95_1 := NB232_254.out
     have hns95_2 := NB233_254.out
     have hms95_0 := NB254_231.out
     have hms95_1 := NB254_232.out
     have hms95_2 := NB254_233.out
     refine skip_ (w1 := ?_) (by rfl) rfl ?_ ?_
     rotate_left
     ·go_simp
      rfl
     refine hK.out _ _ ⟨((cell_far (p := ⟨gb254, _, none⟩) NB231_254.out _).trans (hHeld.1)), ((cell_far (p := ⟨gb254, _, none⟩) NB232_254.out _).trans (hHeld.2))⟩ (fun hHeld => ?_)
     clear hK K
     refine pu_ 15 11 (fl_ 16 16) ?_
     refine done_ (done_of HT_.out (by kernel_rfl)) ?_
     have hnb96 := NB254_231.out
     have hnc96 := NB231_254.out
     have hnb97 := NB254_232.out
     have hnc97 := NB232_254.out
     have hnb98 := NB254_233.out
     have hnc98 := NB233_254.out
     have hcz99_0 := bc_ BK254
     have hfz99_0 := blk_frozen BK254.out 0
     have hnb100 := NB233_231.out
     have hnc100 := NB231_233.out
     have hnb101 := NB233_232.out
     have hnc101 := NB232_233.out
     have hcz102_0 := bc_ BK233
     have hfz102_0 := blk_frozen BK233.out 0
     try go_wp2
     refine bodyPost_ret (results_ct rfl _ _ gb233 41 #[.slice Ao94 t250.length co94] (0, 0) _ rfl (by (with_reducible repeat (first | refine blk_drewN ?_ _ | refine blk_drew ?_ | refine blk_alloc ?_ _)); refine blk_put (cs := #[.slice none 0 0]) ?_ 0 _ rfl; (with_reducible repeat (first | refine blk_drewN ?_ _ | refine blk_drew ?_ | refine blk_alloc ?_ _)); refine blk_far ?_ NB233_254.out _; (with_reducible repeat (first | refine blk_drewN ?_ _ | refine blk_drew ?_ | refine blk_alloc ?_ _)); exact BK233.out) Try.underlying41 rfl (by kernel_rfl)) rfl ?_
     exact ⟨_, er_, kr_ (Kd.R_mono (Kd.R_far (p := ⟨gb233, 0, none⟩) (Kd.R_far (p := ⟨gb254, 0, none⟩) (Kd.R_types (Kd.R_types HO252.out BK254.out (by decide)) BK233.out (by decide)) (fun _ hk => hk.1.2) (.slice Ao94 t250.length co94)) (fun _ hk => hk.2) (.slice Ao94 t250.length co94)) (fun _ hk => trivial)), bl_ HB.out⟩
    ·rw [if_neg c83] at H
     exact absurd H (by simp)
def impl_within.f (a0 : Int) (a1 : Int) (a2 : Int) : Option (Bool) := if a0 ≥ a1 then (some (decide (a0 ≤ a2))) else (some false)
theorem impl_within.calls (a0 : Int) (a1 : Int) (a2 : Int) (r : Bool) (w : World) (h : impl_within.f a0 a1 a2 = some r) :
 Calls Try.prog 77 #[.int .i64 a0, .int .i64 a1, .int .i64 a2] w fun e w' => e = .returned (.bool r) ∧ Drawn0 w w' := by
 have H := h
 clear h
 unfold impl_within.f at H
 by_cases c4 : a0 ≥ a1
 ·rw [if_pos c4] at H
  have c4b0 : decide (a1 ≤ a0) = true := decide_eq_true c4
  clear c4
  obtain rfl := Option.some.inj H
  go_enter Try.func77, Try.ntmps77
  go_wp2
  go_ret
  exact ⟨sd_, dr_⟩
 ·rw [if_neg c4] at H
  have c4b0 : decide (a1 ≤ a0) = false := decide_eq_false c4
  clear c4
  obtain rfl := Option.some.inj H
  go_enter Try.func77, Try.ntmps77
  go_wp2
  go_ret
  exact ⟨sd_, dr_⟩
def impl_allWithin.l0 : Nat → Int → Int → List Int → Int → Int → Option (Bool)
 | 0, _, _, _, _, _ => none
 | k + 1, x1, x2, x9, x10, x11 => if x11 < x10 then (if 0 ≤ x11 then (if x11 < (x9.length : Int) then ((impl_within.f (rd x9 x11) x1 x2).bind fun t256 => (if t256 = true then (impl_allWithin.l0 k x1 x2 x9 x10 (wrap64 (x11 + 1))) else (some false))) else (none)) else (none)) else (some true)
def impl_allWithin.f (k : Nat) (l0 : List Int) (a1 : Int) (a2 : Int) : Option (Bool) := impl_allWithin.l0 k a1 a2 l0 (l0.length : Int) 0
theorem impl_allWithin.calls (k : Nat) (A0 : Option Addr) (c0 : Nat) (l0 : List Int) (a1 : Int) (a2 : Int) (r : Bool) (w : World) (hr0 : Kd.C (Kd.int .i64) w A0 l0.length l0) (hc0 : l0.length ≤ c0) (h : impl_allWithin.f k l0 a1 a2 = some r) :
 Calls Try.prog 88 #[.slice A0 l0.length c0, .int .i64 a1, .int .i64 a2] w fun e w' => e = .returned (.bool r) ∧ Drawn0 w w' := by
 have HR0 := Aside0.mk hr0
 have HC0 := Aside0.mk hc0
 clear hr0 hc0
 have H := h
 clear h
 unfold impl_allWithin.f at H
 have H' := Aside0.mk H
 clear H
 go_enter Try.func88, Try.ntmps88
 go_wp2
 go_loopg [11] k (fun kq v11 w' => ∃ (x11_1 : Int), v11 = .int .i64 x11_1 ∧ Aside0 (impl_allWithin.l0 kq a1 a2 l0 (l0.length : Int) x11_1 = some r) ∧ Aside0 (kq ≤ k) ∧ Drawn0 w w')
 case atStart => exact ⟨(0), sd_, H', ⟨Nat.le_refl _⟩, dr_⟩
 case round =>
  clear H'
  try clear p2
  obtain ⟨x11_1, rfl, HA, HK1, ⟨m1, rfl⟩⟩ := hrel
  cases gk with
  | zero => exact absurd HA.out (by simp [impl_allWithin.l0])
  | succ k1 =>
   have H := HA.out
   clear HA
   simp only [impl_allWithin.l0] at H
   by_cases c4 : x11_1 < (l0.length : Int)
   ·rw [if_pos c4] at H
    have c4b0 : decide (x11_1 < (l0.length : Int)) = true := decide_eq_true c4
    clear c4
    by_cases c5 : 0 ≤ x11_1
    ·rw [if_pos c5] at H
     have c5b0 : decide (0 ≤ x11_1) = true := decide_eq_true c5
     clear c5
     by_cases c6 : x11_1 < (l0.length : Int)
     ·rw [if_pos c6] at H
      have c6b0 : decide (x11_1 < (l0.length : Int)) = true := decide_eq_true c6
      clear c6
      obtain ⟨t256, A7, H⟩ := ob_ H
      (try dsimp only at H)
      by_cases c8 : t256 = true
      ·subst c8
       rw [if_pos rfl] at H
       have H' := Aside0.mk H
       clear H
       have p255 : 0 ≤ (x11_1 : Int) := od_
       have q255 : x11_1 < (l0.length : Int) := od_
       obtain ⟨ad255, e255, hx255_0⟩ := Kd.at_int HR0.out x11_1 p255 q255
       cases e255
       replace p255 := eq_true p255
       replace q255 := eq_true q255
       go_wp2_with (first | ((with_reducible refine gate_callee (f := 77) rfl ?_); refine gl_ 18 Try.func77 #[.int .i64 (rd l0 x11_1), .int .i64 a1, .int .i64 a2] ?_; (with_reducible refine (impl_within.calls (rd l0 x11_1) a1 a2 true _ A7.out).mono ?_); rintro e w' ⟨rfl, ⟨nd, rfl⟩⟩; refine ⟨_, rfl, ?_⟩))
       go_roundg k1
       case measure => have := HK1.out; omega
       case rel => exact ⟨(wrap64 (x11_1 + 1)), sd_, H', ⟨by have := HK1.out; omega⟩, dr_⟩
      ·obtain rfl := Bool.eq_false_iff.mpr c8
       rw [if_neg nf_] at H
       obtain rfl := Option.some.inj H
       have p255 : 0 ≤ (x11_1 : Int) := od_
       have q255 : x11_1 < (l0.length : Int) := od_
       obtain ⟨ad255, e255, hx255_0⟩ := Kd.at_int HR0.out x11_1 p255 q255
       cases e255
       replace p255 := eq_true p255
       replace q255 := eq_true q255
       go_wp2_with (first | ((with_reducible refine gate_callee (f := 77) rfl ?_); refine gl_ 18 Try.func77 #[.int .i64 (rd l0 x11_1), .int .i64 a1, .int .i64 a2] ?_; (with_reducible refine (impl_within.calls (rd l0 x11_1) a1 a2 false _ A7.out).mono ?_); rintro e w' ⟨rfl, ⟨nd, rfl⟩⟩; refine ⟨_, rfl, ?_⟩))
       go_ret
       exact ⟨sd_, dr_⟩
     ·rw [if_neg c6] at H
      exact absurd H (by simp)
    ·rw [if_neg c5] at H
     exact absurd H (by simp)
   ·rw [if_neg c4] at H
    have c4b0 : decide (x11_1 < (l0.length : Int)) = false := decide_eq_false c4
    clear c4
    obtain rfl := Option.some.inj H
    go_wp2
    go_ret
    exact ⟨sd_, dr_⟩
def impl_IsAscending.l0 : Nat → List Int → Int → Option (Bool)
 | 0, _, _ => none
 | k + 1, x0, x3 => if x3 < (x0.length : Int) then (if 0 ≤ x3 then (if 0 ≤ (wrap64 (x3 - 1)) then (if (wrap64 (x3 - 1)) < (x0.length : Int) then (if (rd x0 x3) ≤ (rd x0 (wrap64 (x3 - 1))) then (some false) else (impl_IsAscending.l0 k x0 (wrap64 (x3 + 1)))) else (none)) else (none)) else (none)) else (some true)
def impl_IsAscending.f (k : Nat) (l0 : List Int) : Option (Bool) := impl_IsAscending.l0 k l0 1
theorem impl_IsAscending.calls (k : Nat) (A0 : Option Addr) (c0 : Nat) (l0 : List Int) (r : Bool) (w : World) (hr0 : Kd.C (Kd.int .i64) w A0 l0.length l0) (hc0 : l0.length ≤ c0) (h : impl_IsAscending.f k l0 = some r) :
 Calls Try.prog 89 #[.slice A0 l0.length c0] w fun e w' => e = .returned (.bool r) ∧ Drawn0 w w' := by
 have HR0 := Aside0.mk hr0
 have HC0 := Aside0.mk hc0
 clear hr0 hc0
 have H := h
 clear h
 unfold impl_IsAscending.f at H
 have H' := Aside0.mk H
 clear H
 go_enter Try.func89, Try.ntmps89
 go_wp2
 repeat (go_quiet (fail); try go_wp2)
 go_loopg [3] k (fun kq v3 w' => ∃ (x3_1 : Int), v3 = .int .i64 x3_1 ∧ Aside0 (impl_IsAscending.l0 kq l0 x3_1 = some r) ∧ Aside0 (kq ≤ k) ∧ Drawn0 w w')
 case atStart => exact ⟨(1), sd_, H', ⟨Nat.le_refl _⟩, dr_⟩
 case round =>
  clear H'
  obtain ⟨x3_1, rfl, HA, HK1, ⟨m1, rfl⟩⟩ := hrel
  cases gk with
  | zero => exact absurd HA.out (by simp [impl_IsAscending.l0])
  | succ k1 =>
   have H := HA.out
   clear HA
   simp only [impl_IsAscending.l0] at H
   by_cases c2 : x3_1 < (l0.length : Int)
   ·rw [if_pos c2] at H
    have c2b0 : decide (x3_1 < (l0.length : Int)) = true := decide_eq_true c2
    clear c2
    by_cases c3 : 0 ≤ x3_1
    ·rw [if_pos c3] at H
     have c3b0 : decide (0 ≤ x3_1) = true := decide_eq_true c3
     clear c3
     obtain ⟨ji4, hji4⟩ : ∃ j_ : Int, (wrap64 (x3_1 - 1)) = j_ := ⟨_, rfl⟩
     replace H : (if 0 ≤ (ji4) then (if (ji4) < (l0.length : Int) then (if (rd l0 x3_1) ≤ (rd l0 (ji4)) then (some false) else (impl_IsAscending.l0 k1 l0 (wrap64 (x3_1 + 1)))) else (none)) else (none)) = some r := by first | (rw [hji4] at H; exact H) | (simp only [hji4] at H ⊢; exact H)
     have hji4w : (IntKind.i64.wrap (x3_1 - 1)) = ji4 := (i64_w _).trans hji4
     by_cases c5 : 0 ≤ (ji4)
     ·rw [if_pos c5] at H
      have c5b0 : decide (0 ≤ (ji4)) = true := decide_eq_true c5
      clear c5
      by_cases c6 : (ji4) < (l0.length : Int)
      ·rw [if_pos c6] at H
       have c6b0 : decide ((ji4) < (l0.length : Int)) = true := decide_eq_true c6
       clear c6
       by_cases c7 : (rd l0 x3_1) ≤ (rd l0 (ji4))
       ·rw [if_pos c7] at H
        have c7b0 : decide ((rd l0 x3_1) ≤ (rd l0 (ji4))) = true := decide_eq_true c7
        clear c7
        obtain rfl := Option.some.inj H
        have p257 : 0 ≤ (x3_1 : Int) := od_
        have q257 : x3_1 < (l0.length : Int) := od_
        obtain ⟨ad257, e257, hx257_0⟩ := Kd.at_int HR0.out x3_1 p257 q257
        cases e257
        replace p257 := eq_true p257
        replace q257 := eq_true q257
        have p258 : 0 ≤ ((ji4) : Int) := od_
        have q258 : (ji4) < (l0.length : Int) := od_
        obtain ⟨ad258, e258, hx258_0⟩ := Kd.at_int HR0.out (ji4) p258 q258
        obtain rfl : ad257 = ad258 := (by injection e258)
        replace p258 := eq_true p258
        replace q258 := eq_true q258
        go_wp2
        repeat (go_quiet (fail); try go_wp2)
        go_ret
        exact ⟨by first | rfl | (simp; done) | (simp only [← hji4] <;> (first | rfl | simp)) | (simp [*]; done), dr_⟩
       ·rw [if_neg c7] at H
        have c7b0 : decide ((rd l0 x3_1) ≤ (rd l0 (ji4))) = false := decide_eq_false c7
        clear c7
        have H' := Aside0.mk H
        clear H
        have p257 : 0 ≤ (x3_1 : Int) := od_
        have q257 : x3_1 < (l0.length : Int) := od_
        obtain ⟨ad257, e257, hx257_0⟩ := Kd.at_int HR0.out x3_1 p257 q257
        cases e257
        replace p257 := eq_true p257
        replace q257 := eq_true q257
        have p258 : 0 ≤ ((ji4) : Int) := od_
        have q258 : (ji4) < (l0.length : Int) := od_
        obtain ⟨ad258, e258, hx258_0⟩ := Kd.at_int HR0.out (ji4) p258 q258
        obtain rfl : ad257 = ad258 := (by injection e258)
        replace p258 := eq_true p258
        replace q258 := eq_true q258
        go_wp2
        repeat (go_quiet (fail); try go_wp2)
        go_roundg k1
        case measure => have := HK1.out; omega
        case rel => exact ⟨(wrap64 (x3_1 + 1)), sd_, H', ⟨by have := HK1.out; omega⟩, dr_⟩
      ·rw [if_neg c6] at H
       exact absurd H (by simp)
     ·rw [if_neg c5] at H
      exact absurd H (by simp)
    ·rw [if_neg c3] at H
     exact absurd H (by simp)
   ·rw [if_neg c2] at H
    have c2b0 : decide (x3_1 < (l0.length : Int)) = false := decide_eq_false c2
    clear c2
    obtain rfl := Option.some.inj H
    go_wp2
    repeat (go_quiet (fail); try go_wp2)
    go_ret
    exact ⟨sd_, dr_⟩
def impl_GcdOf.l0 : Nat → Int → Int → Option (Int)
 | 0, _, _ => none
 | k + 1, x0, x1 => if x0 = 0 then (some x1) else (impl_GcdOf.l0 k (Int.tmod x1 x0) x0)
def impl_GcdOf.f (k : Nat) (a0 : Int) (a1 : Int) : Option (Int) := (impl_allWithin.f k (([a0, a1] : List Int)) (-1000000) 1000000).bind fun t262 => (if t262 = true then (impl_GcdOf.l0 k (mx a0 (wrap64 (-a0))) (mx a1 (wrap64 (-a1)))) else (some 0))
theorem impl_GcdOf.calls (k : Nat) (a0 : Int) (a1 : Int) (r : Int) (w : World) (h : impl_GcdOf.f k a0 a1 = some r) :
 Calls Try.prog 114 #[.int .i64 a0, .int .i64 a1] w fun e w' => e = .returned (.int .i64 r) ∧ Below w.heap.size w w' := by
 have HB := Aside0.mk (Below.refl w.heap.size w)
 have H := h
 clear h
 unfold impl_GcdOf.f at H
 obtain ⟨y259, hy259⟩ : ∃ y_ : List Int, y_ = (([a0, a1] : List Int)) := ⟨_, rfl⟩
 replace H : ((impl_allWithin.f k y259 (-1000000) 1000000).bind fun t262 => (if t262 = true then (impl_GcdOf.l0 k (mx a0 (wrap64 (-a0))) (mx a1 (wrap64 (-a1)))) else (some 0))) = some r := hr_ hy259 H
 have Ny259 := Aside0.mk hy259
 clear hy259
 obtain ⟨t262, A3, H⟩ := ob_ H
 (try dsimp only at H)
 by_cases c4 : t262 = true
 ·subst c4
  rw [if_pos rfl] at H
  obtain ⟨ji5, hji5⟩ : ∃ j_ : Int, (mx a0 (wrap64 (-a0))) = j_ := ⟨_, rfl⟩
  replace H : (impl_GcdOf.l0 k ji5 (mx a1 (wrap64 (-a1)))) = some r := by first | (rw [hji5] at H; exact H) | (simp only [hji5] at H ⊢; exact H)
  (try rw [hji5] at A3)
  have hji5_ : (if a0 < (wrap64 (-a0)) then (wrap64 (-a0)) else a0) = ji5 := hji5
  obtain ⟨ji6, hji6⟩ : ∃ j_ : Int, (mx a1 (wrap64 (-a1))) = j_ := ⟨_, rfl⟩
  replace H : (impl_GcdOf.l0 k ji5 ji6) = some r := by first | (rw [hji6] at H; exact H) | (simp only [hji6] at H ⊢; exact H)
  (try rw [hji6] at A3)
  have hji6_ : (if a1 < (wrap64 (-a1)) then (wrap64 (-a1)) else a1) = ji6 := hji6
  have H' := Aside0.mk H
  clear H
  go_enter Try.func114, Try.ntmps114
  go_wp2_with (first | ((with_reducible refine gate_dst (N := 7) rfl ?_); refine Kd.R_lit (Kd.int .i64) _ 3 ?hg (N := 7) ?hd (xs := ([a0, a1] : List Int)) (inner := [.int .i64 a0, .int .i64 a1]) (ok := fun _ => True) (okp := fun _ => True) ?hr ?hp (fun _ hk => hk) trivial (Below.refl _ _) (Nat.le_refl _) (by simp) ?_; (case hd => rfl); (case hg => rfl); (case hr => first | (go_simp; done) | (go_simp; rfl)); (case hp => exact (Reps.one (show Kd.M (Kd.int .i64) _ _ _ a0 [.int .i64 a0] from rfl) (Reps.one (show Kd.M (Kd.int .i64) _ _ _ a1 [.int .i64 a1] from rfl) (Reps.none _ _)))); intro v260 w7 ho8 hb hg_ hnew_; clear hg_ hnew_; (first | rw [← Ny259.out] at ho8 | (simp only [Int.reduceToNat] at ho8; rw [← Ny259.out] at ho8)); have HO261 := rl_ ho8 HB; replace HB := bs_ HB hb; clear hb ho8; obtain ⟨Ao9, co9, eo9⟩ := Kd.R_slice HO261.out; subst eo9) | ((with_reducible refine gate_callee (f := 88) rfl ?_); refine gl_ 8 Try.func88 #[.slice Ao9 y259.length co9, .int .i64 (-1000000), .int .i64 1000000] ?_; (with_reducible refine (impl_allWithin.calls k _ _ y259 (-1000000) 1000000 true _ ?side1 ?side2 A3.out).mono ?_); (case side1 => exact rs_ HO261); (case side2 => exact (Kd.R_reads' HO261.out).2.1); rintro e w' ⟨rfl, ⟨nd, rfl⟩⟩; refine ⟨_, rfl, ?_⟩))
  go_loopg [0, 1] k (fun kq v0 v1 w' => ∃ (x0_1 : Int) (x1_1 : Int), v0 = .int .i64 x0_1 ∧ v1 = .int .i64 x1_1 ∧ Aside0 (impl_GcdOf.l0 kq x0_1 x1_1 = some r) ∧ Aside0 (kq ≤ k) ∧ Aside0 (Below w.heap.size w w'))
  case atStart => exact ⟨(ji5), (ji6), (by first | rfl | (simp; done) | (simp only [← hji5] <;> (first | rfl | simp)) | (simp [*]; done)), (by first | rfl | (simp; done) | (simp only [← hji6] <;> (first | rfl | simp)) | (simp [*]; done)), H', ⟨Nat.le_refl _⟩, ⟨bl_ HB.out⟩⟩
  case round =>
   clear H'
   try clear c1
   try clear p2
   try clear c4
   try clear p6
   try clear c8
   obtain ⟨x0_1, x1_1, rfl, rfl, HA, HK1, HB⟩ := hrel
   cases gk with
   | zero => exact absurd HA.out (by simp [impl_GcdOf.l0])
   | succ k1 =>
    have H := HA.out
    clear HA
    simp only [impl_GcdOf.l0] at H
    by_cases c10 : x0_1 = 0
    ·rw [if_pos c10] at H
     have c10b0 : (x0_1 == 0) = true := beq_iff_eq.mpr c10
     have c10b1 : (x0_1 != 0) = false := bne_eq_false_iff_eq.mpr c10
     clear c10
     obtain rfl := Option.some.inj H
     go_wp2
     go_ret
     exact ⟨by first | rfl | (simp [errW_none, errW_some] <;> rfl) | (simp only [← hji5, ← hji6]; first | rfl | (simp [errW_none, errW_some] <;> rfl)) | (simp [*, errW_none, errW_some] <;> rfl), bl_ HB.out⟩
    ·rw [if_neg c10] at H
     have c10b0 : (x0_1 == 0) = false := beq_eq_false_iff_ne.mpr c10
     have c10b1 : (x0_1 != 0) = true := bne_iff_ne.mpr c10
     have H' := Aside0.mk H
     clear H
     go_wp2
     go_roundg k1
     case measure => have := HK1.out; omega
     case rel => exact ⟨(Int.tmod x1_1 x0_1), (x0_1), sd_, sd_, H', ⟨by have := HK1.out; omega⟩, ⟨bl_ HB.out⟩⟩
 ·obtain rfl := Bool.eq_false_iff.mpr c4
  rw [if_neg nf_] at H
  obtain rfl := Option.some.inj H
  go_enter Try.func114, Try.ntmps114
  go_wp2_with (first | ((with_reducible refine gate_dst (N := 7) rfl ?_); refine Kd.R_lit (Kd.int .i64) _ 3 ?hg (N := 7) ?hd (xs := ([a0, a1] : List Int)) (inner := [.int .i64 a0, .int .i64 a1]) (ok := fun _ => True) (okp := fun _ => True) ?hr ?hp (fun _ hk => hk) trivial (Below.refl _ _) (Nat.le_refl _) (by simp) ?_; (case hd => rfl); (case hg => rfl); (case hr => first | (go_simp; done) | (go_simp; rfl)); (case hp => exact (Reps.one (show Kd.M (Kd.int .i64) _ _ _ a0 [.int .i64 a0] from rfl) (Reps.one (show Kd.M (Kd.int .i64) _ _ _ a1 [.int .i64 a1] from rfl) (Reps.none _ _)))); intro v260 w11 ho12 hb hg_ hnew_; clear hg_ hnew_; (first | rw [← Ny259.out] at ho12 | (simp only [Int.reduceToNat] at ho12; rw [← Ny259.out] at ho12)); have HO261 := rl_ ho12 HB; replace HB := bs_ HB hb; clear hb ho12; obtain ⟨Ao13, co13, eo13⟩ := Kd.R_slice HO261.out; subst eo13) | ((with_reducible refine gate_callee (f := 88) rfl ?_); refine gl_ 8 Try.func88 #[.slice Ao13 y259.length co13, .int .i64 (-1000000), .int .i64 1000000] ?_; (with_reducible refine (impl_allWithin.calls k _ _ y259 (-1000000) 1000000 false _ ?side1 ?side2 A3.out).mono ?_); (case side1 => exact rs_ HO261); (case side2 => exact (Kd.R_reads' HO261.out).2.1); rintro e w' ⟨rfl, ⟨nd, rfl⟩⟩; refine ⟨_, rfl, ?_⟩))
  go_ret
  exact ⟨er_, bl_ HB.out⟩
def impl_GcdOfList.l0 : Nat → Int → List Int → Int → Int → Option (Int)
 | 0, _, _, _, _ => none
 | k + 1, x3, x6, x7, x8 => if x8 < x7 then (if 0 ≤ x8 then (if x8 < (x6.length : Int) then ((impl_GcdOf.f k x3 (rd x6 x8)).bind fun t264 => (impl_GcdOfList.l0 k t264 x6 x7 (wrap64 (x8 + 1)))) else (none)) else (none)) else (some x3)
def impl_GcdOfList.f (k : Nat) (l0 : List Int) : Option (Int) := impl_GcdOfList.l0 k 0 l0 (l0.length : Int) 0
theorem impl_GcdOfList.calls (k : Nat) (A0 : Option Addr) (c0 : Nat) (l0 : List Int) (r : Int) (w : World) (hr0 : Kd.C (Kd.int .i64) w A0 l0.length l0) (hc0 : l0.length ≤ c0) (h : impl_GcdOfList.f k l0 = some r) :
 Calls Try.prog 122 #[.slice A0 l0.length c0] w fun e w' => e = .returned (.int .i64 r) ∧ Below w.heap.size w w' := by
 have HR0 := Aside0.mk hr0
 have HC0 := Aside0.mk hc0
 clear hr0 hc0
 have HB := Aside0.mk (Below.refl w.heap.size w)
 have H := h
 clear h
 unfold impl_GcdOfList.f at H
 have H' := Aside0.mk H
 clear H
 go_enter Try.func122, Try.ntmps122
 go_wp2
 go_loopg [3, 8] k (fun kq v3 v8 w' => ∃ (x3_1 : Int) (x8_1 : Int), v3 = .int .i64 x3_1 ∧ v8 = .int .i64 x8_1 ∧ Aside0 (impl_GcdOfList.l0 kq x3_1 l0 (l0.length : Int) x8_1 = some r) ∧ Aside0 (kq ≤ k) ∧ Aside0 (Below w.heap.size w w'))
 case atStart => exact ⟨(0), (0), sd_, sd_, H', ⟨Nat.le_refl _⟩, ⟨bl_ HB.out⟩⟩
 case round =>
  clear H'
  try clear c1
  obtain ⟨x3_1, x8_1, rfl, rfl, HA, HK1, HB⟩ := hrel
  cases gk with
  | zero => exact absurd HA.out (by simp [impl_GcdOfList.l0])
  | succ k1 =>
   have H := HA.out
   clear HA
   simp only [impl_GcdOfList.l0] at H
   by_cases c2 : x8_1 < (l0.length : Int)
   ·rw [if_pos c2] at H
    have c2b0 : decide (x8_1 < (l0.length : Int)) = true := decide_eq_true c2
    clear c2
    by_cases c3 : 0 ≤ x8_1
    ·rw [if_pos c3] at H
     have c3b0 : decide (0 ≤ x8_1) = true := decide_eq_true c3
     clear c3
     by_cases c4 : x8_1 < (l0.length : Int)
     ·rw [if_pos c4] at H
      have c4b0 : decide (x8_1 < (l0.length : Int)) = true := decide_eq_true c4
      clear c4
      obtain ⟨t264, A5, H⟩ := ob_ H
      (try dsimp only at H)
      have H' := Aside0.mk H
      clear H
      have p263 : 0 ≤ (x8_1 : Int) := od_
      have q263 : x8_1 < (l0.length : Int) := od_
      obtain ⟨ad263, e263, hx263_0⟩ := Kd.at_int HR0.out x8_1 p263 q263
      cases e263
      replace hx263_0 := (HB.out.cell (World.block_lt_of_cell? w _ hx263_0)).trans hx263_0
      replace p263 := eq_true p263
      replace q263 := eq_true q263
      go_wp2_with (first | ((with_reducible refine gate_callee (f := 114) rfl ?_); refine gl_ 14 Try.func114 #[.int .i64 x3_1, .int .i64 (rd l0 x8_1)] ?_; (with_reducible refine (impl_GcdOf.calls k1 x3_1 (rd l0 x8_1) t264 _ A5.out).mono ?_); rintro e w6 ⟨rfl, hb⟩; refine ⟨_, rfl, ?_⟩; replace HB := bs_ HB hb; (try clear hb); (try clear hb2); (try clear hk); (try clear hi)))
      go_roundg k1
      case measure => have := HK1.out; omega
      case rel => exact ⟨(t264), (wrap64 (x8_1 + 1)), sd_, sd_, H', ⟨by have := HK1.out; omega⟩, ⟨bl_ HB.out⟩⟩
     ·rw [if_neg c4] at H
      exact absurd H (by simp)
    ·rw [if_neg c3] at H
     exact absurd H (by simp)
   ·rw [if_neg c2] at H
    have c2b0 : decide (x8_1 < (l0.length : Int)) = false := decide_eq_false c2
    clear c2
    obtain rfl := Option.some.inj H
    go_wp2
    go_ret
    exact ⟨er_, bl_ HB.out⟩
def impl_usable.f (k : Nat) (l0 : List Int) : Option (Bool) := (impl_within.f (l0.length : Int) 1 20).bind fun t265 => (if t265 = true then ((impl_allWithin.f k l0 1 60).bind fun t266 => (some t266)) else (some false))
theorem impl_usable.calls (k : Nat) (A0 : Option Addr) (c0 : Nat) (l0 : List Int) (r : Bool) (w : World) (hr0 : Kd.C (Kd.int .i64) w A0 l0.length l0) (hc0 : l0.length ≤ c0) (h : impl_usable.f k l0 = some r) :
 Calls Try.prog 121 #[.slice A0 l0.length c0] w fun e w' => e = .returned (.bool r) ∧ Drawn0 w w' := by
 have HR0 := Aside0.mk hr0
 have HC0 := Aside0.mk hc0
 clear hr0 hc0
 have H := h
 clear h
 unfold impl_usable.f at H
 obtain ⟨t265, A2, H⟩ := ob_ H
 (try dsimp only at H)
 by_cases c3 : t265 = true
 ·subst c3
  rw [if_pos rfl] at H
  obtain ⟨t266, A4, H⟩ := ob_ H
  (try dsimp only at H)
  obtain rfl := Option.some.inj H
  go_enter Try.func121, Try.ntmps121
  go_wp2_with (first | ((with_reducible refine gate_callee (f := 77) rfl ?_); refine gl_ 5 Try.func77 #[.int .i64 (l0.length : Int), .int .i64 1, .int .i64 20] ?_; (with_reducible refine (impl_within.calls (l0.length : Int) 1 20 true _ A2.out).mono ?_); rintro e w' ⟨rfl, ⟨nd, rfl⟩⟩; refine ⟨_, rfl, ?_⟩) | (go_at_call 88; (with_reducible refine (impl_allWithin.calls k _ _ l0 1 60 t266 _ ?side1 ?side2 A4.out).mono ?_); (case side1 => repeat (first | exact HR0.out | (with_reducible refine Kd.C_alloc ?_ _) | (with_reducible refine Kd.C_drewN ?_ _) | (with_reducible refine Kd.C_drew ?_))); (case side2 => exact HC0.out); rintro e w' ⟨rfl, ⟨nd, rfl⟩⟩))
  go_ret
  exact ⟨sd_, dr_⟩
 ·obtain rfl := Bool.eq_false_iff.mpr c3
  rw [if_neg nf_] at H
  obtain rfl := Option.some.inj H
  go_enter Try.func121, Try.ntmps121
  go_wp2_with (first | ((with_reducible refine gate_callee (f := 77) rfl ?_); refine gl_ 5 Try.func77 #[.int .i64 (l0.length : Int), .int .i64 1, .int .i64 20] ?_; (with_reducible refine (impl_within.calls (l0.length : Int) 1 20 false _ A2.out).mono ?_); rintro e w' ⟨rfl, ⟨nd, rfl⟩⟩; refine ⟨_, rfl, ?_⟩))
  go_ret
  exact ⟨sd_, dr_⟩
end Go.Proofs.Ytbjbolblahlhcaa.PFnGlued
end
