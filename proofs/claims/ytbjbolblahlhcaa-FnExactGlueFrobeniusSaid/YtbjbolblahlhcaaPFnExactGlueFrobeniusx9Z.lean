/- A text of the claim for FnExactGlueFrobenius: its part of the chain from the printed contracts and the plain laws to the row. It has no condition of its own. -/
import Derived.Test.YtbjbolblahlhcaaPFnExactGlueFrobeniusx0Z
import Derived.Test.YtbjbolblahlhcaaPFnExactGlueFrobeniusx1Z
import Derived.Test.YtbjbolblahlhcaaPFnExactGlueFrobeniusx2Z
import Derived.Test.YtbjbolblahlhcaaPFnExactGlueFrobeniusx8Z
namespace Go.Proofs.Ytbjbolblahlhcaa.PFnExactGlueFrobenius
open Go.RowKit Go.Proofs.YtbjbolblahlhcaaW.PrintWords Go.Proofs.YtbjbolblahlhcaaW.PrintLast Go.Proofs.YtbjbolblahlhcaaW.PrintMore
open Go.Proofs.Ytbjbolblahlhcaa.SortW (t_ f_)
open Go.Proofs.Ytbjbolblahlhcaa.SortW (bk_ kr_ bl_)
attribute [local go_sem] max2_int min2_int max_two min_two max_three min_three max_four min_four
set_option linter.unusedVariables false
set_option linter.unusedSimpArgs false
def spec_GlueOf.j0 : Nat → Int → Int → Bool → List Int → List Int → Option (List Int × Bool)
 | 0, _, _, _, _, _ => none
 | k + 1, x2, x3, x49, x250000, x251000 => if x49 = true then (some (([] : List Int), false)) else ((spec_l22Times.f k x250000 x2).bind fun t259 => ((spec_l22Times.f k x251000 x3).bind fun t262 => (if t259.length + t262.length < 17592186044416 then ((spec_FromGens.f k (t259 ++ t262)).bind fun bt268 => (some (bt268.1, bt268.2))) else (none))))
def spec_GlueOf.f (k : Nat) (l0_0 : List Int) (l1_0 : List Int) (a2 : Int) (a3 : Int) : Option (List Int × Bool) := (spec_Contains.f k l1_0 a2).bind fun t252 => (if t252 = true then ((spec_Contains.f k l0_0 a3).bind fun t253 => (if t253 = true then ((spec_HasNumber.f k l1_0 a2).bind fun t254 => (if t254 = true then (spec_GlueOf.j0 k a2 a3 true l0_0 l1_0) else ((spec_HasNumber.f k l0_0 a3).bind fun t255 => (if t255 = true then (spec_GlueOf.j0 k a2 a3 true l0_0 l1_0) else ((spec_l1In.f a2 1 60).bind fun t256 => (if t256 = true then ((spec_l1In.f a3 1 60).bind fun t257 => (if t257 = true then ((spec_GcdOf.f k a2 a3).bind fun t258 => (spec_GlueOf.j0 k a2 a3 (t258 != 1) l0_0 l1_0)) else (spec_GlueOf.j0 k a2 a3 true l0_0 l1_0))) else (spec_GlueOf.j0 k a2 a3 true l0_0 l1_0))))))) else (spec_GlueOf.j0 k a2 a3 true l0_0 l1_0))) else (spec_GlueOf.j0 k a2 a3 true l0_0 l1_0))
def spec_GlueOf.T3 : Bool × List (List Nat × List Nat) := (true, [([], []), ([0], [0]), ([], []), ([1, 2], [1, 2]), ([], []), ([4], [4]), ([], []), ([5, 6, 3], [5, 6]), ([3, 7, 7], [3, 7]), ([8, 8], [8]), ([9], [9]), ([10], [10]), ([10], [10]), ([], []), ([13, 11, 9, 0, 1, 2, 3, 4, 5, 6, 7, 8, 9, 10, 11, 13], [11, 13]), ([12, 14, 0, 1, 2, 3, 4, 5, 6, 7, 8, 9, 10, 11, 12, 13, 14], [12])])
def spec_GlueOf.B3 : List Nat := [0, 1, 0, 7, 0, 16, 0, 127, 255, 511, 1023, 2047, 2047, 0, 12287, 32767]
theorem spec_GlueOf.tab3 : rtab .any (opsOf Try.f55 3) = spec_GlueOf.T3 := by kernel_rfl
theorem spec_GlueOf.bits3 : waitsOk spec_GlueOf.T3.2 spec_GlueOf.B3 = true := by kernel_rfl
set_option maxHeartbeats 8000000 in
set_option maxRecDepth 100000 in
theorem spec_GlueOf.calls (k : Nat) (A0_0 : Option Addr) (c0_0 : Nat) (l0_0 : List Int) (A1_0 : Option Addr) (c1_0 : Nat) (l1_0 : List Int) (a2 : Int) (a3 : Int) (r1 : List Int) (r2 : Bool) (w : World) (hr0_0 : Kd.C (Kd.int .i64) w A0_0 l0_0.length l0_0) (hc0_0 : l0_0.length ≤ c0_0) (hr1_0 : Kd.C (Kd.int .i64) w A1_0 l1_0.length l1_0) (hc1_0 : l1_0.length ≤ c1_0) (h : spec_GlueOf.f k l0_0 l1_0 a2 a3 = some (r1, r2)) :
 Calls Try.prog 55 #[.agg #[.slice A0_0 l0_0.length c0_0], .agg #[.slice A1_0 l1_0.length c1_0], .int .i64 a2, .int .i64 a3] w fun e w' => ∃ v0_ : Value, e = .returned (.tuple #[.agg #[v0_], .bool r2]) ∧ Kd.R (Kd.int .i64) 3 w' w.heap.size (fun _ => True) v0_ r1 ∧ Below w.heap.size w w' := by
 have hu41 := Try.underlying41
 have HR0_0 := Aside0.mk hr0_0
 have HC0_0 := Aside0.mk hc0_0
 clear hr0_0 hc0_0
 have HR1_0 := Aside0.mk hr1_0
 have HC1_0 := Aside0.mk hc1_0
 clear hr1_0 hc1_0
 have HB := Aside0.mk (Below.refl w.heap.size w)
 have H : ((spec_Contains.f k l1_0 a2).bind fun t252 => (if t252 = true then ((spec_Contains.f k l0_0 a3).bind fun t253 => (if t253 = true then ((spec_HasNumber.f k l1_0 a2).bind fun t254 => (if t254 = true then (spec_GlueOf.j0 k a2 a3 true l0_0 l1_0) else ((spec_HasNumber.f k l0_0 a3).bind fun t255 => (if t255 = true then (spec_GlueOf.j0 k a2 a3 true l0_0 l1_0) else ((spec_l1In.f a2 1 60).bind fun t256 => (if t256 = true then ((spec_l1In.f a3 1 60).bind fun t257 => (if t257 = true then ((spec_GcdOf.f k a2 a3).bind fun t258 => (spec_GlueOf.j0 k a2 a3 (t258 != 1) l0_0 l1_0)) else (spec_GlueOf.j0 k a2 a3 true l0_0 l1_0))) else (spec_GlueOf.j0 k a2 a3 true l0_0 l1_0))))))) else (spec_GlueOf.j0 k a2 a3 true l0_0 l1_0))) else (spec_GlueOf.j0 k a2 a3 true l0_0 l1_0))) = some (r1, r2) := h
 clear h
 have HC5 := Aside0.mk H
 clear H
 go_enter Try.func55, Try.ntmps55
 go_upto_region 1 with (first | ((with_reducible refine gate_dst (N := 4) rfl ?_); refine box_event ?hg (N := 4) ?hd (cs := #[.slice A0_0 l0_0.length c0_0]) (t := 41) ?hr ?_; (case hd => rfl); (case hg => rfl); (case hr => first | (go_simp; done) | (go_simp; rfl)); intro gb249 hg w6 hbox hb; have n0_ := Aside0.mk (below_step (bl_ HB.out) hb); have n1_ := Aside0.mk (hbox); have n2_ := Aside0.mk ((by rw [hg]; exact (below_size (bl_ HB.out)) : w.heap.size ≤ gb249)); have n3_ := Aside0.mk ((by rw [hg]; exact (below_size (bl_ HB.out)) : w.heap.size ≤ gb249)); clear HB; have HB := n0_; have BK249 := n1_; have GW249 := n2_; have GE249 := n3_; clear n0_ n1_ n2_ n3_; clear hb hbox hg) | ((with_reducible refine gate_dst (N := 5) rfl ?_); refine box_event ?hg (N := 5) ?hd (cs := #[.slice A1_0 l1_0.length c1_0]) (t := 41) ?hr ?_; (case hd => rfl); (case hg => rfl); (case hr => first | (go_simp; done) | (go_simp; rfl)); intro gb250 hg w7 hbox hb; have n0_ := Aside0.mk (blk_below (bk_ BK249.out) hb); have n1_ := Aside0.mk (below_step (bl_ HB.out) hb); have n2_ := Aside0.mk (hbox); have n3_ := Aside0.mk ((by rw [hg]; exact (below_size (bl_ HB.out)) : w.heap.size ≤ gb250)); have n4_ := Aside0.mk ((by rw [hg]; exact (below_size (bl_ HB.out)) : w.heap.size ≤ gb250)); have n5_ := Aside0.mk ((by rw [hg]; exact Nat.ne_of_lt (blk_lt (bk_ BK249.out)) : gb249 ≠ gb250)); have n6_ := Aside0.mk ((by rw [hg]; exact Nat.ne_of_gt (blk_lt (bk_ BK249.out)) : gb250 ≠ gb249)); clear BK249; clear HB; have BK249 := n0_; have HB := n1_; have BK250 := n2_; have GW250 := n3_; have GE250 := n4_; have NB249_250 := n5_; have NB250_249 := n6_; clear n0_ n1_ n2_ n3_ n4_ n5_ n6_; clear hb hbox hg) | ((with_reducible refine gate_dst (N := 8) rfl ?_); refine box_event ?hg (N := 8) ?hd (cs := #[.slice none 0 0]) (t := 41) ?hr ?_; (case hd => rfl); (case hg => rfl); (case hr => first | (go_simp; done) | (go_simp; rfl)); intro gb251 hg w8 hbox hb; have n0_ := Aside0.mk (blk_below (bk_ BK249.out) hb); have n1_ := Aside0.mk (blk_below (bk_ BK250.out) hb); have n2_ := Aside0.mk (below_step (bl_ HB.out) hb); have n3_ := Aside0.mk (hbox); have n4_ := Aside0.mk ((by rw [hg]; exact (below_size (bl_ HB.out)) : w.heap.size ≤ gb251)); have n5_ := Aside0.mk ((by rw [hg]; exact (below_size (bl_ HB.out)) : w.heap.size ≤ gb251)); have n6_ := Aside0.mk ((by rw [hg]; exact Nat.ne_of_lt (blk_lt (bk_ BK249.out)) : gb249 ≠ gb251)); have n7_ := Aside0.mk ((by rw [hg]; exact Nat.ne_of_gt (blk_lt (bk_ BK249.out)) : gb251 ≠ gb249)); have n8_ := Aside0.mk ((by rw [hg]; exact Nat.ne_of_lt (blk_lt (bk_ BK250.out)) : gb250 ≠ gb251)); have n9_ := Aside0.mk ((by rw [hg]; exact Nat.ne_of_gt (blk_lt (bk_ BK250.out)) : gb251 ≠ gb250)); clear BK249; clear BK250; clear HB; have BK249 := n0_; have BK250 := n1_; have HB := n2_; have BK251 := n3_; have GW251 := n4_; have GE251 := n5_; have NB249_251 := n6_; have NB251_249 := n7_; have NB250_251 := n8_; have NB251_250 := n9_; clear n0_ n1_ n2_ n3_ n4_ n5_ n6_ n7_ n8_ n9_; clear hb hbox hg))
 (try simp only [Act.put, List.setIfInBounds_toArray, List.set_cons_zero, List.set_cons_succ])
 go_cut [49] (fun v49 wc => ∃ (kq : Nat) (x49_4 : Bool), v49 = .bool x49_4 ∧ Aside0 (spec_GlueOf.j0 kq a2 a3 x49_4 l0_0 l1_0 = some (r1, r2)) ∧ Aside0 (kq ≤ k) ∧ Aside0 (wc.heap[gb249]? = some (.cells #[(.slice A0_0 l0_0.length c0_0)] 41 (0, 0))) ∧ Aside0 (wc.heap[gb250]? = some (.cells #[(.slice A1_0 l1_0.length c1_0)] 41 (0, 0))) ∧ Aside0 (wc.heap[gb251]? = some (.cells #[(.slice none 0 0)] 41 (0, 0))) ∧ Aside0 (Below w.heap.size w wc))
 case first =>
  have H := HC5.out
  clear HC5
  replace H := Option.bind_eq_some_iff.mp H
  obtain ⟨t252, A90, H⟩ := H
  (try dsimp only at H)
  have A9 := Aside0.mk A90
  clear A90
  by_cases c10 : t252 = true
  ·subst c10
   rw [if_pos rfl] at H
   replace H := Option.bind_eq_some_iff.mp H
   obtain ⟨t253, A110, H⟩ := H
   (try dsimp only at H)
   have A11 := Aside0.mk A110
   clear A110
   by_cases c12 : t253 = true
   ·subst c12
    rw [if_pos rfl] at H
    replace H := Option.bind_eq_some_iff.mp H
    obtain ⟨t254, A130, H⟩ := H
    (try dsimp only at H)
    have A13 := Aside0.mk A130
    clear A130
    by_cases c14 : t254 = true
    ·subst c14
     rw [if_pos rfl] at H
     have H' := Aside0.mk H
     clear H
     have hnb15 := NB250_249.out
     have hnc15 := NB249_250.out
     have hnb16 := NB250_251.out
     have hnc16 := NB251_250.out
     have hcz17_0 : w8.cell? ⟨gb250, 0, none⟩ = some (.slice A1_0 l1_0.length c1_0) := (blk_cell BK250.out 0).trans rfl
     have hfz17_0 := blk_frozen BK250.out 0
     go_wp2_with (first | ((with_reducible refine gate_callee (f := 109) rfl ?_); refine goesL_ (some 14) rfl rfl Try.func109 (by kernel_rfl) rfl #[.agg #[.slice A1_0 l1_0.length c1_0], .int .i64 a2] rfl (by (try simp only [List.map_toArray, List.map_cons, List.map_nil]); first | done | rfl | (simp only [List.length_drop, List.length_take]; rfl)) ?_; (with_reducible refine (spec_Contains.calls k _ _ l1_0 a2 true _ ?side1 ?side2 A9.out).mono ?_); (case side1 => repeat (first | exact (Kd.C_below HR1_0.out HB.out) | exact HR1_0.out | (with_reducible refine Kd.C_alloc ?_ _) | (with_reducible refine Kd.C_drewN ?_ _) | (with_reducible refine Kd.C_drew ?_))); (case side2 => exact HC1_0.out); rintro e w18 ⟨rfl, hb⟩; refine ⟨_, rfl, ?_⟩; have n0_ := Aside0.mk (blk_below (bk_ BK249.out) hb); have n1_ := Aside0.mk (blk_below (bk_ BK250.out) hb); have n2_ := Aside0.mk (blk_below (bk_ BK251.out) hb); have n3_ := Aside0.mk (below_step (bl_ HB.out) hb); clear BK249; clear BK250; clear BK251; clear HB; have BK249 := n0_; have BK250 := n1_; have BK251 := n2_; have HB := n3_; clear n0_ n1_ n2_ n3_; (try clear hb); (try clear hb2); (try clear hk); (try clear hi); have hnb19 := NB249_251.out; have hnc19 := NB251_249.out; have hcz20_0 : w18.cell? ⟨gb249, 0, none⟩ = some (.slice A0_0 l0_0.length c0_0) := (blk_cell BK249.out 0).trans rfl; have hfz20_0 := blk_frozen BK249.out 0) | (go_at_call 109; (with_reducible refine (spec_Contains.calls k _ _ l0_0 a3 true _ ?side1 ?side2 A11.out).mono ?_); (case side1 => repeat (first | exact (Kd.C_below HR0_0.out HB.out) | (with_reducible refine Kd.C_alloc ?_ _) | (with_reducible refine Kd.C_drewN ?_ _) | (with_reducible refine Kd.C_drew ?_))); (case side2 => exact HC0_0.out); rintro e w21 ⟨rfl, hb⟩; have n0_ := Aside0.mk (blk_below (bk_ BK249.out) hb); have n1_ := Aside0.mk (blk_below (bk_ BK250.out) hb); have n2_ := Aside0.mk (blk_below (bk_ BK251.out) hb); have n3_ := Aside0.mk (below_step (bl_ HB.out) hb); clear BK249; clear BK250; clear BK251; clear HB; have BK249 := n0_; have BK250 := n1_; have BK251 := n2_; have HB := n3_; clear n0_ n1_ n2_ n3_; (try clear hb); (try clear hb2); (try clear hk); (try clear hi); have hcz22_0 : w21.cell? ⟨gb250, 0, none⟩ = some (.slice A1_0 l1_0.length c1_0) := (blk_cell BK250.out 0).trans rfl; have hfz22_0 := blk_frozen BK250.out 0) | (go_at_call 110; (with_reducible refine (spec_HasNumber.calls k _ _ l1_0 a2 true _ ?side1 ?side2 A13.out).mono ?_); (case side1 => repeat (first | exact (Kd.C_below HR1_0.out HB.out) | (with_reducible refine Kd.C_alloc ?_ _) | (with_reducible refine Kd.C_drewN ?_ _) | (with_reducible refine Kd.C_drew ?_))); (case side2 => exact HC1_0.out); rintro e w' ⟨rfl, ⟨nd, rfl⟩⟩))
     go_meet
     case rel => exact ⟨_, (true), (by first | rfl | (simp; done) | (simp [*]; done)), H', ⟨by first | omega | exact Nat.le_refl _⟩, ⟨bk_ BK249.out⟩, ⟨bk_ BK250.out⟩, ⟨bk_ BK251.out⟩, ⟨bl_ HB.out⟩⟩
    ·replace c14 := Bool.eq_false_iff.mpr c14
     subst c14
     rw [if_neg (show ¬ (false = true) by decide)] at H
     replace H := Option.bind_eq_some_iff.mp H
     obtain ⟨t255, A230, H⟩ := H
     (try dsimp only at H)
     have A23 := Aside0.mk A230
     clear A230
     by_cases c24 : t255 = true
     ·subst c24
      rw [if_pos rfl] at H
      have H' := Aside0.mk H
      clear H
      have hnb25 := NB250_249.out
      have hnc25 := NB249_250.out
      have hnb26 := NB250_251.out
      have hnc26 := NB251_250.out
      have hcz27_0 : w8.cell? ⟨gb250, 0, none⟩ = some (.slice A1_0 l1_0.length c1_0) := (blk_cell BK250.out 0).trans rfl
      have hfz27_0 := blk_frozen BK250.out 0
      go_wp2_with (first | ((with_reducible refine gate_callee (f := 109) rfl ?_); refine goesL_ (some 14) rfl rfl Try.func109 (by kernel_rfl) rfl #[.agg #[.slice A1_0 l1_0.length c1_0], .int .i64 a2] rfl (by (try simp only [List.map_toArray, List.map_cons, List.map_nil]); first | done | rfl | (simp only [List.length_drop, List.length_take]; rfl)) ?_; (with_reducible refine (spec_Contains.calls k _ _ l1_0 a2 true _ ?side1 ?side2 A9.out).mono ?_); (case side1 => repeat (first | exact (Kd.C_below HR1_0.out HB.out) | exact HR1_0.out | (with_reducible refine Kd.C_alloc ?_ _) | (with_reducible refine Kd.C_drewN ?_ _) | (with_reducible refine Kd.C_drew ?_))); (case side2 => exact HC1_0.out); rintro e w28 ⟨rfl, hb⟩; refine ⟨_, rfl, ?_⟩; have n0_ := Aside0.mk (blk_below (bk_ BK249.out) hb); have n1_ := Aside0.mk (blk_below (bk_ BK250.out) hb); have n2_ := Aside0.mk (blk_below (bk_ BK251.out) hb); have n3_ := Aside0.mk (below_step (bl_ HB.out) hb); clear BK249; clear BK250; clear BK251; clear HB; have BK249 := n0_; have BK250 := n1_; have BK251 := n2_; have HB := n3_; clear n0_ n1_ n2_ n3_; (try clear hb); (try clear hb2); (try clear hk); (try clear hi); have hnb29 := NB249_251.out; have hnc29 := NB251_249.out; have hcz30_0 : w28.cell? ⟨gb249, 0, none⟩ = some (.slice A0_0 l0_0.length c0_0) := (blk_cell BK249.out 0).trans rfl; have hfz30_0 := blk_frozen BK249.out 0) | (go_at_call 109; (with_reducible refine (spec_Contains.calls k _ _ l0_0 a3 true _ ?side1 ?side2 A11.out).mono ?_); (case side1 => repeat (first | exact (Kd.C_below HR0_0.out HB.out) | (with_reducible refine Kd.C_alloc ?_ _) | (with_reducible refine Kd.C_drewN ?_ _) | (with_reducible refine Kd.C_drew ?_))); (case side2 => exact HC0_0.out); rintro e w31 ⟨rfl, hb⟩; have n0_ := Aside0.mk (blk_below (bk_ BK249.out) hb); have n1_ := Aside0.mk (blk_below (bk_ BK250.out) hb); have n2_ := Aside0.mk (blk_below (bk_ BK251.out) hb); have n3_ := Aside0.mk (below_step (bl_ HB.out) hb); clear BK249; clear BK250; clear BK251; clear HB; have BK249 := n0_; have BK250 := n1_; have BK251 := n2_; have HB := n3_; clear n0_ n1_ n2_ n3_; (try clear hb); (try clear hb2); (try clear hk); (try clear hi); have hcz32_0 : w31.cell? ⟨gb250, 0, none⟩ = some (.slice A1_0 l1_0.length c1_0) := (blk_cell BK250.out 0).trans rfl; have hfz32_0 := blk_frozen BK250.out 0) | (go_at_call 110; (with_reducible refine (spec_HasNumber.calls k _ _ l1_0 a2 false _ ?side1 ?side2 A13.out).mono ?_); (case side1 => repeat (first | exact (Kd.C_below HR1_0.out HB.out) | (with_reducible refine Kd.C_alloc ?_ _) | (with_reducible refine Kd.C_drewN ?_ _) | (with_reducible refine Kd.C_drew ?_))); (case side2 => exact HC1_0.out); rintro e w' ⟨rfl, ⟨nd, rfl⟩⟩; have hcz33_0 : w31.cell? ⟨gb249, 0, none⟩ = some (.slice A0_0 l0_0.length c0_0) := (blk_cell BK249.out 0).trans rfl; have hfz33_0 := blk_frozen BK249.out 0) | (go_at_call 110; (with_reducible refine (spec_HasNumber.calls k _ _ l0_0 a3 true _ ?side1 ?side2 A23.out).mono ?_); (case side1 => repeat (first | exact (Kd.C_below HR0_0.out (bl_ HB.out)) | (with_reducible refine Kd.C_alloc ?_ _) | (with_reducible refine Kd.C_drewN ?_ _) | (with_reducible refine Kd.C_drew ?_))); (case side2 => exact HC0_0.out); rintro e w' ⟨rfl, ⟨nd, rfl⟩⟩))
      go_meet
      case rel => exact ⟨_, (true), (by first | rfl | (simp; done) | (simp [*]; done)), H', ⟨by first | omega | exact Nat.le_refl _⟩, ⟨bk_ BK249.out⟩, ⟨bk_ BK250.out⟩, ⟨bk_ BK251.out⟩, ⟨bl_ HB.out⟩⟩
     ·replace c24 := Bool.eq_false_iff.mpr c24
      subst c24
      rw [if_neg (show ¬ (false = true) by decide)] at H
      replace H := Option.bind_eq_some_iff.mp H
      obtain ⟨t256, A340, H⟩ := H
      (try dsimp only at H)
      have A34 := Aside0.mk A340
      clear A340
      by_cases c35 : t256 = true
      ·subst c35
       rw [if_pos rfl] at H
       replace H := Option.bind_eq_some_iff.mp H
       obtain ⟨t257, A360, H⟩ := H
       (try dsimp only at H)
       have A36 := Aside0.mk A360
       clear A360
       by_cases c37 : t257 = true
       ·subst c37
        rw [if_pos rfl] at H
        replace H := Option.bind_eq_some_iff.mp H
        obtain ⟨t258, A380, H⟩ := H
        (try dsimp only at H)
        have A38 := Aside0.mk A380
        clear A380
        have H' := Aside0.mk H
        clear H
        have hnb39 := NB250_249.out
        have hnc39 := NB249_250.out
        have hnb40 := NB250_251.out
        have hnc40 := NB251_250.out
        have hcz41_0 : w8.cell? ⟨gb250, 0, none⟩ = some (.slice A1_0 l1_0.length c1_0) := (blk_cell BK250.out 0).trans rfl
        have hfz41_0 := blk_frozen BK250.out 0
        go_wp2_with (first | ((with_reducible refine gate_callee (f := 109) rfl ?_); refine goesL_ (some 14) rfl rfl Try.func109 (by kernel_rfl) rfl #[.agg #[.slice A1_0 l1_0.length c1_0], .int .i64 a2] rfl (by (try simp only [List.map_toArray, List.map_cons, List.map_nil]); first | done | rfl | (simp only [List.length_drop, List.length_take]; rfl)) ?_; (with_reducible refine (spec_Contains.calls k _ _ l1_0 a2 true _ ?side1 ?side2 A9.out).mono ?_); (case side1 => repeat (first | exact (Kd.C_below HR1_0.out HB.out) | exact HR1_0.out | (with_reducible refine Kd.C_alloc ?_ _) | (with_reducible refine Kd.C_drewN ?_ _) | (with_reducible refine Kd.C_drew ?_))); (case side2 => exact HC1_0.out); rintro e w42 ⟨rfl, hb⟩; refine ⟨_, rfl, ?_⟩; have n0_ := Aside0.mk (blk_below (bk_ BK249.out) hb); have n1_ := Aside0.mk (blk_below (bk_ BK250.out) hb); have n2_ := Aside0.mk (blk_below (bk_ BK251.out) hb); have n3_ := Aside0.mk (below_step (bl_ HB.out) hb); clear BK249; clear BK250; clear BK251; clear HB; have BK249 := n0_; have BK250 := n1_; have BK251 := n2_; have HB := n3_; clear n0_ n1_ n2_ n3_; (try clear hb); (try clear hb2); (try clear hk); (try clear hi); have hnb43 := NB249_251.out; have hnc43 := NB251_249.out; have hcz44_0 : w42.cell? ⟨gb249, 0, none⟩ = some (.slice A0_0 l0_0.length c0_0) := (blk_cell BK249.out 0).trans rfl; have hfz44_0 := blk_frozen BK249.out 0) | (go_at_call 109; (with_reducible refine (spec_Contains.calls k _ _ l0_0 a3 true _ ?side1 ?side2 A11.out).mono ?_); (case side1 => repeat (first | exact (Kd.C_below HR0_0.out HB.out) | (with_reducible refine Kd.C_alloc ?_ _) | (with_reducible refine Kd.C_drewN ?_ _) | (with_reducible refine Kd.C_drew ?_))); (case side2 => exact HC0_0.out); rintro e w45 ⟨rfl, hb⟩; have n0_ := Aside0.mk (blk_below (bk_ BK249.out) hb); have n1_ := Aside0.mk (blk_below (bk_ BK250.out) hb); have n2_ := Aside0.mk (blk_below (bk_ BK251.out) hb); have n3_ := Aside0.mk (below_step (bl_ HB.out) hb); clear BK249; clear BK250; clear BK251; clear HB; have BK249 := n0_; have BK250 := n1_; have BK251 := n2_; have HB := n3_; clear n0_ n1_ n2_ n3_; (try clear hb); (try clear hb2); (try clear hk); (try clear hi); have hcz46_0 : w45.cell? ⟨gb250, 0, none⟩ = some (.slice A1_0 l1_0.length c1_0) := (blk_cell BK250.out 0).trans rfl; have hfz46_0 := blk_frozen BK250.out 0) | (go_at_call 110; (with_reducible refine (spec_HasNumber.calls k _ _ l1_0 a2 false _ ?side1 ?side2 A13.out).mono ?_); (case side1 => repeat (first | exact (Kd.C_below HR1_0.out HB.out) | (with_reducible refine Kd.C_alloc ?_ _) | (with_reducible refine Kd.C_drewN ?_ _) | (with_reducible refine Kd.C_drew ?_))); (case side2 => exact HC1_0.out); rintro e w' ⟨rfl, ⟨nd, rfl⟩⟩; have hcz47_0 : w45.cell? ⟨gb249, 0, none⟩ = some (.slice A0_0 l0_0.length c0_0) := (blk_cell BK249.out 0).trans rfl; have hfz47_0 := blk_frozen BK249.out 0) | (go_at_call 110; (with_reducible refine (spec_HasNumber.calls k _ _ l0_0 a3 false _ ?side1 ?side2 A23.out).mono ?_); (case side1 => repeat (first | exact (Kd.C_below HR0_0.out (bl_ HB.out)) | (with_reducible refine Kd.C_alloc ?_ _) | (with_reducible refine Kd.C_drewN ?_ _) | (with_reducible refine Kd.C_drew ?_))); (case side2 => exact HC0_0.out); rintro e w' ⟨rfl, ⟨nd, rfl⟩⟩) | (go_at_call 75; (with_reducible refine (spec_l1In.calls a2 1 60 true _ A34.out).mono ?_); rintro e w' ⟨rfl, ⟨nd, rfl⟩⟩) | (go_at_call 75; (with_reducible refine (spec_l1In.calls a3 1 60 true _ A36.out).mono ?_); rintro e w' ⟨rfl, ⟨nd, rfl⟩⟩) | (go_at_call 97; (with_reducible refine (spec_GcdOf.calls k a2 a3 t258 _ A38.out).mono ?_); rintro e w' ⟨rfl, ⟨nd, rfl⟩⟩))
        go_meet
        case rel => exact ⟨_, ((t258 != 1)), (by first | rfl | (simp; done) | (simp [*]; done)), H', ⟨by first | omega | exact Nat.le_refl _⟩, ⟨bk_ BK249.out⟩, ⟨bk_ BK250.out⟩, ⟨bk_ BK251.out⟩, ⟨bl_ HB.out⟩⟩
       ·replace c37 := Bool.eq_false_iff.mpr c37
        subst c37
        rw [if_neg (show ¬ (false = true) by decide)] at H
        have H' := Aside0.mk H
        clear H
        have hnb48 := NB250_249.out
        have hnc48 := NB249_250.out
        have hnb49 := NB250_251.out
        have hnc49 := NB251_250.out
        have hcz50_0 : w8.cell? ⟨gb250, 0, none⟩ = some (.slice A1_0 l1_0.length c1_0) := (blk_cell BK250.out 0).trans rfl
        have hfz50_0 := blk_frozen BK250.out 0
        go_wp2_with (first | ((with_reducible refine gate_callee (f := 109) rfl ?_); refine goesL_ (some 14) rfl rfl Try.func109 (by kernel_rfl) rfl #[.agg #[.slice A1_0 l1_0.length c1_0], .int .i64 a2] rfl (by (try simp only [List.map_toArray, List.map_cons, List.map_nil]); first | done | rfl | (simp only [List.length_drop, List.length_take]; rfl)) ?_; (with_reducible refine (spec_Contains.calls k _ _ l1_0 a2 true _ ?side1 ?side2 A9.out).mono ?_); (case side1 => repeat (first | exact (Kd.C_below HR1_0.out HB.out) | exact HR1_0.out | (with_reducible refine Kd.C_alloc ?_ _) | (with_reducible refine Kd.C_drewN ?_ _) | (with_reducible refine Kd.C_drew ?_))); (case side2 => exact HC1_0.out); rintro e w51 ⟨rfl, hb⟩; refine ⟨_, rfl, ?_⟩; have n0_ := Aside0.mk (blk_below (bk_ BK249.out) hb); have n1_ := Aside0.mk (blk_below (bk_ BK250.out) hb); have n2_ := Aside0.mk (blk_below (bk_ BK251.out) hb); have n3_ := Aside0.mk (below_step (bl_ HB.out) hb); clear BK249; clear BK250; clear BK251; clear HB; have BK249 := n0_; have BK250 := n1_; have BK251 := n2_; have HB := n3_; clear n0_ n1_ n2_ n3_; (try clear hb); (try clear hb2); (try clear hk); (try clear hi); have hnb52 := NB249_251.out; have hnc52 := NB251_249.out; have hcz53_0 : w51.cell? ⟨gb249, 0, none⟩ = some (.slice A0_0 l0_0.length c0_0) := (blk_cell BK249.out 0).trans rfl; have hfz53_0 := blk_frozen BK249.out 0) | (go_at_call 109; (with_reducible refine (spec_Contains.calls k _ _ l0_0 a3 true _ ?side1 ?side2 A11.out).mono ?_); (case side1 => repeat (first | exact (Kd.C_below HR0_0.out HB.out) | (with_reducible refine Kd.C_alloc ?_ _) | (with_reducible refine Kd.C_drewN ?_ _) | (with_reducible refine Kd.C_drew ?_))); (case side2 => exact HC0_0.out); rintro e w54 ⟨rfl, hb⟩; have n0_ := Aside0.mk (blk_below (bk_ BK249.out) hb); have n1_ := Aside0.mk (blk_below (bk_ BK250.out) hb); have n2_ := Aside0.mk (blk_below (bk_ BK251.out) hb); have n3_ := Aside0.mk (below_step (bl_ HB.out) hb); clear BK249; clear BK250; clear BK251; clear HB; have BK249 := n0_; have BK250 := n1_; have BK251 := n2_; have HB := n3_; clear n0_ n1_ n2_ n3_; (try clear hb); (try clear hb2); (try clear hk); (try clear hi); have hcz55_0 : w54.cell? ⟨gb250, 0, none⟩ = some (.slice A1_0 l1_0.length c1_0) := (blk_cell BK250.out 0).trans rfl; have hfz55_0 := blk_frozen BK250.out 0) | (go_at_call 110; (with_reducible refine (spec_HasNumber.calls k _ _ l1_0 a2 false _ ?side1 ?side2 A13.out).mono ?_); (case side1 => repeat (first | exact (Kd.C_below HR1_0.out HB.out) | (with_reducible refine Kd.C_alloc ?_ _) | (with_reducible refine Kd.C_drewN ?_ _) | (with_reducible refine Kd.C_drew ?_))); (case side2 => exact HC1_0.out); rintro e w' ⟨rfl, ⟨nd, rfl⟩⟩; have hcz56_0 : w54.cell? ⟨gb249, 0, none⟩ = some (.slice A0_0 l0_0.length c0_0) := (blk_cell BK249.out 0).trans rfl; have hfz56_0 := blk_frozen BK249.out 0) | (go_at_call 110; (with_reducible refine (spec_HasNumber.calls k _ _ l0_0 a3 false _ ?side1 ?side2 A23.out).mono ?_); (case side1 => repeat (first | exact (Kd.C_below HR0_0.out (bl_ HB.out)) | (with_reducible refine Kd.C_alloc ?_ _) | (with_reducible refine Kd.C_drewN ?_ _) | (with_reducible refine Kd.C_drew ?_))); (case side2 => exact HC0_0.out); rintro e w' ⟨rfl, ⟨nd, rfl⟩⟩) | (go_at_call 75; (with_reducible refine (spec_l1In.calls a2 1 60 true _ A34.out).mono ?_); rintro e w' ⟨rfl, ⟨nd, rfl⟩⟩) | (go_at_call 75; (with_reducible refine (spec_l1In.calls a3 1 60 false _ A36.out).mono ?_); rintro e w' ⟨rfl, ⟨nd, rfl⟩⟩))
        go_meet
        case rel => exact ⟨_, (true), (by first | rfl | (simp; done) | (simp [*]; done)), H', ⟨by first | omega | exact Nat.le_refl _⟩, ⟨bk_ BK249.out⟩, ⟨bk_ BK250.out⟩, ⟨bk_ BK251.out⟩, ⟨bl_ HB.out⟩⟩
      ·replace c35 := Bool.eq_false_iff.mpr c35
       subst c35
       rw [if_neg (show ¬ (false = true) by decide)] at H
       have H' := Aside0.mk H
       clear H
       have hnb57 := NB250_249.out
       have hnc57 := NB249_250.out
       have hnb58 := NB250_251.out
       have hnc58 := NB251_250.out
       have hcz59_0 : w8.cell? ⟨gb250, 0, none⟩ = some (.slice A1_0 l1_0.length c1_0) := (blk_cell BK250.out 0).trans rfl
       have hfz59_0 := blk_frozen BK250.out 0
       go_wp2_with (first | ((with_reducible refine gate_callee (f := 109) rfl ?_); refine goesL_ (some 14) rfl rfl Try.func109 (by kernel_rfl) rfl #[.agg #[.slice A1_0 l1_0.length c1_0], .int .i64 a2] rfl (by (try simp only [List.map_toArray, List.map_cons, List.map_nil]); first | done | rfl | (simp only [List.length_drop, List.length_take]; rfl)) ?_; (with_reducible refine (spec_Contains.calls k _ _ l1_0 a2 true _ ?side1 ?side2 A9.out).mono ?_); (case side1 => repeat (first | exact (Kd.C_below HR1_0.out HB.out) | exact HR1_0.out | (with_reducible refine Kd.C_alloc ?_ _) | (with_reducible refine Kd.C_drewN ?_ _) | (with_reducible refine Kd.C_drew ?_))); (case side2 => exact HC1_0.out); rintro e w60 ⟨rfl, hb⟩; refine ⟨_, rfl, ?_⟩; have n0_ := Aside0.mk (blk_below (bk_ BK249.out) hb); have n1_ := Aside0.mk (blk_below (bk_ BK250.out) hb); have n2_ := Aside0.mk (blk_below (bk_ BK251.out) hb); have n3_ := Aside0.mk (below_step (bl_ HB.out) hb); clear BK249; clear BK250; clear BK251; clear HB; have BK249 := n0_; have BK250 := n1_; have BK251 := n2_; have HB := n3_; clear n0_ n1_ n2_ n3_; (try clear hb); (try clear hb2); (try clear hk); (try clear hi); have hnb61 := NB249_251.out; have hnc61 := NB251_249.out; have hcz62_0 : w60.cell? ⟨gb249, 0, none⟩ = some (.slice A0_0 l0_0.length c0_0) := (blk_cell BK249.out 0).trans rfl; have hfz62_0 := blk_frozen BK249.out 0) | (go_at_call 109; (with_reducible refine (spec_Contains.calls k _ _ l0_0 a3 true _ ?side1 ?side2 A11.out).mono ?_); (case side1 => repeat (first | exact (Kd.C_below HR0_0.out HB.out) | (with_reducible refine Kd.C_alloc ?_ _) | (with_reducible refine Kd.C_drewN ?_ _) | (with_reducible refine Kd.C_drew ?_))); (case side2 => exact HC0_0.out); rintro e w63 ⟨rfl, hb⟩; have n0_ := Aside0.mk (blk_below (bk_ BK249.out) hb); have n1_ := Aside0.mk (blk_below (bk_ BK250.out) hb); have n2_ := Aside0.mk (blk_below (bk_ BK251.out) hb); have n3_ := Aside0.mk (below_step (bl_ HB.out) hb); clear BK249; clear BK250; clear BK251; clear HB; have BK249 := n0_; have BK250 := n1_; have BK251 := n2_; have HB := n3_; clear n0_ n1_ n2_ n3_; (try clear hb); (try clear hb2); (try clear hk); (try clear hi); have hcz64_0 : w63.cell? ⟨gb250, 0, none⟩ = some (.slice A1_0 l1_0.length c1_0) := (blk_cell BK250.out 0).trans rfl; have hfz64_0 := blk_frozen BK250.out 0) | (go_at_call 110; (with_reducible refine (spec_HasNumber.calls k _ _ l1_0 a2 false _ ?side1 ?side2 A13.out).mono ?_); (case side1 => repeat (first | exact (Kd.C_below HR1_0.out HB.out) | (with_reducible refine Kd.C_alloc ?_ _) | (with_reducible refine Kd.C_drewN ?_ _) | (with_reducible refine Kd.C_drew ?_))); (case side2 => exact HC1_0.out); rintro e w' ⟨rfl, ⟨nd, rfl⟩⟩; have hcz65_0 : w63.cell? ⟨gb249, 0, none⟩ = some (.slice A0_0 l0_0.length c0_0) := (blk_cell BK249.out 0).trans rfl; have hfz65_0 := blk_frozen BK249.out 0) | (go_at_call 110; (with_reducible refine (spec_HasNumber.calls k _ _ l0_0 a3 false _ ?side1 ?side2 A23.out).mono ?_); (case side1 => repeat (first | exact (Kd.C_below HR0_0.out (bl_ HB.out)) | (with_reducible refine Kd.C_alloc ?_ _) | (with_reducible refine Kd.C_drewN ?_ _) | (with_reducible refine Kd.C_drew ?_))); (case side2 => exact HC0_0.out); rintro e w' ⟨rfl, ⟨nd, rfl⟩⟩) | (go_at_call 75; (with_reducible refine (spec_l1In.calls a2 1 60 false _ A34.out).mono ?_); rintro e w' ⟨rfl, ⟨nd, rfl⟩⟩))
       go_meet
       case rel => exact ⟨_, (true), (by first | rfl | (simp; done) | (simp [*]; done)), H', ⟨by first | omega | exact Nat.le_refl _⟩, ⟨bk_ BK249.out⟩, ⟨bk_ BK250.out⟩, ⟨bk_ BK251.out⟩, ⟨bl_ HB.out⟩⟩
   ·replace c12 := Bool.eq_false_iff.mpr c12
    subst c12
    rw [if_neg (show ¬ (false = true) by decide)] at H
    have H' := Aside0.mk H
    clear H
    have hnb66 := NB250_249.out
    have hnc66 := NB249_250.out
    have hnb67 := NB250_251.out
    have hnc67 := NB251_250.out
    have hcz68_0 : w8.cell? ⟨gb250, 0, none⟩ = some (.slice A1_0 l1_0.length c1_0) := (blk_cell BK250.out 0).trans rfl
    have hfz68_0 := blk_frozen BK250.out 0
    go_wp2_with (first | ((with_reducible refine gate_callee (f := 109) rfl ?_); refine goesL_ (some 14) rfl rfl Try.func109 (by kernel_rfl) rfl #[.agg #[.slice A1_0 l1_0.length c1_0], .int .i64 a2] rfl (by (try simp only [List.map_toArray, List.map_cons, List.map_nil]); first | done | rfl | (simp only [List.length_drop, List.length_take]; rfl)) ?_; (with_reducible refine (spec_Contains.calls k _ _ l1_0 a2 true _ ?side1 ?side2 A9.out).mono ?_); (case side1 => repeat (first | exact (Kd.C_below HR1_0.out HB.out) | exact HR1_0.out | (with_reducible refine Kd.C_alloc ?_ _) | (with_reducible refine Kd.C_drewN ?_ _) | (with_reducible refine Kd.C_drew ?_))); (case side2 => exact HC1_0.out); rintro e w69 ⟨rfl, hb⟩; refine ⟨_, rfl, ?_⟩; have n0_ := Aside0.mk (blk_below (bk_ BK249.out) hb); have n1_ := Aside0.mk (blk_below (bk_ BK250.out) hb); have n2_ := Aside0.mk (blk_below (bk_ BK251.out) hb); have n3_ := Aside0.mk (below_step (bl_ HB.out) hb); clear BK249; clear BK250; clear BK251; clear HB; have BK249 := n0_; have BK250 := n1_; have BK251 := n2_; have HB := n3_; clear n0_ n1_ n2_ n3_; (try clear hb); (try clear hb2); (try clear hk); (try clear hi); have hnb70 := NB249_251.out; have hnc70 := NB251_249.out; have hcz71_0 : w69.cell? ⟨gb249, 0, none⟩ = some (.slice A0_0 l0_0.length c0_0) := (blk_cell BK249.out 0).trans rfl; have hfz71_0 := blk_frozen BK249.out 0) | (go_at_call 109; (with_reducible refine (spec_Contains.calls k _ _ l0_0 a3 false _ ?side1 ?side2 A11.out).mono ?_); (case side1 => repeat (first | exact (Kd.C_below HR0_0.out HB.out) | (with_reducible refine Kd.C_alloc ?_ _) | (with_reducible refine Kd.C_drewN ?_ _) | (with_reducible refine Kd.C_drew ?_))); (case side2 => exact HC0_0.out); rintro e w72 ⟨rfl, hb⟩; have n0_ := Aside0.mk (blk_below (bk_ BK249.out) hb); have n1_ := Aside0.mk (blk_below (bk_ BK250.out) hb); have n2_ := Aside0.mk (blk_below (bk_ BK251.out) hb); have n3_ := Aside0.mk (below_step (bl_ HB.out) hb); clear BK249; clear BK250; clear BK251; clear HB; have BK249 := n0_; have BK250 := n1_; have BK251 := n2_; have HB := n3_; clear n0_ n1_ n2_ n3_; (try clear hb); (try clear hb2); (try clear hk); (try clear hi)))
    go_meet
    case rel => exact ⟨_, (true), (by first | rfl | (simp; done) | (simp [*]; done)), H', ⟨by first | omega | exact Nat.le_refl _⟩, ⟨bk_ BK249.out⟩, ⟨bk_ BK250.out⟩, ⟨bk_ BK251.out⟩, ⟨bl_ HB.out⟩⟩
  ·replace c10 := Bool.eq_false_iff.mpr c10
   subst c10
   rw [if_neg (show ¬ (false = true) by decide)] at H
   have H' := Aside0.mk H
   clear H
   have hnb73 := NB250_249.out
   have hnc73 := NB249_250.out
   have hnb74 := NB250_251.out
   have hnc74 := NB251_250.out
   have hcz75_0 : w8.cell? ⟨gb250, 0, none⟩ = some (.slice A1_0 l1_0.length c1_0) := (blk_cell BK250.out 0).trans rfl
   have hfz75_0 := blk_frozen BK250.out 0
   go_wp2_with (first | ((with_reducible refine gate_callee (f := 109) rfl ?_); refine goesL_ (some 14) rfl rfl Try.func109 (by kernel_rfl) rfl #[.agg #[.slice A1_0 l1_0.length c1_0], .int .i64 a2] rfl (by (try simp only [List.map_toArray, List.map_cons, List.map_nil]); first | done | rfl | (simp only [List.length_drop, List.length_take]; rfl)) ?_; (with_reducible refine (spec_Contains.calls k _ _ l1_0 a2 false _ ?side1 ?side2 A9.out).mono ?_); (case side1 => repeat (first | exact (Kd.C_below HR1_0.out HB.out) | exact HR1_0.out | (with_reducible refine Kd.C_alloc ?_ _) | (with_reducible refine Kd.C_drewN ?_ _) | (with_reducible refine Kd.C_drew ?_))); (case side2 => exact HC1_0.out); rintro e w76 ⟨rfl, hb⟩; refine ⟨_, rfl, ?_⟩; have n0_ := Aside0.mk (blk_below (bk_ BK249.out) hb); have n1_ := Aside0.mk (blk_below (bk_ BK250.out) hb); have n2_ := Aside0.mk (blk_below (bk_ BK251.out) hb); have n3_ := Aside0.mk (below_step (bl_ HB.out) hb); clear BK249; clear BK250; clear BK251; clear HB; have BK249 := n0_; have BK250 := n1_; have BK251 := n2_; have HB := n3_; clear n0_ n1_ n2_ n3_; (try clear hb); (try clear hb2); (try clear hk); (try clear hi)))
   go_meet
   case rel => exact ⟨_, (true), (by first | rfl | (simp; done) | (simp [*]; done)), H', ⟨by first | omega | exact Nat.le_refl _⟩, ⟨bk_ BK249.out⟩, ⟨bk_ BK250.out⟩, ⟨bk_ BK251.out⟩, ⟨bl_ HB.out⟩⟩
 case rest =>
  clear HC5
  try clear c1
  try clear c2
  try clear p2
  try clear c3
  try clear c4
  try clear c5
  try clear c6
  try clear c7
  try clear c10
  try clear c12
  try clear c14
  try clear c15
  try clear c16
  try clear c19
  try clear c24
  try clear c25
  try clear c26
  try clear c29
  try clear c35
  try clear c37
  try clear c39
  try clear c40
  try clear c43
  try clear c48
  try clear c49
  try clear c52
  try clear c55
  try clear c57
  try clear c58
  try clear c61
  try clear c66
  try clear c67
  try clear c70
  try clear c73
  try clear c74
  try clear hcz17_0
  try clear hcz20_0
  try clear hcz22_0
  try clear hcz27_0
  try clear hcz30_0
  try clear hcz32_0
  try clear hcz33_0
  try clear hcz41_0
  try clear hcz44_0
  try clear hcz46_0
  try clear hcz47_0
  try clear hcz50_0
  try clear hcz53_0
  try clear hcz55_0
  try clear hcz56_0
  try clear hcz59_0
  try clear hcz62_0
  try clear hcz64_0
  try clear hcz65_0
  try clear hcz68_0
  try clear hcz71_0
  try clear hcz75_0
  try clear hfz17_0
  try clear hfz20_0
  try clear hfz22_0
  try clear hfz27_0
  try clear hfz30_0
  try clear hfz32_0
  try clear hfz33_0
  try clear hfz41_0
  try clear hfz44_0
  try clear hfz46_0
  try clear hfz47_0
  try clear hfz50_0
  try clear hfz53_0
  try clear hfz55_0
  try clear hfz56_0
  try clear hfz59_0
  try clear hfz62_0
  try clear hfz64_0
  try clear hfz65_0
  try clear hfz68_0
  try clear hfz71_0
  try clear hfz75_0
  obtain ⟨kq, x49_4, rfl, HA, HJ4, BK249, BK250, BK251, HB⟩ := hcut
  cases kq with
  | zero => exact absurd HA.out (by simp [spec_GlueOf.j0])
  | succ kj4 =>
   have H := HA.out
   clear HA
   simp only [spec_GlueOf.j0] at H
   by_cases c77 : x49_4 = true
   ·subst c77
    rw [if_pos rfl] at H
    simp only [Option.some.injEq, Prod.mk.injEq] at H
    obtain ⟨rfl, rfl⟩ := H
    have hnb78 := NB251_249.out
    have hnc78 := NB249_251.out
    have hnb79 := NB251_250.out
    have hnc79 := NB250_251.out
    have hcz80_0 : wc.cell? ⟨gb251, 0, none⟩ = some (.slice none 0 0) := (blk_cell BK251.out 0).trans rfl
    have hfz80_0 := blk_frozen BK251.out 0
    go_wp2
    refine bodyPost_ret (results_ct rfl _ _ gb251 41 #[.slice none 0 0] (0, 0) _ rfl (by (with_reducible repeat (first | refine blk_drewN ?_ _ | refine blk_drew ?_ | refine blk_alloc ?_ _)); refine blk_put (cs := #[.slice none 0 0]) ?_ 0 _ rfl; (with_reducible repeat (first | refine blk_drewN ?_ _ | refine blk_drew ?_ | refine blk_alloc ?_ _)); exact BK251.out) Try.underlying41 rfl (by kernel_rfl)) rfl ?_
    exact ⟨_, by first | rfl | (simp [errW_none, errW_some] <;> rfl) | (simp [*, errW_none, errW_some] <;> rfl), by first | exact Kd.R_nil _ _ _ _ _ | exact Kd.N_nil _ _ _ _ _ | exact Kd.V_nil _ _ _ _ _ | exact Kd.Q_nil _ _ _ _ _ | exact Kd.S_nil _ _ _ _ _, bl_ HB.out⟩
   ·replace c77 := Bool.eq_false_iff.mpr c77
    subst c77
    rw [if_neg (show ¬ (false = true) by decide)] at H
    replace H := Option.bind_eq_some_iff.mp H
    obtain ⟨t259, A810, H⟩ := H
    (try dsimp only at H)
    have A81 := Aside0.mk A810
    clear A810
    replace H := Option.bind_eq_some_iff.mp H
    obtain ⟨t262, A820, H⟩ := H
    (try dsimp only at H)
    have A82 := Aside0.mk A820
    clear A820
    by_cases c83 : t259.length + t262.length < 17592186044416
    ·rw [if_pos c83] at H
     have LMc83 := Aside0.mk c83
     clear c83
     obtain ⟨y265, hy265⟩ : ∃ y_ : List Int, y_ = (t259 ++ t262) := ⟨_, rfl⟩
     replace H : ((spec_FromGens.f kj4 y265).bind fun bt268 => (some (bt268.1, bt268.2))) = some (r1, r2) := by first | (rw [hy265]; with_reducible exact H) | (have H2_ := (Option.bind_some _ _).symm.trans H; rw [hy265]; with_reducible exact H2_) | (have H2_ := (Option.bind_some _ _).symm.trans H; with_reducible exact H2_) | with_reducible exact H | (rw [hy265]; exact H) | exact H
     have Ny265 := Aside0.mk hy265
     clear hy265
     replace H := Option.bind_eq_some_iff.mp H
     obtain ⟨⟨t268, t271⟩, A840, H⟩ := H
     (try dsimp only at H)
     have A84 := Aside0.mk A840
     clear A840
     simp only [Option.some.injEq, Prod.mk.injEq] at H
     obtain ⟨rfl, rfl⟩ := H
     try go_wp2
     have n0_ := Aside0.mk (blk_drew BK249.out)
     have n1_ := Aside0.mk (blk_drew BK250.out)
     have n2_ := Aside0.mk (blk_drew BK251.out)
     have n3_ := Aside0.mk (below_drew1 HB.out)
     clear BK249
     clear BK250
     clear BK251
     clear HB
     have BK249 := n0_
     have BK250 := n1_
     have BK251 := n2_
     have HB := n3_
     clear n0_ n1_ n2_ n3_
     refine start_ (n := 16) (S := fun w' => w'.cell? ⟨gb249, 0, none⟩ = some (.slice A0_0 l0_0.length c0_0) ∧ w'.cell? ⟨gb250, 0, none⟩ = some (.slice A1_0 l1_0.length c1_0)) (ds := []) #[f_,f_,f_,f_,f_,f_,f_,f_,f_,f_,f_,f_,f_,f_,f_,f_] (by kernel_rfl) rfl rfl ⟨(blk_cell BK249.out 0).trans rfl, (blk_cell BK250.out 0).trans rfl⟩ (fun hHeld => ?_); refine with_tabW spec_GlueOf.tab3 spec_GlueOf.bits3 (fun HT_ HW_ => ?_)
     generalize wc.drew = w85 at BK249 BK250 BK251 HB hHeld ⊢
     refine pure_ (i := 0) (N := some 52) (v := ?_) (a' := ?_) #[t_,f_,f_,f_,f_,f_,f_,f_,f_,f_,f_,f_,f_,f_,f_,f_] rfl rfl (any_of HT_.out (by kernel_rfl)) (fun _ _ _ h => h) (Or.inl ⟨by rfl, ?_⟩) ?_ ?_
     rotate_left
     ·intro w'
      go_simp
      with_reducible rfl
     rotate_left
     ·simp only [Act.put, List.setIfInBounds_toArray, List.set_cons_zero, List.set_cons_succ, i64_w, i32_w]
      rfl
     refine pure_ (i := 2) (N := some 54) (v := ?_) (a' := ?_) #[t_,f_,t_,f_,f_,f_,f_,f_,f_,f_,f_,f_,f_,f_,f_,f_] rfl rfl (any_of HT_.out (by kernel_rfl)) (fun _ _ _ h => h) (Or.inl ⟨by rfl, ?_⟩) ?_ ?_
     rotate_left
     ·intro w'
      go_simp
      with_reducible rfl
     rotate_left
     ·simp only [Act.put, List.setIfInBounds_toArray, List.set_cons_zero, List.set_cons_succ, i64_w, i32_w]
      rfl
     refine pure_ (i := 4) (N := some 56) (v := ?_) (a' := ?_) #[t_,f_,t_,f_,t_,f_,f_,f_,f_,f_,f_,f_,f_,f_,f_,f_] rfl rfl (any_of HT_.out (by kernel_rfl)) (fun _ _ _ h => h) (Or.inl ⟨by rfl, ?_⟩) ?_ ?_
     rotate_left
     ·intro w'
      go_simp
      with_reducible rfl
     rotate_left
     ·simp only [Act.put, List.setIfInBounds_toArray, List.set_cons_zero, List.set_cons_succ, i64_w, i32_w]
      rfl
     refine pure_ (i := 6) (N := some 58) (v := ?_) (a' := ?_) #[t_,f_,t_,f_,t_,f_,t_,f_,f_,f_,f_,f_,f_,f_,f_,f_] rfl rfl (any_of HT_.out (by kernel_rfl)) (fun _ _ _ h => h) (Or.inl ⟨by rfl, ?_⟩) ?_ ?_
     rotate_left
     ·intro w'
      go_simp
      with_reducible rfl
     rotate_left
     ·simp only [Act.put, List.setIfInBounds_toArray, List.set_cons_zero, List.set_cons_succ, i64_w, i32_w]
      rfl
     refine take_ (i := 1) (N := some 53) (v := ?_) (a' := ?_) #[t_,t_,t_,f_,t_,f_,t_,f_,f_,f_,f_,f_,f_,f_,f_,f_] rfl rfl (take_ofW HT_.out HW_.out (by kernel_rfl)) (fun _ _ _ h => h) (Or.inl ⟨by rfl, ?_⟩) hHeld ?_ ?_
     rotate_left
     ·rintro w' ⟨s0, s1⟩
      go_simp
      with_reducible rfl
     rotate_left
     ·simp only [Act.put, List.setIfInBounds_toArray, List.set_cons_zero, List.set_cons_succ, i64_w, i32_w]
      rfl
     refine take_ (i := 5) (N := some 57) (v := ?_) (a' := ?_) #[t_,t_,t_,f_,t_,t_,t_,f_,f_,f_,f_,f_,f_,f_,f_,f_] rfl rfl (take_ofW HT_.out HW_.out (by kernel_rfl)) (fun _ _ _ h => h) (Or.inl ⟨by rfl, ?_⟩) hHeld ?_ ?_
     rotate_left
     ·rintro w' ⟨s0, s1⟩
      go_simp
      with_reducible rfl
     rotate_left
     ·simp only [Act.put, List.setIfInBounds_toArray, List.set_cons_zero, List.set_cons_succ, i64_w, i32_w]
      rfl
     refine join_ (σ := Value × Value × Value × Value × Nat) 2 #[t_,t_,t_,t_,t_,t_,t_,t_,t_,t_,t_,t_,t_,t_,f_,f_] (fun s_ => [(55, s_.1), (59, s_.2.1), (60, s_.2.2.1), (61, .tuple #[.agg #[s_.2.2.2.1], .bool t271]), (10, .pointer (some ⟨s_.2.2.2.2, 0, none⟩)), (51, .tuple #[.agg #[s_.2.2.2.1], .bool t271]), (62, .agg #[s_.2.2.2.1]), (63, .bool t271)]) (fun s_ w' => (w'.cell? ⟨gb249, 0, none⟩ = some (.slice A0_0 l0_0.length c0_0) ∧ w'.cell? ⟨gb250, 0, none⟩ = some (.slice A1_0 l1_0.length c1_0)) ∧ (Kd.R (Kd.int .i64) 3 w' w.heap.size (fun k_ => some k_ ≠ (s_.2.2.1 : Value).ownBlock ∧ some k_ ≠ (s_.2.2.2.1 : Value).ownBlock) s_.2.1 t262) ∧ (Kd.R (Kd.int .i64) 3 w' w.heap.size (fun k_ => some k_ ≠ (s_.2.1 : Value).ownBlock ∧ some k_ ≠ (s_.2.2.2.1 : Value).ownBlock) s_.2.2.1 y265) ∧ (Kd.R (Kd.int .i64) 3 w' w.heap.size (fun k_ => some k_ ≠ (s_.2.1 : Value).ownBlock ∧ some k_ ≠ (s_.2.2.1 : Value).ownBlock) s_.2.2.2.1 t268) ∧ (w'.heap[gb249]? = some (.cells #[.slice A0_0 l0_0.length c0_0] 41 (0, 0))) ∧ (w'.heap[gb250]? = some (.cells #[.slice A1_0 l1_0.length c1_0] 41 (0, 0))) ∧ (w'.heap[gb251]? = some (.cells #[.slice none 0 0] 41 (0, 0))) ∧ (w'.heap[s_.2.2.2.2]? = some (.cells #[.slice none 0 0] 41 (0, 0))) ∧ (w.heap.size ≤ s_.2.2.2.2) ∧ (w.heap.size ≤ s_.2.2.2.2) ∧ (gb249 ≠ s_.2.2.2.2) ∧ (s_.2.2.2.2 ≠ gb249) ∧ (gb250 ≠ s_.2.2.2.2) ∧ (s_.2.2.2.2 ≠ gb250) ∧ (gb251 ≠ s_.2.2.2.2) ∧ (s_.2.2.2.2 ≠ gb251) ∧ (Below w.heap.size w w')) ?_ ?_
     rotate_left
     ·intro hJ3_7_8_9_13
      refine join_ (σ := Value × Value × Value × Value) 3 #[t_,t_,t_,t_,t_,t_,t_,t_,t_,t_,t_,t_,t_,f_,f_,f_] (fun s_ => [(55, s_.1), (59, s_.2.1), (60, s_.2.2.1), (61, .tuple #[.agg #[s_.2.2.2], .bool t271]), (51, .tuple #[.agg #[s_.2.2.2], .bool t271]), (62, .agg #[s_.2.2.2]), (63, .bool t271)]) (fun s_ w' => (w'.cell? ⟨gb249, 0, none⟩ = some (.slice A0_0 l0_0.length c0_0) ∧ w'.cell? ⟨gb250, 0, none⟩ = some (.slice A1_0 l1_0.length c1_0)) ∧ (Kd.R (Kd.int .i64) 3 w' w.heap.size (fun k_ => some k_ ≠ (s_.2.2.1 : Value).ownBlock ∧ some k_ ≠ (s_.2.2.2 : Value).ownBlock) s_.2.1 t262) ∧ (Kd.R (Kd.int .i64) 3 w' w.heap.size (fun k_ => some k_ ≠ (s_.2.1 : Value).ownBlock ∧ some k_ ≠ (s_.2.2.2 : Value).ownBlock) s_.2.2.1 y265) ∧ (Kd.R (Kd.int .i64) 3 w' w.heap.size (fun k_ => some k_ ≠ (s_.2.1 : Value).ownBlock ∧ some k_ ≠ (s_.2.2.1 : Value).ownBlock) s_.2.2.2 t268) ∧ (w'.heap[gb249]? = some (.cells #[.slice A0_0 l0_0.length c0_0] 41 (0, 0))) ∧ (w'.heap[gb250]? = some (.cells #[.slice A1_0 l1_0.length c1_0] 41 (0, 0))) ∧ (w'.heap[gb251]? = some (.cells #[.slice none 0 0] 41 (0, 0))) ∧ (Below w.heap.size w w')) ?_ ?_
      rotate_left
      ·intro hJ3_7_8_9
       refine join_ (σ := Value × Value × Value × Nat) 6 #[t_,t_,t_,t_,t_,t_,t_,t_,t_,f_,f_,f_,f_,t_,f_,f_] (fun s_ => [(55, s_.1), (59, s_.2.1), (60, s_.2.2.1), (10, .pointer (some ⟨s_.2.2.2, 0, none⟩))]) (fun s_ w' => (w'.cell? ⟨gb249, 0, none⟩ = some (.slice A0_0 l0_0.length c0_0) ∧ w'.cell? ⟨gb250, 0, none⟩ = some (.slice A1_0 l1_0.length c1_0)) ∧ (Kd.R (Kd.int .i64) 3 w' w.heap.size (fun k_ => some k_ ≠ (s_.2.2.1 : Value).ownBlock) s_.2.1 t262) ∧ (Kd.R (Kd.int .i64) 3 w' w.heap.size (fun k_ => some k_ ≠ (s_.2.1 : Value).ownBlock) s_.2.2.1 y265) ∧ (w'.heap[gb249]? = some (.cells #[.slice A0_0 l0_0.length c0_0] 41 (0, 0))) ∧ (w'.heap[gb250]? = some (.cells #[.slice A1_0 l1_0.length c1_0] 41 (0, 0))) ∧ (w'.heap[gb251]? = some (.cells #[.slice none 0 0] 41 (0, 0))) ∧ (w'.heap[s_.2.2.2]? = some (.cells #[.slice none 0 0] 41 (0, 0))) ∧ (w.heap.size ≤ s_.2.2.2) ∧ (w.heap.size ≤ s_.2.2.2) ∧ (gb249 ≠ s_.2.2.2) ∧ (s_.2.2.2 ≠ gb249) ∧ (gb250 ≠ s_.2.2.2) ∧ (s_.2.2.2 ≠ gb250) ∧ (gb251 ≠ s_.2.2.2) ∧ (s_.2.2.2 ≠ gb251) ∧ (Below w.heap.size w w')) ?_ ?_
       rotate_left
       ·intro hJ3_7_8_13
        refine join_ (σ := Value × Value × Value) 7 #[t_,t_,t_,t_,t_,t_,t_,t_,t_,f_,f_,f_,f_,f_,f_,f_] (fun s_ => [(55, s_.1), (59, s_.2.1), (60, s_.2.2)]) (fun s_ w' => (w'.cell? ⟨gb249, 0, none⟩ = some (.slice A0_0 l0_0.length c0_0) ∧ w'.cell? ⟨gb250, 0, none⟩ = some (.slice A1_0 l1_0.length c1_0)) ∧ (Kd.R (Kd.int .i64) 3 w' w.heap.size (fun k_ => some k_ ≠ (s_.2.2 : Value).ownBlock) s_.2.1 t262) ∧ (Kd.R (Kd.int .i64) 3 w' w.heap.size (fun k_ => some k_ ≠ (s_.2.1 : Value).ownBlock) s_.2.2 y265) ∧ (w'.heap[gb249]? = some (.cells #[.slice A0_0 l0_0.length c0_0] 41 (0, 0))) ∧ (w'.heap[gb250]? = some (.cells #[.slice A1_0 l1_0.length c1_0] 41 (0, 0))) ∧ (w'.heap[gb251]? = some (.cells #[.slice none 0 0] 41 (0, 0))) ∧ (Below w.heap.size w w')) ?_ ?_
        rotate_left
        ·intro hJ3_7_8
         refine join_ (σ := Value × Value × Nat) 7 #[t_,t_,t_,t_,t_,t_,t_,t_,f_,f_,f_,f_,f_,t_,f_,f_] (fun s_ => [(55, s_.1), (59, s_.2.1), (10, .pointer (some ⟨s_.2.2, 0, none⟩))]) (fun s_ w' => (w'.cell? ⟨gb249, 0, none⟩ = some (.slice A0_0 l0_0.length c0_0) ∧ w'.cell? ⟨gb250, 0, none⟩ = some (.slice A1_0 l1_0.length c1_0)) ∧ (Kd.R (Kd.int .i64) 3 w' w.heap.size (fun k_ => some k_ ≠ (s_.2.1 : Value).ownBlock) s_.1 t259) ∧ (Kd.R (Kd.int .i64) 3 w' w.heap.size (fun k_ => some k_ ≠ (s_.1 : Value).ownBlock) s_.2.1 t262) ∧ (w'.heap[gb249]? = some (.cells #[.slice A0_0 l0_0.length c0_0] 41 (0, 0))) ∧ (w'.heap[gb250]? = some (.cells #[.slice A1_0 l1_0.length c1_0] 41 (0, 0))) ∧ (w'.heap[gb251]? = some (.cells #[.slice none 0 0] 41 (0, 0))) ∧ (w'.heap[s_.2.2]? = some (.cells #[.slice none 0 0] 41 (0, 0))) ∧ (w.heap.size ≤ s_.2.2) ∧ (w.heap.size ≤ s_.2.2) ∧ (gb249 ≠ s_.2.2) ∧ (s_.2.2 ≠ gb249) ∧ (gb250 ≠ s_.2.2) ∧ (s_.2.2 ≠ gb250) ∧ (gb251 ≠ s_.2.2) ∧ (s_.2.2 ≠ gb251) ∧ (Below w.heap.size w w')) ?_ ?_
         rotate_left
         ·intro hJ3_7_13
          refine join_ (σ := Value × Value) 8 #[t_,t_,t_,t_,t_,t_,t_,t_,f_,f_,f_,f_,f_,f_,f_,f_] (fun s_ => [(55, s_.1), (59, s_.2)]) (fun s_ w' => (w'.cell? ⟨gb249, 0, none⟩ = some (.slice A0_0 l0_0.length c0_0) ∧ w'.cell? ⟨gb250, 0, none⟩ = some (.slice A1_0 l1_0.length c1_0)) ∧ (Kd.R (Kd.int .i64) 3 w' w.heap.size (fun k_ => some k_ ≠ (s_.2 : Value).ownBlock) s_.1 t259) ∧ (Kd.R (Kd.int .i64) 3 w' w.heap.size (fun k_ => some k_ ≠ (s_.1 : Value).ownBlock) s_.2 t262) ∧ (w'.heap[gb249]? = some (.cells #[.slice A0_0 l0_0.length c0_0] 41 (0, 0))) ∧ (w'.heap[gb250]? = some (.cells #[.slice A1_0 l1_0.length c1_0] 41 (0, 0))) ∧ (w'.heap[gb251]? = some (.cells #[.slice none 0 0] 41 (0, 0))) ∧ (Below w.heap.size w w')) ?_ ?_
          rotate_left
          ·intro hJ3_7
           refine join_ (σ := Value × Nat) 8 #[t_,t_,t_,t_,t_,t_,t_,f_,f_,f_,f_,f_,f_,t_,f_,f_] (fun s_ => [(55, s_.1), (10, .pointer (some ⟨s_.2, 0, none⟩))]) (fun s_ w' => (w'.cell? ⟨gb249, 0, none⟩ = some (.slice A0_0 l0_0.length c0_0) ∧ w'.cell? ⟨gb250, 0, none⟩ = some (.slice A1_0 l1_0.length c1_0)) ∧ (Kd.R (Kd.int .i64) 3 w' w.heap.size (fun _ => True) s_.1 t259) ∧ (w'.heap[gb249]? = some (.cells #[.slice A0_0 l0_0.length c0_0] 41 (0, 0))) ∧ (w'.heap[gb250]? = some (.cells #[.slice A1_0 l1_0.length c1_0] 41 (0, 0))) ∧ (w'.heap[gb251]? = some (.cells #[.slice none 0 0] 41 (0, 0))) ∧ (w'.heap[s_.2]? = some (.cells #[.slice none 0 0] 41 (0, 0))) ∧ (w.heap.size ≤ s_.2) ∧ (w.heap.size ≤ s_.2) ∧ (gb249 ≠ s_.2) ∧ (s_.2 ≠ gb249) ∧ (gb250 ≠ s_.2) ∧ (s_.2 ≠ gb250) ∧ (gb251 ≠ s_.2) ∧ (s_.2 ≠ gb251) ∧ (Below w.heap.size w w')) ?_ ?_
           rotate_left
           ·intro hJ3_13
            refine join_ (σ := Value) 9 #[t_,t_,t_,t_,t_,t_,t_,f_,f_,f_,f_,f_,f_,f_,f_,f_] (fun s_ => [(55, s_)]) (fun s_ w' => (w'.cell? ⟨gb249, 0, none⟩ = some (.slice A0_0 l0_0.length c0_0) ∧ w'.cell? ⟨gb250, 0, none⟩ = some (.slice A1_0 l1_0.length c1_0)) ∧ (Kd.R (Kd.int .i64) 3 w' w.heap.size (fun _ => True) s_ t259) ∧ (w'.heap[gb249]? = some (.cells #[.slice A0_0 l0_0.length c0_0] 41 (0, 0))) ∧ (w'.heap[gb250]? = some (.cells #[.slice A1_0 l1_0.length c1_0] 41 (0, 0))) ∧ (w'.heap[gb251]? = some (.cells #[.slice none 0 0] 41 (0, 0))) ∧ (Below w.heap.size w w')) ?_ ?_
            rotate_left
            ·intro hJ3
             refine join_ (σ := Nat) 9 #[t_,t_,t_,f_,t_,t_,t_,f_,f_,f_,f_,f_,f_,t_,f_,f_] (fun s_ => [(10, .pointer (some ⟨s_, 0, none⟩))]) (fun s_ w' => (w'.cell? ⟨gb249, 0, none⟩ = some (.slice A0_0 l0_0.length c0_0) ∧ w'.cell? ⟨gb250, 0, none⟩ = some (.slice A1_0 l1_0.length c1_0)) ∧ (w'.heap[gb249]? = some (.cells #[.slice A0_0 l0_0.length c0_0] 41 (0, 0))) ∧ (w'.heap[gb250]? = some (.cells #[.slice A1_0 l1_0.length c1_0] 41 (0, 0))) ∧ (w'.heap[gb251]? = some (.cells #[.slice none 0 0] 41 (0, 0))) ∧ (w'.heap[s_]? = some (.cells #[.slice none 0 0] 41 (0, 0))) ∧ (w.heap.size ≤ s_) ∧ (w.heap.size ≤ s_) ∧ (gb249 ≠ s_) ∧ (s_ ≠ gb249) ∧ (gb250 ≠ s_) ∧ (s_ ≠ gb250) ∧ (gb251 ≠ s_) ∧ (s_ ≠ gb251) ∧ (Below w.heap.size w w')) ?_ ?_
             rotate_left
             ·intro hJ13
              refine two_ (i := 3) (j := 13) (Ni := some 55) (Nj := some 10) #[t_,t_,t_,t_,t_,t_,t_,f_,f_,f_,f_,f_,f_,f_,f_,f_] #[t_,t_,t_,f_,t_,t_,t_,f_,f_,f_,f_,f_,f_,t_,f_,f_] rfl rfl rfl rfl (two_of HT_.out (by kernel_rfl)) (by decide) (by decide) (fun K hK => ?_) (fun K hK => ?_)
              ·skip
               refine goes_ Try.func111 (by kernel_rfl) rfl #[.slice A0_0 l0_0.length c0_0, .int .i64 a2] (by rfl) rfl rfl (by (try simp only [List.map_toArray, List.map_cons, List.map_nil]); first | done | rfl | (simp only [List.length_drop, List.length_take]; rfl)) ?_
               with_reducible refine (spec_l22Times.calls kj4 _ _ l0_0 a2 t259 _ ?side1 ?side2 A81.out).mono ?_
               (case side1 => repeat (first | exact (Kd.C_below HR0_0.out HB.out) | exact HR0_0.out | (with_reducible refine Kd.C_alloc ?_ _) | (with_reducible refine Kd.C_drewN ?_ _) | (with_reducible refine Kd.C_drew ?_)))
               (case side2 => exact HC0_0.out)
               rintro e w86 ⟨v260, rfl, ho0, hb⟩
               refine ⟨_, rfl, ?_⟩
               have n0_ := Aside0.mk (Kd.R_lower ho0 (below_size (bl_ HB.out)))
               have n1_ := Aside0.mk (blk_below (bk_ BK249.out) hb)
               have n2_ := Aside0.mk (blk_below (bk_ BK250.out) hb)
               have n3_ := Aside0.mk (blk_below (bk_ BK251.out) hb)
               have n4_ := Aside0.mk (below_step (bl_ HB.out) hb)
               clear BK249
               clear BK250
               clear BK251
               clear HB
               have HO261 := n0_
               have BK249 := n1_
               have BK250 := n2_
               have BK251 := n3_
               have HB := n4_
               clear n0_ n1_ n2_ n3_ n4_
               (try clear hb)
               (try clear hb2)
               (try clear hk)
               (try clear hi)
               (try clear ho0)
               refine hK.out _ _ ⟨(blk_cell BK249.out 0).trans rfl, (blk_cell BK250.out 0).trans rfl⟩ (fun hHeld => ?_)
               clear hK K
               refine norm_ (a' := ?_) ?_ ?_
               rotate_left
               ·show Act.put _ (some 55) _ = _
                simp only [Act.put, List.setIfInBounds_toArray, List.set_cons_zero, List.set_cons_succ, i64_w, i32_w]
                rfl
               exact norm_ (by first | (simp only [putAll, Act.put, List.setIfInBounds_toArray, List.set_cons_zero, List.set_cons_succ]; done) | (simp only [putAll, Act.put, List.setIfInBounds_toArray, List.set_cons_zero, List.set_cons_succ]; rfl)) (hJ3 (v260) _ ⟨hHeld, (kr_ HO261.out), (bk_ BK249.out), (bk_ BK250.out), (bk_ BK251.out), (bl_ HB.out)⟩)
              ·skip
               refine box_step ?hg (N := 10) ?hd (cs := #[.slice none 0 0]) (t := 41) ?hr ?_; (case hd => rfl); (case hg => rfl); (case hr => first | (go_simp; done) | (go_simp; rfl))
               intro gb272 hg w86 hbox hb
               have n0_ := Aside0.mk (blk_below (bk_ BK249.out) hb)
               have n1_ := Aside0.mk (blk_below (bk_ BK250.out) hb)
               have n2_ := Aside0.mk (blk_below (bk_ BK251.out) hb)
               have n3_ := Aside0.mk (below_step (bl_ HB.out) hb)
               have n4_ := Aside0.mk (hbox)
               have n5_ := Aside0.mk ((by rw [hg]; exact (below_size (bl_ HB.out)) : w.heap.size ≤ gb272))
               have n6_ := Aside0.mk ((by rw [hg]; exact (below_size (bl_ HB.out)) : w.heap.size ≤ gb272))
               have n7_ := Aside0.mk ((by rw [hg]; exact Nat.ne_of_lt (blk_lt (bk_ BK249.out)) : gb249 ≠ gb272))
               have n8_ := Aside0.mk ((by rw [hg]; exact Nat.ne_of_gt (blk_lt (bk_ BK249.out)) : gb272 ≠ gb249))
               have n9_ := Aside0.mk ((by rw [hg]; exact Nat.ne_of_lt (blk_lt (bk_ BK250.out)) : gb250 ≠ gb272))
               have n10_ := Aside0.mk ((by rw [hg]; exact Nat.ne_of_gt (blk_lt (bk_ BK250.out)) : gb272 ≠ gb250))
               have n11_ := Aside0.mk ((by rw [hg]; exact Nat.ne_of_lt (blk_lt (bk_ BK251.out)) : gb251 ≠ gb272))
               have n12_ := Aside0.mk ((by rw [hg]; exact Nat.ne_of_gt (blk_lt (bk_ BK251.out)) : gb272 ≠ gb251))
               clear BK249
               clear BK250
               clear BK251
               clear HB
               have BK249 := n0_
               have BK250 := n1_
               have BK251 := n2_
               have HB := n3_
               have BK272 := n4_
               have GW272 := n5_
               have GE272 := n6_
               have NB249_272 := n7_
               have NB272_249 := n8_
               have NB250_272 := n9_
               have NB272_250 := n10_
               have NB251_272 := n11_
               have NB272_251 := n12_
               clear n0_ n1_ n2_ n3_ n4_ n5_ n6_ n7_ n8_ n9_ n10_ n11_ n12_
               clear hb hbox hg
               refine hK.out _ _ ⟨(blk_cell BK249.out 0).trans rfl, (blk_cell BK250.out 0).trans rfl⟩ (fun hHeld => ?_)
               clear hK K
               refine norm_ (a' := ?_) ?_ ?_
               rotate_left
               ·show Act.put _ (some 10) _ = _
                simp only [Act.put, List.setIfInBounds_toArray, List.set_cons_zero, List.set_cons_succ, i64_w, i32_w]
                rfl
               exact norm_ (by first | (simp only [putAll, Act.put, List.setIfInBounds_toArray, List.set_cons_zero, List.set_cons_succ]; done) | (simp only [putAll, Act.put, List.setIfInBounds_toArray, List.set_cons_zero, List.set_cons_succ]; rfl)) (hJ13 (gb272) _ ⟨hHeld, (bk_ BK249.out), (bk_ BK250.out), (bk_ BK251.out), (bk_ BK272.out), GW272.out, GE272.out, NB249_272.out, NB272_249.out, NB250_272.out, NB272_250.out, NB251_272.out, NB272_251.out, (bl_ HB.out)⟩)
             ·skip
              rintro gb272 w87 ⟨hS_, h0_, h1_, h2_, h3_, h4_, h5_, h6_, h7_, h8_, h9_, h10_, h11_, h12_⟩
              have n0_ : Aside0 (w87.heap[gb249]? = some (.cells #[.slice A0_0 l0_0.length c0_0] 41 (0, 0))) := ⟨h0_⟩
              have n1_ : Aside0 (w87.heap[gb250]? = some (.cells #[.slice A1_0 l1_0.length c1_0] 41 (0, 0))) := ⟨h1_⟩
              have n2_ : Aside0 (w87.heap[gb251]? = some (.cells #[.slice none 0 0] 41 (0, 0))) := ⟨h2_⟩
              have n3_ : Aside0 (w87.heap[gb272]? = some (.cells #[.slice none 0 0] 41 (0, 0))) := ⟨h3_⟩
              have n4_ : Aside0 (w.heap.size ≤ gb272) := ⟨h4_⟩
              have n5_ : Aside0 (w.heap.size ≤ gb272) := ⟨h5_⟩
              have n6_ : Aside0 (gb249 ≠ gb272) := ⟨h6_⟩
              have n7_ : Aside0 (gb272 ≠ gb249) := ⟨h7_⟩
              have n8_ : Aside0 (gb250 ≠ gb272) := ⟨h8_⟩
              have n9_ : Aside0 (gb272 ≠ gb250) := ⟨h9_⟩
              have n10_ : Aside0 (gb251 ≠ gb272) := ⟨h10_⟩
              have n11_ : Aside0 (gb272 ≠ gb251) := ⟨h11_⟩
              have n12_ : Aside0 (Below w.heap.size w w87) := ⟨h12_⟩
              clear BK249
              clear BK250
              clear BK251
              clear HB
              clear h0_ h1_ h2_ h3_ h4_ h5_ h6_ h7_ h8_ h9_ h10_ h11_ h12_
              have BK249 := n0_
              have BK250 := n1_
              have BK251 := n2_
              have BK272 := n3_
              have GW272 := n4_
              have GE272 := n5_
              have NB249_272 := n6_
              have NB272_249 := n7_
              have NB250_272 := n8_
              have NB272_250 := n9_
              have NB251_272 := n10_
              have NB272_251 := n11_
              have HB := n12_
              clear n0_ n1_ n2_ n3_ n4_ n5_ n6_ n7_ n8_ n9_ n10_ n11_ n12_
              have hHeld : w87.cell? ⟨gb249, 0, none⟩ = some (.slice A0_0 l0_0.length c0_0) ∧ w87.cell? ⟨gb250, 0, none⟩ = some (.slice A1_0 l1_0.length c1_0) := hS_
              refine norm_ (a' := ?_) ?_ ?_
              rotate_left
              ·simp only [putAll, Act.put, List.setIfInBounds_toArray, List.set_cons_zero, List.set_cons_succ]
               rfl
              refine one_ (i := 3) (N := some 55) #[t_,t_,t_,t_,t_,t_,t_,f_,f_,f_,f_,f_,f_,t_,f_,f_] rfl rfl (one_of HT_.out (by kernel_rfl)) (by decide) (fun K hK => ?_)
              refine goes_ Try.func111 (by kernel_rfl) rfl #[.slice A0_0 l0_0.length c0_0, .int .i64 a2] (by rfl) rfl rfl (by (try simp only [List.map_toArray, List.map_cons, List.map_nil]); first | done | rfl | (simp only [List.length_drop, List.length_take]; rfl)) ?_
              with_reducible refine (spec_l22Times.calls kj4 _ _ l0_0 a2 t259 _ ?side1 ?side2 A81.out).mono ?_
              (case side1 => repeat (first | exact (Kd.C_below HR0_0.out HB.out) | exact HR0_0.out | (with_reducible refine Kd.C_alloc ?_ _) | (with_reducible refine Kd.C_drewN ?_ _) | (with_reducible refine Kd.C_drew ?_)))
              (case side2 => exact HC0_0.out)
              rintro e w88 ⟨v260, rfl, ho0, hb⟩
              refine ⟨_, rfl, ?_⟩
              have n0_ := Aside0.mk (Kd.R_lower ho0 (below_size (bl_ HB.out)))
              have n1_ := Aside0.mk (blk_below (bk_ BK249.out) hb)
              have n2_ := Aside0.mk (blk_below (bk_ BK250.out) hb)
              have n3_ := Aside0.mk (blk_below (bk_ BK251.out) hb)
              have n4_ := Aside0.mk (blk_below (bk_ BK272.out) hb)
              have n5_ := Aside0.mk (below_step (bl_ HB.out) hb)
              clear BK249
              clear BK250
              clear BK251
              clear BK272
              clear HB
              have HO261 := n0_
              have BK249 := n1_
              have BK250 := n2_
              have BK251 := n3_
              have BK272 := n4_
              have HB := n5_
              clear n0_ n1_ n2_ n3_ n4_ n5_
              (try clear hb)
              (try clear hb2)
              (try clear hk)
              (try clear hi)
              (try clear ho0)
              refine hK.out _ _ ⟨(blk_cell BK249.out 0).trans rfl, (blk_cell BK250.out 0).trans rfl⟩ (fun hHeld => ?_)
              clear hK K
              refine norm_ (a' := ?_) ?_ ?_
              rotate_left
              ·show Act.put _ (some 55) _ = _
               simp only [Act.put, List.setIfInBounds_toArray, List.set_cons_zero, List.set_cons_succ, i64_w, i32_w]
               rfl
              exact norm_ (by first | (simp only [putAll, Act.put, List.setIfInBounds_toArray, List.set_cons_zero, List.set_cons_succ]; done) | (simp only [putAll, Act.put, List.setIfInBounds_toArray, List.set_cons_zero, List.set_cons_succ]; rfl)) (hJ3_13 (v260, gb272) _ ⟨hHeld, (kr_ HO261.out), (bk_ BK249.out), (bk_ BK250.out), (bk_ BK251.out), (bk_ BK272.out), GW272.out, GE272.out, NB249_272.out, NB272_249.out, NB250_272.out, NB272_250.out, NB251_272.out, NB272_251.out, (bl_ HB.out)⟩)
            ·skip
             rintro v260 w87 ⟨hS_, h0_, h1_, h2_, h3_, h4_⟩
             have n0_ : Aside0 (Kd.R (Kd.int .i64) 3 w87 w.heap.size (fun _ => True) v260 t259) := ⟨h0_⟩
             have n1_ : Aside0 (w87.heap[gb249]? = some (.cells #[.slice A0_0 l0_0.length c0_0] 41 (0, 0))) := ⟨h1_⟩
             have n2_ : Aside0 (w87.heap[gb250]? = some (.cells #[.slice A1_0 l1_0.length c1_0] 41 (0, 0))) := ⟨h2_⟩
             have n3_ : Aside0 (w87.heap[gb251]? = some (.cells #[.slice none 0 0] 41 (0, 0))) := ⟨h3_⟩
             have n4_ : Aside0 (Below w.heap.size w w87) := ⟨h4_⟩
             clear BK249
             clear BK250
             clear BK251
             clear HB
             clear h0_ h1_ h2_ h3_ h4_
             have HO261 := n0_
             have BK249 := n1_
             have BK250 := n2_
             have BK251 := n3_
             have HB := n4_
             clear n0_ n1_ n2_ n3_ n4_
             have hHeld : w87.cell? ⟨gb249, 0, none⟩ = some (.slice A0_0 l0_0.length c0_0) ∧ w87.cell? ⟨gb250, 0, none⟩ = some (.slice A1_0 l1_0.length c1_0) := hS_
             refine norm_ (a' := ?_) ?_ ?_
             rotate_left
             ·simp only [putAll, Act.put, List.setIfInBounds_toArray, List.set_cons_zero, List.set_cons_succ]
              rfl
             refine two_ (i := 7) (j := 13) (Ni := some 59) (Nj := some 10) #[t_,t_,t_,t_,t_,t_,t_,t_,f_,f_,f_,f_,f_,f_,f_,f_] #[t_,t_,t_,t_,t_,t_,t_,f_,f_,f_,f_,f_,f_,t_,f_,f_] rfl rfl rfl rfl (two_of HT_.out (by kernel_rfl)) (by decide) (by decide) (fun K hK => ?_) (fun K hK => ?_)
             ·skip
              refine goes_ Try.func111 (by kernel_rfl) rfl #[.slice A1_0 l1_0.length c1_0, .int .i64 a3] (by rfl) rfl rfl (by (try simp only [List.map_toArray, List.map_cons, List.map_nil]); first | done | rfl | (simp only [List.length_drop, List.length_take]; rfl)) ?_
              with_reducible refine (spec_l22Times.calls kj4 _ _ l1_0 a3 t262 _ ?side1 ?side2 A82.out).mono ?_
              (case side1 => repeat (first | exact (Kd.C_below HR1_0.out HB.out) | exact HR1_0.out | (with_reducible refine Kd.C_alloc ?_ _) | (with_reducible refine Kd.C_drewN ?_ _) | (with_reducible refine Kd.C_drew ?_)))
              (case side2 => exact HC1_0.out)
              rintro e w88 ⟨v263, rfl, ho0, hb⟩
              refine ⟨_, rfl, ?_⟩
              have n0_ := Aside0.mk (Kd.R_elder' (kr_ HO261.out) (Kd.R_base ho0) hb)
              have n1_ := Aside0.mk (Kd.R_lower (Kd.R_new' ho0 (Kd.R_lt (kr_ HO261.out))) (below_size (bl_ HB.out)))
              have n2_ := Aside0.mk (blk_below (bk_ BK249.out) hb)
              have n3_ := Aside0.mk (blk_below (bk_ BK250.out) hb)
              have n4_ := Aside0.mk (blk_below (bk_ BK251.out) hb)
              have n5_ := Aside0.mk (below_step (bl_ HB.out) hb)
              clear HO261
              clear BK249
              clear BK250
              clear BK251
              clear HB
              have HO261 := n0_
              have HO264 := n1_
              have BK249 := n2_
              have BK250 := n3_
              have BK251 := n4_
              have HB := n5_
              clear n0_ n1_ n2_ n3_ n4_ n5_
              (try clear hb)
              (try clear hb2)
              (try clear hk)
              (try clear hi)
              (try clear ho0)
              refine hK.out _ _ ⟨(blk_cell BK249.out 0).trans rfl, (blk_cell BK250.out 0).trans rfl⟩ (fun hHeld => ?_)
              clear hK K
              refine norm_ (a' := ?_) ?_ ?_
              rotate_left
              ·show Act.put _ (some 59) _ = _
               simp only [Act.put, List.setIfInBounds_toArray, List.set_cons_zero, List.set_cons_succ, i64_w, i32_w]
               rfl
              exact norm_ (by first | (simp only [putAll, Act.put, List.setIfInBounds_toArray, List.set_cons_zero, List.set_cons_succ]; done) | (simp only [putAll, Act.put, List.setIfInBounds_toArray, List.set_cons_zero, List.set_cons_succ]; rfl)) (hJ3_7 (v260, v263) _ ⟨hHeld, (by (with_reducible repeat (first | apply Kd.R_alloc | apply Kd.R_drewN | apply Kd.R_drew)); exact Kd.R_mono HO261.out (fun _ hk => hk.2)), (by (with_reducible repeat (first | apply Kd.R_alloc | apply Kd.R_drewN | apply Kd.R_drew)); exact Kd.R_mono HO264.out (fun _ hk => hk.2)), (bk_ BK249.out), (bk_ BK250.out), (bk_ BK251.out), (bl_ HB.out)⟩)
             ·skip
              refine box_step ?hg (N := 10) ?hd (cs := #[.slice none 0 0]) (t := 41) ?hr ?_; (case hd => rfl); (case hg => rfl); (case hr => first | (go_simp; done) | (go_simp; rfl))
              intro gb272 hg w88 hbox hb
              have n0_ := Aside0.mk (Kd.R_below (kr_ HO261.out) hb)
              have n1_ := Aside0.mk (blk_below (bk_ BK249.out) hb)
              have n2_ := Aside0.mk (blk_below (bk_ BK250.out) hb)
              have n3_ := Aside0.mk (blk_below (bk_ BK251.out) hb)
              have n4_ := Aside0.mk (below_step (bl_ HB.out) hb)
              have n5_ := Aside0.mk (hbox)
              have n6_ := Aside0.mk ((by rw [hg]; exact (below_size (bl_ HB.out)) : w.heap.size ≤ gb272))
              have n7_ := Aside0.mk ((by rw [hg]; exact (below_size (bl_ HB.out)) : w.heap.size ≤ gb272))
              have n8_ := Aside0.mk ((by rw [hg]; exact Nat.ne_of_lt (blk_lt (bk_ BK249.out)) : gb249 ≠ gb272))
              have n9_ := Aside0.mk ((by rw [hg]; exact Nat.ne_of_gt (blk_lt (bk_ BK249.out)) : gb272 ≠ gb249))
              have n10_ := Aside0.mk ((by rw [hg]; exact Nat.ne_of_lt (blk_lt (bk_ BK250.out)) : gb250 ≠ gb272))
              have n11_ := Aside0.mk ((by rw [hg]; exact Nat.ne_of_gt (blk_lt (bk_ BK250.out)) : gb272 ≠ gb250))
              have n12_ := Aside0.mk ((by rw [hg]; exact Nat.ne_of_lt (blk_lt (bk_ BK251.out)) : gb251 ≠ gb272))
              have n13_ := Aside0.mk ((by rw [hg]; exact Nat.ne_of_gt (blk_lt (bk_ BK251.out)) : gb272 ≠ gb251))
              clear HO261
              clear BK249
              clear BK250
              clear BK251
              clear HB
              have HO261 := n0_
              have BK249 := n1_
              have BK250 := n2_
              have BK251 := n3_
              have HB := n4_
              have BK272 := n5_
              have GW272 := n6_
              have GE272 := n7_
              have NB249_272 := n8_
              have NB272_249 := n9_
              have NB250_272 := n10_
              have NB272_250 := n11_
              have NB251_272 := n12_
              have NB272_251 := n13_
              clear n0_ n1_ n2_ n3_ n4_ n5_ n6_ n7_ n8_ n9_ n10_ n11_ n12_ n13_
              clear hb hbox hg
              refine hK.out _ _ ⟨(blk_cell BK249.out 0).trans rfl, (blk_cell BK250.out 0).trans rfl⟩ (fun hHeld => ?_)
              clear hK K
              refine norm_ (a' := ?_) ?_ ?_
              rotate_left
              ·show Act.put _ (some 10) _ = _
               simp only [Act.put, List.setIfInBounds_toArray, List.set_cons_zero, List.set_cons_succ, i64_w, i32_w]
               rfl
              exact norm_ (by first | (simp only [putAll, Act.put, List.setIfInBounds_toArray, List.set_cons_zero, List.set_cons_succ]; done) | (simp only [putAll, Act.put, List.setIfInBounds_toArray, List.set_cons_zero, List.set_cons_succ]; rfl)) (hJ3_13 (v260, gb272) _ ⟨hHeld, (kr_ HO261.out), (bk_ BK249.out), (bk_ BK250.out), (bk_ BK251.out), (bk_ BK272.out), GW272.out, GE272.out, NB249_272.out, NB272_249.out, NB250_272.out, NB272_250.out, NB251_272.out, NB272_251.out, (bl_ HB.out)⟩)
           ·skip
            rintro ⟨v260, gb272⟩ w88 ⟨hS_, h0_, h1_, h2_, h3_, h4_, h5_, h6_, h7_, h8_, h9_, h10_, h11_, h12_, h13_⟩
            have n0_ : Aside0 (Kd.R (Kd.int .i64) 3 w88 w.heap.size (fun _ => True) v260 t259) := ⟨h0_⟩
            have n1_ : Aside0 (w88.heap[gb249]? = some (.cells #[.slice A0_0 l0_0.length c0_0] 41 (0, 0))) := ⟨h1_⟩
            have n2_ : Aside0 (w88.heap[gb250]? = some (.cells #[.slice A1_0 l1_0.length c1_0] 41 (0, 0))) := ⟨h2_⟩
            have n3_ : Aside0 (w88.heap[gb251]? = some (.cells #[.slice none 0 0] 41 (0, 0))) := ⟨h3_⟩
            have n4_ : Aside0 (w88.heap[gb272]? = some (.cells #[.slice none 0 0] 41 (0, 0))) := ⟨h4_⟩
            have n5_ : Aside0 (w.heap.size ≤ gb272) := ⟨h5_⟩
            have n6_ : Aside0 (w.heap.size ≤ gb272) := ⟨h6_⟩
            have n7_ : Aside0 (gb249 ≠ gb272) := ⟨h7_⟩
            have n8_ : Aside0 (gb272 ≠ gb249) := ⟨h8_⟩
            have n9_ : Aside0 (gb250 ≠ gb272) := ⟨h9_⟩
            have n10_ : Aside0 (gb272 ≠ gb250) := ⟨h10_⟩
            have n11_ : Aside0 (gb251 ≠ gb272) := ⟨h11_⟩
            have n12_ : Aside0 (gb272 ≠ gb251) := ⟨h12_⟩
            have n13_ : Aside0 (Below w.heap.size w w88) := ⟨h13_⟩
            clear BK249
            clear BK250
            clear BK251
            clear HB
            clear h0_ h1_ h2_ h3_ h4_ h5_ h6_ h7_ h8_ h9_ h10_ h11_ h12_ h13_
            have HO261 := n0_
            have BK249 := n1_
            have BK250 := n2_
            have BK251 := n3_
            have BK272 := n4_
            have GW272 := n5_
            have GE272 := n6_
            have NB249_272 := n7_
            have NB272_249 := n8_
            have NB250_272 := n9_
            have NB272_250 := n10_
            have NB251_272 := n11_
            have NB272_251 := n12_
            have HB := n13_
            clear n0_ n1_ n2_ n3_ n4_ n5_ n6_ n7_ n8_ n9_ n10_ n11_ n12_ n13_
            have hHeld : w88.cell? ⟨gb249, 0, none⟩ = some (.slice A0_0 l0_0.length c0_0) ∧ w88.cell? ⟨gb250, 0, none⟩ = some (.slice A1_0 l1_0.length c1_0) := hS_
            refine norm_ (a' := ?_) ?_ ?_
            rotate_left
            ·simp only [putAll, Act.put, List.setIfInBounds_toArray, List.set_cons_zero, List.set_cons_succ]
             rfl
            refine one_ (i := 7) (N := some 59) #[t_,t_,t_,t_,t_,t_,t_,t_,f_,f_,f_,f_,f_,t_,f_,f_] rfl rfl (one_of HT_.out (by kernel_rfl)) (by decide) (fun K hK => ?_)
            refine goes_ Try.func111 (by kernel_rfl) rfl #[.slice A1_0 l1_0.length c1_0, .int .i64 a3] (by rfl) rfl rfl (by (try simp only [List.map_toArray, List.map_cons, List.map_nil]); first | done | rfl | (simp only [List.length_drop, List.length_take]; rfl)) ?_
            with_reducible refine (spec_l22Times.calls kj4 _ _ l1_0 a3 t262 _ ?side1 ?side2 A82.out).mono ?_
            (case side1 => repeat (first | exact (Kd.C_below HR1_0.out HB.out) | exact HR1_0.out | (with_reducible refine Kd.C_alloc ?_ _) | (with_reducible refine Kd.C_drewN ?_ _) | (with_reducible refine Kd.C_drew ?_)))
            (case side2 => exact HC1_0.out)
            rintro e w89 ⟨v263, rfl, ho0, hb⟩
            refine ⟨_, rfl, ?_⟩
            have n0_ := Aside0.mk (Kd.R_elder' (kr_ HO261.out) (Kd.R_base ho0) hb)
            have n1_ := Aside0.mk (Kd.R_lower (Kd.R_new' ho0 (Kd.R_lt (kr_ HO261.out))) (below_size (bl_ HB.out)))
            have n2_ := Aside0.mk (blk_below (bk_ BK249.out) hb)
            have n3_ := Aside0.mk (blk_below (bk_ BK250.out) hb)
            have n4_ := Aside0.mk (blk_below (bk_ BK251.out) hb)
            have n5_ := Aside0.mk (blk_below (bk_ BK272.out) hb)
            have n6_ := Aside0.mk (below_step (bl_ HB.out) hb)
            clear HO261
            clear BK249
            clear BK250
            clear BK251
            clear BK272
            clear HB
            have HO261 := n0_
            have HO264 := n1_
            have BK249 := n2_
            have BK250 := n3_
            have BK251 := n4_
            have BK272 := n5_
            have HB := n6_
            clear n0_ n1_ n2_ n3_ n4_ n5_ n6_
            (try clear hb)
            (try clear hb2)
            (try clear hk)
            (try clear hi)
            (try clear ho0)
            refine hK.out _ _ ⟨(blk_cell BK249.out 0).trans rfl, (blk_cell BK250.out 0).trans rfl⟩ (fun hHeld => ?_)
            clear hK K
            refine norm_ (a' := ?_) ?_ ?_
            rotate_left
            ·show Act.put _ (some 59) _ = _
             simp only [Act.put, List.setIfInBounds_toArray, List.set_cons_zero, List.set_cons_succ, i64_w, i32_w]
             rfl
            exact norm_ (by first | (simp only [putAll, Act.put, List.setIfInBounds_toArray, List.set_cons_zero, List.set_cons_succ]; done) | (simp only [putAll, Act.put, List.setIfInBounds_toArray, List.set_cons_zero, List.set_cons_succ]; rfl)) (hJ3_7_13 (v260, v263, gb272) _ ⟨hHeld, (by (with_reducible repeat (first | apply Kd.R_alloc | apply Kd.R_drewN | apply Kd.R_drew)); exact Kd.R_mono HO261.out (fun _ hk => hk.2)), (by (with_reducible repeat (first | apply Kd.R_alloc | apply Kd.R_drewN | apply Kd.R_drew)); exact Kd.R_mono HO264.out (fun _ hk => hk.2)), (bk_ BK249.out), (bk_ BK250.out), (bk_ BK251.out), (bk_ BK272.out), GW272.out, GE272.out, NB249_272.out, NB272_249.out, NB250_272.out, NB272_250.out, NB251_272.out, NB272_251.out, (bl_ HB.out)⟩)
          ·skip
           rintro ⟨v260, v263⟩ w88 ⟨hS_, h0_, h1_, h2_, h3_, h4_, h5_⟩
           have n0_ : Aside0 (Kd.R (Kd.int .i64) 3 w88 w.heap.size (fun k_ => some k_ ≠ (v263 : Value).ownBlock) v260 t259) := ⟨h0_⟩
           have n1_ : Aside0 (Kd.R (Kd.int .i64) 3 w88 w.heap.size (fun k_ => some k_ ≠ (v260 : Value).ownBlock) v263 t262) := ⟨h1_⟩
           have n2_ : Aside0 (w88.heap[gb249]? = some (.cells #[.slice A0_0 l0_0.length c0_0] 41 (0, 0))) := ⟨h2_⟩
           have n3_ : Aside0 (w88.heap[gb250]? = some (.cells #[.slice A1_0 l1_0.length c1_0] 41 (0, 0))) := ⟨h3_⟩
           have n4_ : Aside0 (w88.heap[gb251]? = some (.cells #[.slice none 0 0] 41 (0, 0))) := ⟨h4_⟩
           have n5_ : Aside0 (Below w.heap.size w w88) := ⟨h5_⟩
           clear BK249
           clear BK250
           clear BK251
           clear HB
           clear h0_ h1_ h2_ h3_ h4_ h5_
           have HO261 := n0_
           have HO264 := n1_
           have BK249 := n2_
           have BK250 := n3_
           have BK251 := n4_
           have HB := n5_
           clear n0_ n1_ n2_ n3_ n4_ n5_
           have hHeld : w88.cell? ⟨gb249, 0, none⟩ = some (.slice A0_0 l0_0.length c0_0) ∧ w88.cell? ⟨gb250, 0, none⟩ = some (.slice A1_0 l1_0.length c1_0) := hS_
           obtain ⟨Ao90, co90, eo90⟩ := Kd.R_slice HO264.out
           (first | subst eo90 | (injection eo90 with f1_ f2_ f3_; have f4_ := f1_.symm; have f5_ := f3_.symm; clear f1_ f2_ f3_; subst f4_; subst f5_))
           refine norm_ (a' := ?_) ?_ ?_
           rotate_left
           ·simp only [putAll, Act.put, List.setIfInBounds_toArray, List.set_cons_zero, List.set_cons_succ]
            rfl
           refine two_ (i := 8) (j := 13) (Ni := some 60) (Nj := some 10) #[t_,t_,t_,t_,t_,t_,t_,t_,t_,f_,f_,f_,f_,f_,f_,f_] #[t_,t_,t_,t_,t_,t_,t_,t_,f_,f_,f_,f_,f_,t_,f_,f_] rfl rfl rfl rfl (two_of HT_.out (by kernel_rfl)) (by decide) (by decide) (fun K hK => ?_) (fun K hK => ?_)
           ·skip
            refine Kd.R_append_rows_step (Kd.int .i64) (w0 := w) w.heap.size (by rfl) (.tmp 55) (.tmp 59) 22 3 (.int .i64 0) 8 rfl Try.underlying22 info3 rfl (by decide) (by omega) v260 t259 t262 _ _ _ (fun k_ => some k_ ≠ (.slice Ao90 t262.length co90 : Value).ownBlock) (fun _ => False) rfl rfl ?aO ?aR (fun _ _ h => h) (fun _ h => h.elim) ?aF ?aB ?aS ?aL ?_
            (case aR => repeat (first | exact (Kd.R_reads' HO264.out).2.2 | (with_reducible refine Kd.C_alloc ?_ _) | (with_reducible refine Kd.C_drewN ?_ _) | (with_reducible refine Kd.C_drew ?_)))
            (case aB => exact (bl_ HB.out))
            (case aF => exact (fun k_ hk => Kd.fresh' (Kd.R_lt (kr_ HO264.out)) k_ hk))
            (case aO => exact (kr_ HO261.out))
            (case aS => exact (below_size (bl_ HB.out)))
            (case aL => have := LMc83.out; omega)
            intro v266 w89 ho hb hg hat
            rw [← Ny265.out] at ho
            have n0_ := Aside0.mk (blk_grown (g := gb249) (o := .cells #[.slice A0_0 l0_0.length c0_0] 41 (0, 0)) (bk_ BK249.out) hg (Kd.R_ne HO261.out BK249.out (by decide)))
            have n1_ := Aside0.mk (blk_grown (g := gb250) (o := .cells #[.slice A1_0 l1_0.length c1_0] 41 (0, 0)) (bk_ BK250.out) hg (Kd.R_ne HO261.out BK250.out (by decide)))
            have n2_ := Aside0.mk (blk_grown (g := gb251) (o := .cells #[.slice none 0 0] 41 (0, 0)) (bk_ BK251.out) hg (Kd.R_ne HO261.out BK251.out (by decide)))
            have n3_ := Aside0.mk (Kd.R_after (ok := (fun _ => True)) (by (with_reducible repeat (first | apply Kd.R_alloc | apply Kd.R_drewN | apply Kd.R_drew)); exact Kd.R_mono HO264.out (fun _ hk => ⟨trivial, by first | exact hk | exact SortW.own_len hk⟩)) hg hat)
            have n4_ := Aside0.mk (hb)
            have n5_ := Aside0.mk (ho)
            clear BK249
            clear BK250
            clear BK251
            clear HO264
            clear HB
            clear HO261
            have BK249 := n0_
            have BK250 := n1_
            have BK251 := n2_
            have HO264 := n3_
            have HB := n4_
            have HO267 := n5_
            clear n0_ n1_ n2_ n3_ n4_ n5_
            clear ho hb hg hat
            refine hK.out _ _ ⟨(blk_cell BK249.out 0).trans rfl, (blk_cell BK250.out 0).trans rfl⟩ (fun hHeld => ?_)
            clear hK K
            refine norm_ (a' := ?_) ?_ ?_
            rotate_left
            ·show Act.put _ (some 60) _ = _
             simp only [Act.put, List.setIfInBounds_toArray, List.set_cons_zero, List.set_cons_succ, i64_w, i32_w]
             rfl
            exact norm_ (by first | (simp only [putAll, Act.put, List.setIfInBounds_toArray, List.set_cons_zero, List.set_cons_succ]; done) | (simp only [putAll, Act.put, List.setIfInBounds_toArray, List.set_cons_zero, List.set_cons_succ]; rfl)) (hJ3_7_8 (v260, .slice Ao90 t262.length co90, v266) _ ⟨hHeld, (by (with_reducible repeat (first | apply Kd.R_alloc | apply Kd.R_drewN | apply Kd.R_drew)); exact Kd.R_mono HO264.out (fun _ hk => hk.2)), (kr_ HO267.out), (bk_ BK249.out), (bk_ BK250.out), (bk_ BK251.out), (bl_ HB.out)⟩)
           ·skip
            refine box_step ?hg (N := 10) ?hd (cs := #[.slice none 0 0]) (t := 41) ?hr ?_; (case hd => rfl); (case hg => rfl); (case hr => first | (go_simp; done) | (go_simp; rfl))
            intro gb272 hg w89 hbox hb
            have n0_ := Aside0.mk (Kd.R_below (kr_ HO261.out) hb)
            have n1_ := Aside0.mk (Kd.R_below (kr_ HO264.out) hb)
            have n2_ := Aside0.mk (blk_below (bk_ BK249.out) hb)
            have n3_ := Aside0.mk (blk_below (bk_ BK250.out) hb)
            have n4_ := Aside0.mk (blk_below (bk_ BK251.out) hb)
            have n5_ := Aside0.mk (below_step (bl_ HB.out) hb)
            have n6_ := Aside0.mk (hbox)
            have n7_ := Aside0.mk ((by rw [hg]; exact (below_size (bl_ HB.out)) : w.heap.size ≤ gb272))
            have n8_ := Aside0.mk ((by rw [hg]; exact (below_size (bl_ HB.out)) : w.heap.size ≤ gb272))
            have n9_ := Aside0.mk ((by rw [hg]; exact Nat.ne_of_lt (blk_lt (bk_ BK249.out)) : gb249 ≠ gb272))
            have n10_ := Aside0.mk ((by rw [hg]; exact Nat.ne_of_gt (blk_lt (bk_ BK249.out)) : gb272 ≠ gb249))
            have n11_ := Aside0.mk ((by rw [hg]; exact Nat.ne_of_lt (blk_lt (bk_ BK250.out)) : gb250 ≠ gb272))
            have n12_ := Aside0.mk ((by rw [hg]; exact Nat.ne_of_gt (blk_lt (bk_ BK250.out)) : gb272 ≠ gb250))
            have n13_ := Aside0.mk ((by rw [hg]; exact Nat.ne_of_lt (blk_lt (bk_ BK251.out)) : gb251 ≠ gb272))
            have n14_ := Aside0.mk ((by rw [hg]; exact Nat.ne_of_gt (blk_lt (bk_ BK251.out)) : gb272 ≠ gb251))
            clear HO261
            clear HO264
            clear BK249
            clear BK250
            clear BK251
            clear HB
            have HO261 := n0_
            have HO264 := n1_
            have BK249 := n2_
            have BK250 := n3_
            have BK251 := n4_
            have HB := n5_
            have BK272 := n6_
            have GW272 := n7_
            have GE272 := n8_
            have NB249_272 := n9_
            have NB272_249 := n10_
            have NB250_272 := n11_
            have NB272_250 := n12_
            have NB251_272 := n13_
            have NB272_251 := n14_
            clear n0_ n1_ n2_ n3_ n4_ n5_ n6_ n7_ n8_ n9_ n10_ n11_ n12_ n13_ n14_
            clear hb hbox hg
            refine hK.out _ _ ⟨(blk_cell BK249.out 0).trans rfl, (blk_cell BK250.out 0).trans rfl⟩ (fun hHeld => ?_)
            clear hK K
            refine norm_ (a' := ?_) ?_ ?_
            rotate_left
            ·show Act.put _ (some 10) _ = _
             simp only [Act.put, List.setIfInBounds_toArray, List.set_cons_zero, List.set_cons_succ, i64_w, i32_w]
             rfl
            exact norm_ (by first | (simp only [putAll, Act.put, List.setIfInBounds_toArray, List.set_cons_zero, List.set_cons_succ]; done) | (simp only [putAll, Act.put, List.setIfInBounds_toArray, List.set_cons_zero, List.set_cons_succ]; rfl)) (hJ3_7_13 (v260, .slice Ao90 t262.length co90, gb272) _ ⟨hHeld, (kr_ HO261.out), (kr_ HO264.out), (bk_ BK249.out), (bk_ BK250.out), (bk_ BK251.out), (bk_ BK272.out), GW272.out, GE272.out, NB249_272.out, NB272_249.out, NB250_272.out, NB272_250.out, NB251_272.out, NB272_251.out, (bl_ HB.out)⟩)
         ·skip
          rintro ⟨v260, v263, gb272⟩ w89 ⟨hS_, h0_, h1_, h2_, h3_, h4_, h5_, h6_, h7_, h8_, h9_, h10_, h11_, h12_, h13_, h14_⟩
          have n0_ : Aside0 (Kd.R (Kd.int .i64) 3 w89 w.heap.size (fun k_ => some k_ ≠ (v263 : Value).ownBlock) v260 t259) := ⟨h0_⟩
          have n1_ : Aside0 (Kd.R (Kd.int .i64) 3 w89 w.heap.size (fun k_ => some k_ ≠ (v260 : Value).ownBlock) v263 t262) := ⟨h1_⟩
          have n2_ : Aside0 (w89.heap[gb249]? = some (.cells #[.slice A0_0 l0_0.length c0_0] 41 (0, 0))) := ⟨h2_⟩
          have n3_ : Aside0 (w89.heap[gb250]? = some (.cells #[.slice A1_0 l1_0.length c1_0] 41 (0, 0))) := ⟨h3_⟩
          have n4_ : Aside0 (w89.heap[gb251]? = some (.cells #[.slice none 0 0] 41 (0, 0))) := ⟨h4_⟩
          have n5_ : Aside0 (w89.heap[gb272]? = some (.cells #[.slice none 0 0] 41 (0, 0))) := ⟨h5_⟩
          have n6_ : Aside0 (w.heap.size ≤ gb272) := ⟨h6_⟩
          have n7_ : Aside0 (w.heap.size ≤ gb272) := ⟨h7_⟩
          have n8_ : Aside0 (gb249 ≠ gb272) := ⟨h8_⟩
          have n9_ : Aside0 (gb272 ≠ gb249) := ⟨h9_⟩
          have n10_ : Aside0 (gb250 ≠ gb272) := ⟨h10_⟩
          have n11_ : Aside0 (gb272 ≠ gb250) := ⟨h11_⟩
          have n12_ : Aside0 (gb251 ≠ gb272) := ⟨h12_⟩
          have n13_ : Aside0 (gb272 ≠ gb251) := ⟨h13_⟩
          have n14_ : Aside0 (Below w.heap.size w w89) := ⟨h14_⟩
          clear BK249
          clear BK250
          clear BK251
          clear HB
          clear h0_ h1_ h2_ h3_ h4_ h5_ h6_ h7_ h8_ h9_ h10_ h11_ h12_ h13_ h14_
          have HO261 := n0_
          have HO264 := n1_
          have BK249 := n2_
          have BK250 := n3_
          have BK251 := n4_
          have BK272 := n5_
          have GW272 := n6_
          have GE272 := n7_
          have NB249_272 := n8_
          have NB272_249 := n9_
          have NB250_272 := n10_
          have NB272_250 := n11_
          have NB251_272 := n12_
          have NB272_251 := n13_
          have HB := n14_
          clear n0_ n1_ n2_ n3_ n4_ n5_ n6_ n7_ n8_ n9_ n10_ n11_ n12_ n13_ n14_
          have hHeld : w89.cell? ⟨gb249, 0, none⟩ = some (.slice A0_0 l0_0.length c0_0) ∧ w89.cell? ⟨gb250, 0, none⟩ = some (.slice A1_0 l1_0.length c1_0) := hS_
          obtain ⟨Ao91, co91, eo91⟩ := Kd.R_slice HO264.out
          (first | subst eo91 | (injection eo91 with f1_ f2_ f3_; have f4_ := f1_.symm; have f5_ := f3_.symm; clear f1_ f2_ f3_; subst f4_; subst f5_))
          refine norm_ (a' := ?_) ?_ ?_
          rotate_left
          ·simp only [putAll, Act.put, List.setIfInBounds_toArray, List.set_cons_zero, List.set_cons_succ]
           rfl
          refine one_ (i := 8) (N := some 60) #[t_,t_,t_,t_,t_,t_,t_,t_,t_,f_,f_,f_,f_,t_,f_,f_] rfl rfl (one_of HT_.out (by kernel_rfl)) (by decide) (fun K hK => ?_)
          refine Kd.R_append_rows_step (Kd.int .i64) (w0 := w) w.heap.size (by rfl) (.tmp 55) (.tmp 59) 22 3 (.int .i64 0) 8 rfl Try.underlying22 info3 rfl (by decide) (by omega) v260 t259 t262 _ _ _ (fun k_ => some k_ ≠ (.slice Ao91 t262.length co91 : Value).ownBlock) (fun _ => False) rfl rfl ?aO ?aR (fun _ _ h => h) (fun _ h => h.elim) ?aF ?aB ?aS ?aL ?_
          (case aR => repeat (first | exact (Kd.R_reads' HO264.out).2.2 | (with_reducible refine Kd.C_alloc ?_ _) | (with_reducible refine Kd.C_drewN ?_ _) | (with_reducible refine Kd.C_drew ?_)))
          (case aB => exact (bl_ HB.out))
          (case aF => exact (fun k_ hk => Kd.fresh' (Kd.R_lt (kr_ HO264.out)) k_ hk))
          (case aO => exact (kr_ HO261.out))
          (case aS => exact (below_size (bl_ HB.out)))
          (case aL => have := LMc83.out; omega)
          intro v266 w90 ho hb hg hat
          rw [← Ny265.out] at ho
          have n0_ := Aside0.mk (blk_grown (g := gb249) (o := .cells #[.slice A0_0 l0_0.length c0_0] 41 (0, 0)) (bk_ BK249.out) hg (Kd.R_ne HO261.out BK249.out (by decide)))
          have n1_ := Aside0.mk (blk_grown (g := gb250) (o := .cells #[.slice A1_0 l1_0.length c1_0] 41 (0, 0)) (bk_ BK250.out) hg (Kd.R_ne HO261.out BK250.out (by decide)))
          have n2_ := Aside0.mk (blk_grown (g := gb251) (o := .cells #[.slice none 0 0] 41 (0, 0)) (bk_ BK251.out) hg (Kd.R_ne HO261.out BK251.out (by decide)))
          have n3_ := Aside0.mk (Kd.R_after (ok := (fun _ => True)) (by (with_reducible repeat (first | apply Kd.R_alloc | apply Kd.R_drewN | apply Kd.R_drew)); exact Kd.R_mono HO264.out (fun _ hk => ⟨trivial, by first | exact hk | exact SortW.own_len hk⟩)) hg hat)
          have n4_ := Aside0.mk (blk_grown (g := gb272) (o := .cells #[.slice none 0 0] 41 (0, 0)) (bk_ BK272.out) hg (Kd.R_ne HO261.out BK272.out (by decide)))
          have n5_ := Aside0.mk (hb)
          have n6_ := Aside0.mk (ho)
          clear BK249
          clear BK250
          clear BK251
          clear HO264
          clear BK272
          clear HB
          clear HO261
          have BK249 := n0_
          have BK250 := n1_
          have BK251 := n2_
          have HO264 := n3_
          have BK272 := n4_
          have HB := n5_
          have HO267 := n6_
          clear n0_ n1_ n2_ n3_ n4_ n5_ n6_
          clear ho hb hg hat
          refine hK.out _ _ ⟨(blk_cell BK249.out 0).trans rfl, (blk_cell BK250.out 0).trans rfl⟩ (fun hHeld => ?_)
          clear hK K
          refine norm_ (a' := ?_) ?_ ?_
          rotate_left
          ·show Act.put _ (some 60) _ = _
           simp only [Act.put, List.setIfInBounds_toArray, List.set_cons_zero, List.set_cons_succ, i64_w, i32_w]
           rfl
          exact norm_ (by first | (simp only [putAll, Act.put, List.setIfInBounds_toArray, List.set_cons_zero, List.set_cons_succ]; done) | (simp only [putAll, Act.put, List.setIfInBounds_toArray, List.set_cons_zero, List.set_cons_succ]; rfl)) (hJ3_7_8_13 (v260, .slice Ao91 t262.length co91, v266, gb272) _ ⟨hHeld, (by (with_reducible repeat (first | apply Kd.R_alloc | apply Kd.R_drewN | apply Kd.R_drew)); exact Kd.R_mono HO264.out (fun _ hk => hk.2)), (kr_ HO267.out), (bk_ BK249.out), (bk_ BK250.out), (bk_ BK251.out), (bk_ BK272.out), GW272.out, GE272.out, NB249_272.out, NB272_249.out, NB250_272.out, NB272_250.out, NB251_272.out, NB272_251.out, (bl_ HB.out)⟩)
        ·skip
         rintro ⟨v260, v263, v266⟩ w90 ⟨hS_, h0_, h1_, h2_, h3_, h4_, h5_⟩
         have n0_ : Aside0 (Kd.R (Kd.int .i64) 3 w90 w.heap.size (fun k_ => some k_ ≠ (v266 : Value).ownBlock) v263 t262) := ⟨h0_⟩
         have n1_ : Aside0 (Kd.R (Kd.int .i64) 3 w90 w.heap.size (fun k_ => some k_ ≠ (v263 : Value).ownBlock) v266 y265) := ⟨h1_⟩
         have n2_ : Aside0 (w90.heap[gb249]? = some (.cells #[.slice A0_0 l0_0.length c0_0] 41 (0, 0))) := ⟨h2_⟩
         have n3_ : Aside0 (w90.heap[gb250]? = some (.cells #[.slice A1_0 l1_0.length c1_0] 41 (0, 0))) := ⟨h3_⟩
         have n4_ : Aside0 (w90.heap[gb251]? = some (.cells #[.slice none 0 0] 41 (0, 0))) := ⟨h4_⟩
         have n5_ : Aside0 (Below w.heap.size w w90) := ⟨h5_⟩
         clear BK249
         clear BK250
         clear BK251
         clear HB
         clear h0_ h1_ h2_ h3_ h4_ h5_
         have HO264 := n0_
         have HO267 := n1_
         have BK249 := n2_
         have BK250 := n3_
         have BK251 := n4_
         have HB := n5_
         clear n0_ n1_ n2_ n3_ n4_ n5_
         have hHeld : w90.cell? ⟨gb249, 0, none⟩ = some (.slice A0_0 l0_0.length c0_0) ∧ w90.cell? ⟨gb250, 0, none⟩ = some (.slice A1_0 l1_0.length c1_0) := hS_
         obtain ⟨Ao91, co91, eo91⟩ := Kd.R_slice HO267.out
         (first | subst eo91 | (injection eo91 with f1_ f2_ f3_; have f4_ := f1_.symm; have f5_ := f3_.symm; clear f1_ f2_ f3_; subst f4_; subst f5_))
         refine norm_ (a' := ?_) ?_ ?_
         rotate_left
         ·simp only [putAll, Act.put, List.setIfInBounds_toArray, List.set_cons_zero, List.set_cons_succ]
          rfl
         refine two_ (i := 9) (j := 13) (Ni := some 61) (Nj := some 10) #[t_,t_,t_,t_,t_,t_,t_,t_,t_,t_,f_,f_,f_,f_,f_,f_] #[t_,t_,t_,t_,t_,t_,t_,t_,t_,f_,f_,f_,f_,t_,f_,f_] rfl rfl rfl rfl (two_of HT_.out (by kernel_rfl)) (by decide) (by decide) (fun K hK => ?_) (fun K hK => ?_)
         ·skip
          refine goes_ Try.func74 (by kernel_rfl) rfl #[.slice Ao91 y265.length co91] (by rfl) rfl rfl (by (try simp only [List.map_toArray, List.map_cons, List.map_nil]); first | done | rfl | (simp only [List.length_drop, List.length_take]; rfl)) ?_
          with_reducible refine (spec_FromGens.calls kj4 _ _ y265 t268 t271 _ ?side1 ?side2 A84.out).mono ?_
          (case side1 => repeat (first | exact (Kd.R_reads' HO267.out).2.2 | (with_reducible refine Kd.C_alloc ?_ _) | (with_reducible refine Kd.C_drewN ?_ _) | (with_reducible refine Kd.C_drew ?_)))
          (case side2 => exact (Kd.R_reads' HO267.out).2.1)
          rintro e w92 ⟨v269, rfl, ho0, hb⟩
          refine ⟨_, rfl, ?_⟩
          have n0_ := Aside0.mk (Kd.R_elder' (kr_ HO264.out) (Kd.R_base ho0) hb)
          have n1_ := Aside0.mk (Kd.R_elder' (kr_ HO267.out) (Kd.R_base ho0) hb)
          have n2_ := Aside0.mk (Kd.R_lower (Kd.R_new' (Kd.R_new' ho0 (Kd.R_lt (kr_ HO264.out))) (Kd.R_lt (kr_ HO267.out))) (below_size (bl_ HB.out)))
          have n3_ := Aside0.mk (blk_below (bk_ BK249.out) hb)
          have n4_ := Aside0.mk (blk_below (bk_ BK250.out) hb)
          have n5_ := Aside0.mk (blk_below (bk_ BK251.out) hb)
          have n6_ := Aside0.mk (below_step (bl_ HB.out) hb)
          clear HO264
          clear HO267
          clear BK249
          clear BK250
          clear BK251
          clear HB
          have HO264 := n0_
          have HO267 := n1_
          have HO270 := n2_
          have BK249 := n3_
          have BK250 := n4_
          have BK251 := n5_
          have HB := n6_
          clear n0_ n1_ n2_ n3_ n4_ n5_ n6_
          (try clear hb)
          (try clear hb2)
          (try clear hk)
          (try clear hi)
          (try clear ho0)
          refine hK.out _ _ ⟨(blk_cell BK249.out 0).trans rfl, (blk_cell BK250.out 0).trans rfl⟩ (fun hHeld => ?_)
          clear hK K
          refine norm_ (a' := ?_) ?_ ?_
          rotate_left
          ·show Act.put _ (some 61) _ = _
           simp only [Act.put, List.setIfInBounds_toArray, List.set_cons_zero, List.set_cons_succ, i64_w, i32_w]
           rfl
          refine pure_ (i := 10) (N := some 51) (v := ?_) (a' := ?_) #[t_,t_,t_,t_,t_,t_,t_,t_,t_,t_,t_,f_,f_,f_,f_,f_] rfl rfl (any_of HT_.out (by kernel_rfl)) (fun _ _ _ h => h) (Or.inl ⟨by rfl, ?_⟩) ?_ ?_
          rotate_left
          ·intro w'
           go_simp
           with_reducible rfl
          rotate_left
          ·simp only [Act.put, List.setIfInBounds_toArray, List.set_cons_zero, List.set_cons_succ, i64_w, i32_w]
           rfl
          refine pure_ (i := 11) (N := some 62) (v := ?_) (a' := ?_) #[t_,t_,t_,t_,t_,t_,t_,t_,t_,t_,t_,t_,f_,f_,f_,f_] rfl rfl (any_of HT_.out (by kernel_rfl)) (fun _ _ _ h => h) (Or.inl ⟨by rfl, ?_⟩) ?_ ?_
          rotate_left
          ·intro w'
           go_simp
           with_reducible rfl
          rotate_left
          ·simp only [Act.put, List.setIfInBounds_toArray, List.set_cons_zero, List.set_cons_succ, i64_w, i32_w]
           rfl
          refine pure_ (i := 12) (N := some 63) (v := ?_) (a' := ?_) #[t_,t_,t_,t_,t_,t_,t_,t_,t_,t_,t_,t_,t_,f_,f_,f_] rfl rfl (any_of HT_.out (by kernel_rfl)) (fun _ _ _ h => h) (Or.inl ⟨by rfl, ?_⟩) ?_ ?_
          rotate_left
          ·intro w'
           go_simp
           with_reducible rfl
          rotate_left
          ·simp only [Act.put, List.setIfInBounds_toArray, List.set_cons_zero, List.set_cons_succ, i64_w, i32_w]
           rfl
          exact norm_ (by first | (simp only [putAll, Act.put, List.setIfInBounds_toArray, List.set_cons_zero, List.set_cons_succ]; done) | (simp only [putAll, Act.put, List.setIfInBounds_toArray, List.set_cons_zero, List.set_cons_succ]; rfl)) (hJ3_7_8_9 (v260, v263, .slice Ao91 y265.length co91, v269) _ ⟨hHeld, (kr_ HO264.out), (kr_ HO267.out), (by (with_reducible repeat (first | apply Kd.R_alloc | apply Kd.R_drewN | apply Kd.R_drew)); exact Kd.R_mono HO270.out (fun _ hk => ⟨hk.1.2, hk.2⟩)), (bk_ BK249.out), (bk_ BK250.out), (bk_ BK251.out), (bl_ HB.out)⟩)
         ·skip
          refine box_step ?hg (N := 10) ?hd (cs := #[.slice none 0 0]) (t := 41) ?hr ?_; (case hd => rfl); (case hg => rfl); (case hr => first | (go_simp; done) | (go_simp; rfl))
          intro gb272 hg w91 hbox hb
          have n0_ := Aside0.mk (Kd.R_below (kr_ HO264.out) hb)
          have n1_ := Aside0.mk (Kd.R_below (kr_ HO267.out) hb)
          have n2_ := Aside0.mk (blk_below (bk_ BK249.out) hb)
          have n3_ := Aside0.mk (blk_below (bk_ BK250.out) hb)
          have n4_ := Aside0.mk (blk_below (bk_ BK251.out) hb)
          have n5_ := Aside0.mk (below_step (bl_ HB.out) hb)
          have n6_ := Aside0.mk (hbox)
          have n7_ := Aside0.mk ((by rw [hg]; exact (below_size (bl_ HB.out)) : w.heap.size ≤ gb272))
          have n8_ := Aside0.mk ((by rw [hg]; exact (below_size (bl_ HB.out)) : w.heap.size ≤ gb272))
          have n9_ := Aside0.mk ((by rw [hg]; exact Nat.ne_of_lt (blk_lt (bk_ BK249.out)) : gb249 ≠ gb272))
          have n10_ := Aside0.mk ((by rw [hg]; exact Nat.ne_of_gt (blk_lt (bk_ BK249.out)) : gb272 ≠ gb249))
          have n11_ := Aside0.mk ((by rw [hg]; exact Nat.ne_of_lt (blk_lt (bk_ BK250.out)) : gb250 ≠ gb272))
          have n12_ := Aside0.mk ((by rw [hg]; exact Nat.ne_of_gt (blk_lt (bk_ BK250.out)) : gb272 ≠ gb250))
          have n13_ := Aside0.mk ((by rw [hg]; exact Nat.ne_of_lt (blk_lt (bk_ BK251.out)) : gb251 ≠ gb272))
          have n14_ := Aside0.mk ((by rw [hg]; exact Nat.ne_of_gt (blk_lt (bk_ BK251.out)) : gb272 ≠ gb251))
          clear HO264
          clear HO267
          clear BK249
          clear BK250
          clear BK251
          clear HB
          have HO264 := n0_
          have HO267 := n1_
          have BK249 := n2_
          have BK250 := n3_
          have BK251 := n4_
          have HB := n5_
          have BK272 := n6_
          have GW272 := n7_
          have GE272 := n8_
          have NB249_272 := n9_
          have NB272_249 := n10_
          have NB250_272 := n11_
          have NB272_250 := n12_
          have NB251_272 := n13_
          have NB272_251 := n14_
          clear n0_ n1_ n2_ n3_ n4_ n5_ n6_ n7_ n8_ n9_ n10_ n11_ n12_ n13_ n14_
          clear hb hbox hg
          refine hK.out _ _ ⟨(blk_cell BK249.out 0).trans rfl, (blk_cell BK250.out 0).trans rfl⟩ (fun hHeld => ?_)
          clear hK K
          refine norm_ (a' := ?_) ?_ ?_
          rotate_left
          ·show Act.put _ (some 10) _ = _
           simp only [Act.put, List.setIfInBounds_toArray, List.set_cons_zero, List.set_cons_succ, i64_w, i32_w]
           rfl
          exact norm_ (by first | (simp only [putAll, Act.put, List.setIfInBounds_toArray, List.set_cons_zero, List.set_cons_succ]; done) | (simp only [putAll, Act.put, List.setIfInBounds_toArray, List.set_cons_zero, List.set_cons_succ]; rfl)) (hJ3_7_8_13 (v260, v263, .slice Ao91 y265.length co91, gb272) _ ⟨hHeld, (kr_ HO264.out), (kr_ HO267.out), (bk_ BK249.out), (bk_ BK250.out), (bk_ BK251.out), (bk_ BK272.out), GW272.out, GE272.out, NB249_272.out, NB272_249.out, NB250_272.out, NB272_250.out, NB251_272.out, NB272_251.out, (bl_ HB.out)⟩)
       ·skip
        rintro ⟨v260, v263, v266, gb272⟩ w91 ⟨hS_, h0_, h1_, h2_, h3_, h4_, h5_, h6_, h7_, h8_, h9_, h10_, h11_, h12_, h13_, h14_⟩
        have n0_ : Aside0 (Kd.R (Kd.int .i64) 3 w91 w.heap.size (fun k_ => some k_ ≠ (v266 : Value).ownBlock) v263 t262) := ⟨h0_⟩
        have n1_ : Aside0 (Kd.R (Kd.int .i64) 3 w91 w.heap.size (fun k_ => some k_ ≠ (v263 : Value).ownBlock) v266 y265) := ⟨h1_⟩
        have n2_ : Aside0 (w91.heap[gb249]? = some (.cells #[.slice A0_0 l0_0.length c0_0] 41 (0, 0))) := ⟨h2_⟩
        have n3_ : Aside0 (w91.heap[gb250]? = some (.cells #[.slice A1_0 l1_0.length c1_0] 41 (0, 0))) := ⟨h3_⟩
        have n4_ : Aside0 (w91.heap[gb251]? = some (.cells #[.slice none 0 0] 41 (0, 0))) := ⟨h4_⟩
        have n5_ : Aside0 (w91.heap[gb272]? = some (.cells #[.slice none 0 0] 41 (0, 0))) := ⟨h5_⟩
        have n6_ : Aside0 (w.heap.size ≤ gb272) := ⟨h6_⟩
        have n7_ : Aside0 (w.heap.size ≤ gb272) := ⟨h7_⟩
        have n8_ : Aside0 (gb249 ≠ gb272) := ⟨h8_⟩
        have n9_ : Aside0 (gb272 ≠ gb249) := ⟨h9_⟩
        have n10_ : Aside0 (gb250 ≠ gb272) := ⟨h10_⟩
        have n11_ : Aside0 (gb272 ≠ gb250) := ⟨h11_⟩
        have n12_ : Aside0 (gb251 ≠ gb272) := ⟨h12_⟩
        have n13_ : Aside0 (gb272 ≠ gb251) := ⟨h13_⟩
        have n14_ : Aside0 (Below w.heap.size w w91) := ⟨h14_⟩
        clear BK249
        clear BK250
        clear BK251
        clear HB
        clear h0_ h1_ h2_ h3_ h4_ h5_ h6_ h7_ h8_ h9_ h10_ h11_ h12_ h13_ h14_
        have HO264 := n0_
        have HO267 := n1_
        have BK249 := n2_
        have BK250 := n3_
        have BK251 := n4_
        have BK272 := n5_
        have GW272 := n6_
        have GE272 := n7_
        have NB249_272 := n8_
        have NB272_249 := n9_
        have NB250_272 := n10_
        have NB272_250 := n11_
        have NB251_272 := n12_
        have NB272_251 := n13_
        have HB := n14_
        clear n0_ n1_ n2_ n3_ n4_ n5_ n6_ n7_ n8_ n9_ n10_ n11_ n12_ n13_ n14_
        have hHeld : w91.cell? ⟨gb249, 0, none⟩ = some (.slice A0_0 l0_0.length c0_0) ∧ w91.cell? ⟨gb250, 0, none⟩ = some (.slice A1_0 l1_0.length c1_0) := hS_
        obtain ⟨Ao92, co92, eo92⟩ := Kd.R_slice HO267.out
        (first | subst eo92 | (injection eo92 with f1_ f2_ f3_; have f4_ := f1_.symm; have f5_ := f3_.symm; clear f1_ f2_ f3_; subst f4_; subst f5_))
        refine norm_ (a' := ?_) ?_ ?_
        rotate_left
        ·simp only [putAll, Act.put, List.setIfInBounds_toArray, List.set_cons_zero, List.set_cons_succ]
         rfl
        refine one_ (i := 9) (N := some 61) #[t_,t_,t_,t_,t_,t_,t_,t_,t_,t_,f_,f_,f_,t_,f_,f_] rfl rfl (one_of HT_.out (by kernel_rfl)) (by decide) (fun K hK => ?_)
        refine goes_ Try.func74 (by kernel_rfl) rfl #[.slice Ao92 y265.length co92] (by rfl) rfl rfl (by (try simp only [List.map_toArray, List.map_cons, List.map_nil]); first | done | rfl | (simp only [List.length_drop, List.length_take]; rfl)) ?_
        with_reducible refine (spec_FromGens.calls kj4 _ _ y265 t268 t271 _ ?side1 ?side2 A84.out).mono ?_
        (case side1 => repeat (first | exact (Kd.R_reads' HO267.out).2.2 | (with_reducible refine Kd.C_alloc ?_ _) | (with_reducible refine Kd.C_drewN ?_ _) | (with_reducible refine Kd.C_drew ?_)))
        (case side2 => exact (Kd.R_reads' HO267.out).2.1)
        rintro e w93 ⟨v269, rfl, ho0, hb⟩
        refine ⟨_, rfl, ?_⟩
        have n0_ := Aside0.mk (Kd.R_elder' (kr_ HO264.out) (Kd.R_base ho0) hb)
        have n1_ := Aside0.mk (Kd.R_elder' (kr_ HO267.out) (Kd.R_base ho0) hb)
        have n2_ := Aside0.mk (Kd.R_lower (Kd.R_new' (Kd.R_new' ho0 (Kd.R_lt (kr_ HO264.out))) (Kd.R_lt (kr_ HO267.out))) (below_size (bl_ HB.out)))
        have n3_ := Aside0.mk (blk_below (bk_ BK249.out) hb)
        have n4_ := Aside0.mk (blk_below (bk_ BK250.out) hb)
        have n5_ := Aside0.mk (blk_below (bk_ BK251.out) hb)
        have n6_ := Aside0.mk (blk_below (bk_ BK272.out) hb)
        have n7_ := Aside0.mk (below_step (bl_ HB.out) hb)
        clear HO264
        clear HO267
        clear BK249
        clear BK250
        clear BK251
        clear BK272
        clear HB
        have HO264 := n0_
        have HO267 := n1_
        have HO270 := n2_
        have BK249 := n3_
        have BK250 := n4_
        have BK251 := n5_
        have BK272 := n6_
        have HB := n7_
        clear n0_ n1_ n2_ n3_ n4_ n5_ n6_ n7_
        (try clear hb)
        (try clear hb2)
        (try clear hk)
        (try clear hi)
        (try clear ho0)
        refine hK.out _ _ ⟨(blk_cell BK249.out 0).trans rfl, (blk_cell BK250.out 0).trans rfl⟩ (fun hHeld => ?_)
        clear hK K
        refine norm_ (a' := ?_) ?_ ?_
        rotate_left
        ·show Act.put _ (some 61) _ = _
         simp only [Act.put, List.setIfInBounds_toArray, List.set_cons_zero, List.set_cons_succ, i64_w, i32_w]
         rfl
        refine pure_ (i := 10) (N := some 51) (v := ?_) (a' := ?_) #[t_,t_,t_,t_,t_,t_,t_,t_,t_,t_,t_,f_,f_,t_,f_,f_] rfl rfl (any_of HT_.out (by kernel_rfl)) (fun _ _ _ h => h) (Or.inl ⟨by rfl, ?_⟩) ?_ ?_
        rotate_left
        ·intro w'
         go_simp
         with_reducible rfl
        rotate_left
        ·simp only [Act.put, List.setIfInBounds_toArray, List.set_cons_zero, List.set_cons_succ, i64_w, i32_w]
         rfl
        refine pure_ (i := 11) (N := some 62) (v := ?_) (a' := ?_) #[t_,t_,t_,t_,t_,t_,t_,t_,t_,t_,t_,t_,f_,t_,f_,f_] rfl rfl (any_of HT_.out (by kernel_rfl)) (fun _ _ _ h => h) (Or.inl ⟨by rfl, ?_⟩) ?_ ?_
        rotate_left
        ·intro w'
         go_simp
         with_reducible rfl
        rotate_left
        ·simp only [Act.put, List.setIfInBounds_toArray, List.set_cons_zero, List.set_cons_succ, i64_w, i32_w]
         rfl
        refine pure_ (i := 12) (N := some 63) (v := ?_) (a' := ?_) #[t_,t_,t_,t_,t_,t_,t_,t_,t_,t_,t_,t_,t_,t_,f_,f_] rfl rfl (any_of HT_.out (by kernel_rfl)) (fun _ _ _ h => h) (Or.inl ⟨by rfl, ?_⟩) ?_ ?_
        rotate_left
        ·intro w'
         go_simp
         with_reducible rfl
        rotate_left
        ·simp only [Act.put, List.setIfInBounds_toArray, List.set_cons_zero, List.set_cons_succ, i64_w, i32_w]
         rfl
        exact norm_ (by first | (simp only [putAll, Act.put, List.setIfInBounds_toArray, List.set_cons_zero, List.set_cons_succ]; done) | (simp only [putAll, Act.put, List.setIfInBounds_toArray, List.set_cons_zero, List.set_cons_succ]; rfl)) (hJ3_7_8_9_13 (v260, v263, .slice Ao92 y265.length co92, v269, gb272) _ ⟨hHeld, (kr_ HO264.out), (kr_ HO267.out), (by (with_reducible repeat (first | apply Kd.R_alloc | apply Kd.R_drewN | apply Kd.R_drew)); exact Kd.R_mono HO270.out (fun _ hk => ⟨hk.1.2, hk.2⟩)), (bk_ BK249.out), (bk_ BK250.out), (bk_ BK251.out), (bk_ BK272.out), GW272.out, GE272.out, NB249_272.out, NB272_249.out, NB250_272.out, NB272_250.out, NB251_272.out, NB272_251.out, (bl_ HB.out)⟩)
      ·skip
       rintro ⟨v260, v263, v266, v269⟩ w92 ⟨hS_, h0_, h1_, h2_, h3_, h4_, h5_, h6_⟩
       have n0_ : Aside0 (Kd.R (Kd.int .i64) 3 w92 w.heap.size (fun k_ => some k_ ≠ (v266 : Value).ownBlock ∧ some k_ ≠ (v269 : Value).ownBlock) v263 t262) := ⟨h0_⟩
       have n1_ : Aside0 (Kd.R (Kd.int .i64) 3 w92 w.heap.size (fun k_ => some k_ ≠ (v263 : Value).ownBlock ∧ some k_ ≠ (v269 : Value).ownBlock) v266 y265) := ⟨h1_⟩
       have n2_ : Aside0 (Kd.R (Kd.int .i64) 3 w92 w.heap.size (fun k_ => some k_ ≠ (v263 : Value).ownBlock ∧ some k_ ≠ (v266 : Value).ownBlock) v269 t268) := ⟨h2_⟩
       have n3_ : Aside0 (w92.heap[gb249]? = some (.cells #[.slice A0_0 l0_0.length c0_0] 41 (0, 0))) := ⟨h3_⟩
       have n4_ : Aside0 (w92.heap[gb250]? = some (.cells #[.slice A1_0 l1_0.length c1_0] 41 (0, 0))) := ⟨h4_⟩
       have n5_ : Aside0 (w92.heap[gb251]? = some (.cells #[.slice none 0 0] 41 (0, 0))) := ⟨h5_⟩
       have n6_ : Aside0 (Below w.heap.size w w92) := ⟨h6_⟩
       clear BK249
       clear BK250
       clear BK251
       clear HB
       clear h0_ h1_ h2_ h3_ h4_ h5_ h6_
       have HO264 := n0_
       have HO267 := n1_
       have HO270 := n2_
       have BK249 := n3_
       have BK250 := n4_
       have BK251 := n5_
       have HB := n6_
       clear n0_ n1_ n2_ n3_ n4_ n5_ n6_
       have hHeld : w92.cell? ⟨gb249, 0, none⟩ = some (.slice A0_0 l0_0.length c0_0) ∧ w92.cell? ⟨gb250, 0, none⟩ = some (.slice A1_0 l1_0.length c1_0) := hS_
       refine norm_ (a' := ?_) ?_ ?_
       rotate_left
       ·simp only [putAll, Act.put, List.setIfInBounds_toArray, List.set_cons_zero, List.set_cons_succ]
        rfl
       refine one_ (i := 13) (N := some 10) #[t_,t_,t_,t_,t_,t_,t_,t_,t_,t_,t_,t_,t_,t_,f_,f_] rfl rfl (one_of HT_.out (by kernel_rfl)) (by decide) (fun K hK => ?_)
       refine box_step ?hg (N := 10) ?hd (cs := #[.slice none 0 0]) (t := 41) ?hr ?_; (case hd => rfl); (case hg => rfl); (case hr => first | (go_simp; done) | (go_simp; rfl))
       intro gb272 hg w93 hbox hb
       have n0_ := Aside0.mk (Kd.R_below (kr_ HO264.out) hb)
       have n1_ := Aside0.mk (Kd.R_below (kr_ HO267.out) hb)
       have n2_ := Aside0.mk (Kd.R_below (kr_ HO270.out) hb)
       have n3_ := Aside0.mk (blk_below (bk_ BK249.out) hb)
       have n4_ := Aside0.mk (blk_below (bk_ BK250.out) hb)
       have n5_ := Aside0.mk (blk_below (bk_ BK251.out) hb)
       have n6_ := Aside0.mk (below_step (bl_ HB.out) hb)
       have n7_ := Aside0.mk (hbox)
       have n8_ := Aside0.mk ((by rw [hg]; exact (below_size (bl_ HB.out)) : w.heap.size ≤ gb272))
       have n9_ := Aside0.mk ((by rw [hg]; exact (below_size (bl_ HB.out)) : w.heap.size ≤ gb272))
       have n10_ := Aside0.mk ((by rw [hg]; exact Nat.ne_of_lt (blk_lt (bk_ BK249.out)) : gb249 ≠ gb272))
       have n11_ := Aside0.mk ((by rw [hg]; exact Nat.ne_of_gt (blk_lt (bk_ BK249.out)) : gb272 ≠ gb249))
       have n12_ := Aside0.mk ((by rw [hg]; exact Nat.ne_of_lt (blk_lt (bk_ BK250.out)) : gb250 ≠ gb272))
       have n13_ := Aside0.mk ((by rw [hg]; exact Nat.ne_of_gt (blk_lt (bk_ BK250.out)) : gb272 ≠ gb250))
       have n14_ := Aside0.mk ((by rw [hg]; exact Nat.ne_of_lt (blk_lt (bk_ BK251.out)) : gb251 ≠ gb272))
       have n15_ := Aside0.mk ((by rw [hg]; exact Nat.ne_of_gt (blk_lt (bk_ BK251.out)) : gb272 ≠ gb251))
       clear HO264
       clear HO267
       clear HO270
       clear BK249
       clear BK250
       clear BK251
       clear HB
       have HO264 := n0_
       have HO267 := n1_
       have HO270 := n2_
       have BK249 := n3_
       have BK250 := n4_
       have BK251 := n5_
       have HB := n6_
       have BK272 := n7_
       have GW272 := n8_
       have GE272 := n9_
       have NB249_272 := n10_
       have NB272_249 := n11_
       have NB250_272 := n12_
       have NB272_250 := n13_
       have NB251_272 := n14_
       have NB272_251 := n15_
       clear n0_ n1_ n2_ n3_ n4_ n5_ n6_ n7_ n8_ n9_ n10_ n11_ n12_ n13_ n14_ n15_
       clear hb hbox hg
       refine hK.out _ _ ⟨(blk_cell BK249.out 0).trans rfl, (blk_cell BK250.out 0).trans rfl⟩ (fun hHeld => ?_)
       clear hK K
       refine norm_ (a' := ?_) ?_ ?_
       rotate_left
       ·show Act.put _ (some 10) _ = _
        simp only [Act.put, List.setIfInBounds_toArray, List.set_cons_zero, List.set_cons_succ, i64_w, i32_w]
        rfl
       exact norm_ (by first | (simp only [putAll, Act.put, List.setIfInBounds_toArray, List.set_cons_zero, List.set_cons_succ]; done) | (simp only [putAll, Act.put, List.setIfInBounds_toArray, List.set_cons_zero, List.set_cons_succ]; rfl)) (hJ3_7_8_9_13 (v260, v263, v266, v269, gb272) _ ⟨hHeld, (kr_ HO264.out), (kr_ HO267.out), (kr_ HO270.out), (bk_ BK249.out), (bk_ BK250.out), (bk_ BK251.out), (bk_ BK272.out), GW272.out, GE272.out, NB249_272.out, NB272_249.out, NB250_272.out, NB272_250.out, NB251_272.out, NB272_251.out, (bl_ HB.out)⟩)
     rintro ⟨v260, v263, v266, v269, gb272⟩ w93 ⟨hS_, h0_, h1_, h2_, h3_, h4_, h5_, h6_, h7_, h8_, h9_, h10_, h11_, h12_, h13_, h14_, h15_⟩
     have n0_ : Aside0 (Kd.R (Kd.int .i64) 3 w93 w.heap.size (fun k_ => some k_ ≠ (v266 : Value).ownBlock ∧ some k_ ≠ (v269 : Value).ownBlock) v263 t262) := ⟨h0_⟩
     have n1_ : Aside0 (Kd.R (Kd.int .i64) 3 w93 w.heap.size (fun k_ => some k_ ≠ (v263 : Value).ownBlock ∧ some k_ ≠ (v269 : Value).ownBlock) v266 y265) := ⟨h1_⟩
     have n2_ : Aside0 (Kd.R (Kd.int .i64) 3 w93 w.heap.size (fun k_ => some k_ ≠ (v263 : Value).ownBlock ∧ some k_ ≠ (v266 : Value).ownBlock) v269 t268) := ⟨h2_⟩
     have n3_ : Aside0 (w93.heap[gb249]? = some (.cells #[.slice A0_0 l0_0.length c0_0] 41 (0, 0))) := ⟨h3_⟩
     have n4_ : Aside0 (w93.heap[gb250]? = some (.cells #[.slice A1_0 l1_0.length c1_0] 41 (0, 0))) := ⟨h4_⟩
     have n5_ : Aside0 (w93.heap[gb251]? = some (.cells #[.slice none 0 0] 41 (0, 0))) := ⟨h5_⟩
     have n6_ : Aside0 (w93.heap[gb272]? = some (.cells #[.slice none 0 0] 41 (0, 0))) := ⟨h6_⟩
     have n7_ : Aside0 (w.heap.size ≤ gb272) := ⟨h7_⟩
     have n8_ : Aside0 (w.heap.size ≤ gb272) := ⟨h8_⟩
     have n9_ : Aside0 (gb249 ≠ gb272) := ⟨h9_⟩
     have n10_ : Aside0 (gb272 ≠ gb249) := ⟨h10_⟩
     have n11_ : Aside0 (gb250 ≠ gb272) := ⟨h11_⟩
     have n12_ : Aside0 (gb272 ≠ gb250) := ⟨h12_⟩
     have n13_ : Aside0 (gb251 ≠ gb272) := ⟨h13_⟩
     have n14_ : Aside0 (gb272 ≠ gb251) := ⟨h14_⟩
     have n15_ : Aside0 (Below w.heap.size w w93) := ⟨h15_⟩
     clear BK249
     clear BK250
     clear BK251
     clear HB
     clear h0_ h1_ h2_ h3_ h4_ h5_ h6_ h7_ h8_ h9_ h10_ h11_ h12_ h13_ h14_ h15_
     have HO264 := n0_
     have HO267 := n1_
     have HO270 := n2_
     have BK249 := n3_
     have BK250 := n4_
     have BK251 := n5_
     have BK272 := n6_
     have GW272 := n7_
     have GE272 := n8_
     have NB249_272 := n9_
     have NB272_249 := n10_
     have NB250_272 := n11_
     have NB272_250 := n12_
     have NB251_272 := n13_
     have NB272_251 := n14_
     have HB := n15_
     clear n0_ n1_ n2_ n3_ n4_ n5_ n6_ n7_ n8_ n9_ n10_ n11_ n12_ n13_ n14_ n15_
     have hHeld : w93.cell? ⟨gb249, 0, none⟩ = some (.slice A0_0 l0_0.length c0_0) ∧ w93.cell? ⟨gb250, 0, none⟩ = some (.slice A1_0 l1_0.length c1_0) := hS_
     obtain ⟨Ao94, co94, eo94⟩ := Kd.R_slice HO270.out
     (first | subst eo94 | (injection eo94 with f1_ f2_ f3_; have f4_ := f1_.symm; have f5_ := f3_.symm; clear f1_ f2_ f3_; subst f4_; subst f5_))
     refine norm_ (a' := ?_) ?_ ?_
     rotate_left
     ·simp only [putAll, Act.put, List.setIfInBounds_toArray, List.set_cons_zero, List.set_cons_succ]
      rfl
     refine one_ (i := 14) (N := none) #[t_,t_,t_,t_,t_,t_,t_,t_,t_,t_,t_,t_,t_,t_,t_,f_] rfl rfl (one_of HT_.out (by kernel_rfl)) (by decide) (fun K hK => ?_)
     have hs95 : w93.cell? ⟨gb272, 0, none⟩ = some (.slice none 0 0) := (blk_cell BK272.out 0).trans rfl
     have hfs95 := blk_frozen BK272.out 0
     have hns95_0 := NB249_272.out
     have hns95_1 := NB250_272.out
     have hns95_2 := NB251_272.out
     have hms95_0 := NB272_249.out
     have hms95_1 := NB272_250.out
     have hms95_2 := NB272_251.out
     refine skip_ (w1 := ?_) (by rfl) rfl ?_ ?_
     rotate_left
     ·go_simp
      rfl
     refine hK.out _ _ ⟨((cell_far (p := ⟨gb272, _, none⟩) NB249_272.out _).trans (hHeld.1)), ((cell_far (p := ⟨gb272, _, none⟩) NB250_272.out _).trans (hHeld.2))⟩ (fun hHeld => ?_)
     clear hK K
     refine pure_ (i := 15) (N := some 11) (v := ?_) (a' := ?_) #[t_,t_,t_,t_,t_,t_,t_,t_,t_,t_,t_,t_,t_,t_,t_,t_] rfl rfl (any_of HT_.out (by kernel_rfl)) (fun _ _ _ h => h) (Or.inl ⟨by rfl, ?_⟩) ?_ ?_
     rotate_left
     ·intro w'
      go_simp
      with_reducible rfl
     rotate_left
     ·simp only [Act.put, List.setIfInBounds_toArray, List.set_cons_zero, List.set_cons_succ, i64_w, i32_w]
      rfl
     refine done_ (done_of HT_.out (by kernel_rfl)) ?_
     have hnb96 := NB272_249.out
     have hnc96 := NB249_272.out
     have hnb97 := NB272_250.out
     have hnc97 := NB250_272.out
     have hnb98 := NB272_251.out
     have hnc98 := NB251_272.out
     have hcz99_0 : w93.cell? ⟨gb272, 0, none⟩ = some (.slice none 0 0) := (blk_cell BK272.out 0).trans rfl
     have hfz99_0 := blk_frozen BK272.out 0
     have hnb100 := NB251_249.out
     have hnc100 := NB249_251.out
     have hnb101 := NB251_250.out
     have hnc101 := NB250_251.out
     have hcz102_0 : w93.cell? ⟨gb251, 0, none⟩ = some (.slice none 0 0) := (blk_cell BK251.out 0).trans rfl
     have hfz102_0 := blk_frozen BK251.out 0
     try go_wp2
     refine bodyPost_ret (results_ct rfl _ _ gb251 41 #[.slice Ao94 t268.length co94] (0, 0) _ rfl (by (with_reducible repeat (first | refine blk_drewN ?_ _ | refine blk_drew ?_ | refine blk_alloc ?_ _)); refine blk_put (cs := #[.slice none 0 0]) ?_ 0 _ rfl; (with_reducible repeat (first | refine blk_drewN ?_ _ | refine blk_drew ?_ | refine blk_alloc ?_ _)); refine blk_far ?_ NB251_272.out _; (with_reducible repeat (first | refine blk_drewN ?_ _ | refine blk_drew ?_ | refine blk_alloc ?_ _)); exact BK251.out) Try.underlying41 rfl (by kernel_rfl)) rfl ?_
     exact ⟨_, by first | rfl | (simp [errW_none, errW_some] <;> rfl) | (simp [*, errW_none, errW_some] <;> rfl), by (with_reducible repeat (first | apply Kd.R_alloc | apply Kd.R_drewN | apply Kd.R_drew)); exact Kd.R_mono (Kd.R_far (p := ⟨gb251, 0, none⟩) (Kd.R_far (p := ⟨gb272, 0, none⟩) (Kd.R_types (Kd.R_types HO270.out BK272.out (by decide)) BK251.out (by decide)) (fun _ hk => hk.1.2) (.slice Ao94 t268.length co94)) (fun _ hk => hk.2) (.slice Ao94 t268.length co94)) (fun _ hk => trivial), bl_ HB.out⟩
    ·rw [if_neg c83] at H
     exact absurd H (by simp)
end Go.Proofs.Ytbjbolblahlhcaa.PFnExactGlueFrobenius
