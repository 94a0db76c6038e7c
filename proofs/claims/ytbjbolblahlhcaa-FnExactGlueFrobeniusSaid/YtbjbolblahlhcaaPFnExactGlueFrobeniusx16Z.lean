/- A text of the claim for FnExactGlueFrobenius: its part of the chain from the printed contracts and the plain laws to the row. It has no condition of its own. -/
import Derived.Test.YtbjbolblahlhcaaPFnExactGlueFrobeniusx0Z
import Derived.Test.YtbjbolblahlhcaaPFnExactGlueFrobeniusx10Z
import Derived.Test.YtbjbolblahlhcaaPFnExactGlueFrobeniusx11Z
import Derived.Test.YtbjbolblahlhcaaPFnExactGlueFrobeniusx15Z
namespace Go.Proofs.Ytbjbolblahlhcaa.PFnExactGlueFrobenius
open Go.RowKit Go.Proofs.YtbjbolblahlhcaaW.PrintWords Go.Proofs.YtbjbolblahlhcaaW.PrintLast Go.Proofs.YtbjbolblahlhcaaW.PrintMore
open Go.Proofs.Ytbjbolblahlhcaa.SortW (bk_ kr_ bl_)
attribute [local go_sem] max2_int min2_int max_two min_two max_three min_three max_four min_four
set_option linter.unusedVariables false
set_option linter.unusedSimpArgs false
mutual
def impl_GlueOf.j0 : Nat → Int → Int → Bool → List Int → List Int → Option (List Int × Bool)
 | 0, _, _, _, _, _ => none
 | k + 1, x2, x3, x36, x387000, x388000 => if x36 = true then (some (([] : List Int), false)) else ((impl_within.f x2 1 60).bind fun t393 => (if t393 = true then ((impl_within.f x3 1 60).bind fun t394 => (if t394 = true then ((impl_GcdOf.f k x2 x3).bind fun t395 => (impl_GlueOf.j1 k x2 x3 (t395 != 1) x387000 x388000)) else (impl_GlueOf.j1 k x2 x3 true x387000 x388000))) else (impl_GlueOf.j1 k x2 x3 true x387000 x388000)))
def impl_GlueOf.j1 : Nat → Int → Int → Bool → List Int → List Int → Option (List Int × Bool)
 | 0, _, _, _, _, _ => none
 | k + 1, x2, x3, x51, x387000, x388000 => if x51 = true then (some (([] : List Int), false)) else (impl_GlueOf.l0 k x2 x3 (([] : List Int)) x387000 (x387000.length : Int) 0 x388000)
def impl_GlueOf.l0 : Nat → Int → Int → List Int → List Int → Int → Int → List Int → Option (List Int × Bool)
 | 0, _, _, _, _, _, _, _ => none
 | k + 1, x2, x3, x10, x55, x56, x57, x388000 => if x57 < x56 then (if 0 ≤ x57 then (if x57 < (x55.length : Int) then (if x10.length < 17592186044416 then (impl_GlueOf.l0 k x2 x3 (x10 ++ [wrap64 (x2 * (rd x55 x57))]) x55 x56 (wrap64 (x57 + 1)) x388000) else (none)) else (none)) else (none)) else (impl_GlueOf.l1 k x3 x10 x388000 (x388000.length : Int) 0)
def impl_GlueOf.l1 : Nat → Int → List Int → List Int → Int → Int → Option (List Int × Bool)
 | 0, _, _, _, _, _ => none
 | k + 1, x3, x10, x69, x70, x71 => if x71 < x70 then (if 0 ≤ x71 then (if x71 < (x69.length : Int) then (if x10.length < 17592186044416 then (impl_GlueOf.l1 k x3 (x10 ++ [wrap64 (x3 * (rd x69 x71))]) x69 x70 (wrap64 (x71 + 1))) else (none)) else (none)) else (none)) else ((impl_FromGens.f k x10).bind fun bt407 => (some (bt407.1, bt407.2)))
end
def impl_GlueOf.f (k : Nat) (l0_0 : List Int) (l1_0 : List Int) (a2 : Int) (a3 : Int) : Option (List Int × Bool) := (impl_Contains.f k l1_0 a2).bind fun t389 => (if t389 = true then ((slices_Contains_int_int.f k l1_0 a2).bind fun t390 => (if t390 = true then (impl_GlueOf.j0 k a2 a3 true l0_0 l1_0) else ((impl_Contains.f k l0_0 a3).bind fun t391 => (if t391 = true then ((slices_Contains_int_int.f k l0_0 a3).bind fun t392 => (impl_GlueOf.j0 k a2 a3 t392 l0_0 l1_0)) else (impl_GlueOf.j0 k a2 a3 true l0_0 l1_0))))) else (impl_GlueOf.j0 k a2 a3 true l0_0 l1_0))
set_option maxHeartbeats 8000000 in
set_option maxRecDepth 100000 in
theorem impl_GlueOf.calls (k : Nat) (A0_0 : Option Addr) (c0_0 : Nat) (l0_0 : List Int) (A1_0 : Option Addr) (c1_0 : Nat) (l1_0 : List Int) (a2 : Int) (a3 : Int) (r1 : List Int) (r2 : Bool) (w : World) (hr0_0 : Kd.C (Kd.int .i64) w A0_0 l0_0.length l0_0) (hc0_0 : l0_0.length ≤ c0_0) (hr1_0 : Kd.C (Kd.int .i64) w A1_0 l1_0.length l1_0) (hc1_0 : l1_0.length ≤ c1_0) (h : impl_GlueOf.f k l0_0 l1_0 a2 a3 = some (r1, r2)) :
 Calls Try.prog 56 #[.agg #[.slice A0_0 l0_0.length c0_0], .agg #[.slice A1_0 l1_0.length c1_0], .int .i64 a2, .int .i64 a3] w fun e w' => ∃ v0_ : Value, e = .returned (.tuple #[.agg #[v0_], .bool r2]) ∧ Kd.R (Kd.int .i64) 3 w' w.heap.size (fun _ => True) v0_ r1 ∧ Below w.heap.size w w' := by
 have hu41 := Try.underlying41
 have HR0_0 := Aside0.mk hr0_0
 have HC0_0 := Aside0.mk hc0_0
 clear hr0_0 hc0_0
 have HR1_0 := Aside0.mk hr1_0
 have HC1_0 := Aside0.mk hc1_0
 clear hr1_0 hc1_0
 have HB := Aside0.mk (Below.refl w.heap.size w)
 have H : ((impl_Contains.f k l1_0 a2).bind fun t389 => (if t389 = true then ((slices_Contains_int_int.f k l1_0 a2).bind fun t390 => (if t390 = true then (impl_GlueOf.j0 k a2 a3 true l0_0 l1_0) else ((impl_Contains.f k l0_0 a3).bind fun t391 => (if t391 = true then ((slices_Contains_int_int.f k l0_0 a3).bind fun t392 => (impl_GlueOf.j0 k a2 a3 t392 l0_0 l1_0)) else (impl_GlueOf.j0 k a2 a3 true l0_0 l1_0))))) else (impl_GlueOf.j0 k a2 a3 true l0_0 l1_0))) = some (r1, r2) := h
 clear h
 have HC5 := Aside0.mk H
 clear H
 go_enter Try.func56, Try.ntmps56
 go_upto_region 1 with (first | ((with_reducible refine gate_dst (N := 4) rfl ?_); refine box_event ?hg (N := 4) ?hd (cs := #[.slice A0_0 l0_0.length c0_0]) (t := 41) ?hr ?_; (case hd => rfl); (case hg => rfl); (case hr => first | (go_simp; done) | (go_simp; rfl)); intro gb386 hg w6 hbox hb; have n0_ := Aside0.mk (below_step (bl_ HB.out) hb); have n1_ := Aside0.mk (hbox); have n2_ := Aside0.mk ((by rw [hg]; exact (below_size (bl_ HB.out)) : w.heap.size ≤ gb386)); have n3_ := Aside0.mk ((by rw [hg]; exact (below_size (bl_ HB.out)) : w.heap.size ≤ gb386)); clear HB; have HB := n0_; have BK386 := n1_; have GW386 := n2_; have GE386 := n3_; clear n0_ n1_ n2_ n3_; clear hb hbox hg) | ((with_reducible refine gate_dst (N := 5) rfl ?_); refine box_event ?hg (N := 5) ?hd (cs := #[.slice A1_0 l1_0.length c1_0]) (t := 41) ?hr ?_; (case hd => rfl); (case hg => rfl); (case hr => first | (go_simp; done) | (go_simp; rfl)); intro gb387 hg w7 hbox hb; have n0_ := Aside0.mk (blk_below (bk_ BK386.out) hb); have n1_ := Aside0.mk (below_step (bl_ HB.out) hb); have n2_ := Aside0.mk (hbox); have n3_ := Aside0.mk ((by rw [hg]; exact (below_size (bl_ HB.out)) : w.heap.size ≤ gb387)); have n4_ := Aside0.mk ((by rw [hg]; exact (below_size (bl_ HB.out)) : w.heap.size ≤ gb387)); have n5_ := Aside0.mk ((by rw [hg]; exact Nat.ne_of_lt (blk_lt (bk_ BK386.out)) : gb386 ≠ gb387)); have n6_ := Aside0.mk ((by rw [hg]; exact Nat.ne_of_gt (blk_lt (bk_ BK386.out)) : gb387 ≠ gb386)); clear BK386; clear HB; have BK386 := n0_; have HB := n1_; have BK387 := n2_; have GW387 := n3_; have GE387 := n4_; have NB386_387 := n5_; have NB387_386 := n6_; clear n0_ n1_ n2_ n3_ n4_ n5_ n6_; clear hb hbox hg) | ((with_reducible refine gate_dst (N := 8) rfl ?_); refine box_event ?hg (N := 8) ?hd (cs := #[.slice none 0 0]) (t := 41) ?hr ?_; (case hd => rfl); (case hg => rfl); (case hr => first | (go_simp; done) | (go_simp; rfl)); intro gb388 hg w8 hbox hb; have n0_ := Aside0.mk (blk_below (bk_ BK386.out) hb); have n1_ := Aside0.mk (blk_below (bk_ BK387.out) hb); have n2_ := Aside0.mk (below_step (bl_ HB.out) hb); have n3_ := Aside0.mk (hbox); have n4_ := Aside0.mk ((by rw [hg]; exact (below_size (bl_ HB.out)) : w.heap.size ≤ gb388)); have n5_ := Aside0.mk ((by rw [hg]; exact (below_size (bl_ HB.out)) : w.heap.size ≤ gb388)); have n6_ := Aside0.mk ((by rw [hg]; exact Nat.ne_of_lt (blk_lt (bk_ BK386.out)) : gb386 ≠ gb388)); have n7_ := Aside0.mk ((by rw [hg]; exact Nat.ne_of_gt (blk_lt (bk_ BK386.out)) : gb388 ≠ gb386)); have n8_ := Aside0.mk ((by rw [hg]; exact Nat.ne_of_lt (blk_lt (bk_ BK387.out)) : gb387 ≠ gb388)); have n9_ := Aside0.mk ((by rw [hg]; exact Nat.ne_of_gt (blk_lt (bk_ BK387.out)) : gb388 ≠ gb387)); clear BK386; clear BK387; clear HB; have BK386 := n0_; have BK387 := n1_; have HB := n2_; have BK388 := n3_; have GW388 := n4_; have GE388 := n5_; have NB386_388 := n6_; have NB388_386 := n7_; have NB387_388 := n8_; have NB388_387 := n9_; clear n0_ n1_ n2_ n3_ n4_ n5_ n6_ n7_ n8_ n9_; clear hb hbox hg))
 (try simp only [Act.put, List.setIfInBounds_toArray, List.set_cons_zero, List.set_cons_succ])
 go_cut [36] (fun v36 wc => ∃ (kq : Nat) (x36_4 : Bool), v36 = .bool x36_4 ∧ Aside0 (impl_GlueOf.j0 kq a2 a3 x36_4 l0_0 l1_0 = some (r1, r2)) ∧ Aside0 (kq ≤ k) ∧ Aside0 (wc.heap[gb386]? = some (.cells #[(.slice A0_0 l0_0.length c0_0)] 41 (0, 0))) ∧ Aside0 (wc.heap[gb387]? = some (.cells #[(.slice A1_0 l1_0.length c1_0)] 41 (0, 0))) ∧ Aside0 (wc.heap[gb388]? = some (.cells #[(.slice none 0 0)] 41 (0, 0))) ∧ Aside0 (Below w.heap.size w wc))
 case first =>
  have H := HC5.out
  clear HC5
  replace H := Option.bind_eq_some_iff.mp H
  obtain ⟨t389, A90, H⟩ := H
  (try dsimp only at H)
  have A9 := Aside0.mk A90
  clear A90
  by_cases c10 : t389 = true
  ·subst c10
   rw [if_pos rfl] at H
   replace H := Option.bind_eq_some_iff.mp H
   obtain ⟨t390, A110, H⟩ := H
   (try dsimp only at H)
   have A11 := Aside0.mk A110
   clear A110
   by_cases c12 : t390 = true
   ·subst c12
    rw [if_pos rfl] at H
    have H' := Aside0.mk H
    clear H
    have hnb13 := NB387_386.out
    have hnc13 := NB386_387.out
    have hnb14 := NB387_388.out
    have hnc14 := NB388_387.out
    have hcz15_0 : w8.cell? ⟨gb387, 0, none⟩ = some (.slice A1_0 l1_0.length c1_0) := (blk_cell BK387.out 0).trans rfl
    have hfz15_0 := blk_frozen BK387.out 0
    go_wp2_with (first | ((with_reducible refine gate_callee (f := 112) rfl ?_); refine goesL_ (some 17) rfl rfl Try.func112 (by kernel_rfl) rfl #[.agg #[.slice A1_0 l1_0.length c1_0], .int .i64 a2] rfl (by (try simp only [List.map_toArray, List.map_cons, List.map_nil]); first | done | rfl | (simp only [List.length_drop, List.length_take]; rfl)) ?_; (with_reducible refine (impl_Contains.calls k _ _ l1_0 a2 true _ ?side1 ?side2 A9.out).mono ?_); (case side1 => repeat (first | exact (Kd.C_below HR1_0.out HB.out) | exact HR1_0.out | (with_reducible refine Kd.C_alloc ?_ _) | (with_reducible refine Kd.C_drewN ?_ _) | (with_reducible refine Kd.C_drew ?_))); (case side2 => exact HC1_0.out); rintro e w16 ⟨rfl, hb⟩; refine ⟨_, rfl, ?_⟩; have n0_ := Aside0.mk (blk_below (bk_ BK386.out) hb); have n1_ := Aside0.mk (blk_below (bk_ BK387.out) hb); have n2_ := Aside0.mk (blk_below (bk_ BK388.out) hb); have n3_ := Aside0.mk (below_step (bl_ HB.out) hb); clear BK386; clear BK387; clear BK388; clear HB; have BK386 := n0_; have BK387 := n1_; have BK388 := n2_; have HB := n3_; clear n0_ n1_ n2_ n3_; (try clear hb); (try clear hb2); (try clear hk); (try clear hi); have hcz17_0 : w16.cell? ⟨gb387, 0, none⟩ = some (.slice A1_0 l1_0.length c1_0) := (blk_cell BK387.out 0).trans rfl; have hfz17_0 := blk_frozen BK387.out 0) | (go_at_call 113; (with_reducible refine (slices_Contains_int_int.calls k _ _ l1_0 a2 true _ ?side1 ?side2 A11.out).mono ?_); (case side1 => repeat (first | exact (Kd.C_below HR1_0.out HB.out) | (with_reducible refine Kd.C_alloc ?_ _) | (with_reducible refine Kd.C_drewN ?_ _) | (with_reducible refine Kd.C_drew ?_))); (case side2 => exact HC1_0.out); rintro e w' ⟨rfl, ⟨nd, rfl⟩⟩))
    go_meet
    case rel => exact ⟨_, (true), (by first | rfl | (simp; done) | (simp [*]; done)), H', ⟨by first | omega | exact Nat.le_refl _⟩, ⟨bk_ BK386.out⟩, ⟨bk_ BK387.out⟩, ⟨bk_ BK388.out⟩, ⟨bl_ HB.out⟩⟩
   ·replace c12 := Bool.eq_false_iff.mpr c12
    subst c12
    rw [if_neg (show ¬ (false = true) by decide)] at H
    replace H := Option.bind_eq_some_iff.mp H
    obtain ⟨t391, A180, H⟩ := H
    (try dsimp only at H)
    have A18 := Aside0.mk A180
    clear A180
    by_cases c19 : t391 = true
    ·subst c19
     rw [if_pos rfl] at H
     replace H := Option.bind_eq_some_iff.mp H
     obtain ⟨t392, A200, H⟩ := H
     (try dsimp only at H)
     have A20 := Aside0.mk A200
     clear A200
     have H' := Aside0.mk H
     clear H
     have hnb21 := NB387_386.out
     have hnc21 := NB386_387.out
     have hnb22 := NB387_388.out
     have hnc22 := NB388_387.out
     have hcz23_0 : w8.cell? ⟨gb387, 0, none⟩ = some (.slice A1_0 l1_0.length c1_0) := (blk_cell BK387.out 0).trans rfl
     have hfz23_0 := blk_frozen BK387.out 0
     go_wp2_with (first | ((with_reducible refine gate_callee (f := 112) rfl ?_); refine goesL_ (some 17) rfl rfl Try.func112 (by kernel_rfl) rfl #[.agg #[.slice A1_0 l1_0.length c1_0], .int .i64 a2] rfl (by (try simp only [List.map_toArray, List.map_cons, List.map_nil]); first | done | rfl | (simp only [List.length_drop, List.length_take]; rfl)) ?_; (with_reducible refine (impl_Contains.calls k _ _ l1_0 a2 true _ ?side1 ?side2 A9.out).mono ?_); (case side1 => repeat (first | exact (Kd.C_below HR1_0.out HB.out) | exact HR1_0.out | (with_reducible refine Kd.C_alloc ?_ _) | (with_reducible refine Kd.C_drewN ?_ _) | (with_reducible refine Kd.C_drew ?_))); (case side2 => exact HC1_0.out); rintro e w24 ⟨rfl, hb⟩; refine ⟨_, rfl, ?_⟩; have n0_ := Aside0.mk (blk_below (bk_ BK386.out) hb); have n1_ := Aside0.mk (blk_below (bk_ BK387.out) hb); have n2_ := Aside0.mk (blk_below (bk_ BK388.out) hb); have n3_ := Aside0.mk (below_step (bl_ HB.out) hb); clear BK386; clear BK387; clear BK388; clear HB; have BK386 := n0_; have BK387 := n1_; have BK388 := n2_; have HB := n3_; clear n0_ n1_ n2_ n3_; (try clear hb); (try clear hb2); (try clear hk); (try clear hi); have hcz25_0 : w24.cell? ⟨gb387, 0, none⟩ = some (.slice A1_0 l1_0.length c1_0) := (blk_cell BK387.out 0).trans rfl; have hfz25_0 := blk_frozen BK387.out 0) | (go_at_call 113; (with_reducible refine (slices_Contains_int_int.calls k _ _ l1_0 a2 false _ ?side1 ?side2 A11.out).mono ?_); (case side1 => repeat (first | exact (Kd.C_below HR1_0.out HB.out) | (with_reducible refine Kd.C_alloc ?_ _) | (with_reducible refine Kd.C_drewN ?_ _) | (with_reducible refine Kd.C_drew ?_))); (case side2 => exact HC1_0.out); rintro e w' ⟨rfl, ⟨nd, rfl⟩⟩; have hnb26 := NB386_388.out; have hnc26 := NB388_386.out; have hcz27_0 : w24.cell? ⟨gb386, 0, none⟩ = some (.slice A0_0 l0_0.length c0_0) := (blk_cell BK386.out 0).trans rfl; have hfz27_0 := blk_frozen BK386.out 0) | (go_at_call 112; (with_reducible refine (impl_Contains.calls k _ _ l0_0 a3 true _ ?side1 ?side2 A18.out).mono ?_); (case side1 => repeat (first | exact (Kd.C_below HR0_0.out (bl_ HB.out)) | (with_reducible refine Kd.C_alloc ?_ _) | (with_reducible refine Kd.C_drewN ?_ _) | (with_reducible refine Kd.C_drew ?_))); (case side2 => exact HC0_0.out); rintro e w28 ⟨rfl, hb⟩; have n0_ := Aside0.mk (blk_below (bk_ BK386.out) hb); have n1_ := Aside0.mk (blk_below (bk_ BK387.out) hb); have n2_ := Aside0.mk (blk_below (bk_ BK388.out) hb); have n3_ := Aside0.mk (below_step (bl_ HB.out) hb); clear BK386; clear BK387; clear BK388; clear HB; have BK386 := n0_; have BK387 := n1_; have BK388 := n2_; have HB := n3_; clear n0_ n1_ n2_ n3_; (try clear hb); (try clear hb2); (try clear hk); (try clear hi); have hcz29_0 : w28.cell? ⟨gb386, 0, none⟩ = some (.slice A0_0 l0_0.length c0_0) := (blk_cell BK386.out 0).trans rfl; have hfz29_0 := blk_frozen BK386.out 0) | (go_at_call 113; (with_reducible refine (slices_Contains_int_int.calls k _ _ l0_0 a3 t392 _ ?side1 ?side2 A20.out).mono ?_); (case side1 => repeat (first | exact (Kd.C_below HR0_0.out HB.out) | (with_reducible refine Kd.C_alloc ?_ _) | (with_reducible refine Kd.C_drewN ?_ _) | (with_reducible refine Kd.C_drew ?_))); (case side2 => exact HC0_0.out); rintro e w' ⟨rfl, ⟨nd, rfl⟩⟩))
     go_meet
     case rel => exact ⟨_, (t392), (by first | rfl | (simp; done) | (simp [*]; done)), H', ⟨by first | omega | exact Nat.le_refl _⟩, ⟨bk_ BK386.out⟩, ⟨bk_ BK387.out⟩, ⟨bk_ BK388.out⟩, ⟨bl_ HB.out⟩⟩
    ·replace c19 := Bool.eq_false_iff.mpr c19
     subst c19
     rw [if_neg (show ¬ (false = true) by decide)] at H
     have H' := Aside0.mk H
     clear H
     have hnb30 := NB387_386.out
     have hnc30 := NB386_387.out
     have hnb31 := NB387_388.out
     have hnc31 := NB388_387.out
     have hcz32_0 : w8.cell? ⟨gb387, 0, none⟩ = some (.slice A1_0 l1_0.length c1_0) := (blk_cell BK387.out 0).trans rfl
     have hfz32_0 := blk_frozen BK387.out 0
     go_wp2_with (first | ((with_reducible refine gate_callee (f := 112) rfl ?_); refine goesL_ (some 17) rfl rfl Try.func112 (by kernel_rfl) rfl #[.agg #[.slice A1_0 l1_0.length c1_0], .int .i64 a2] rfl (by (try simp only [List.map_toArray, List.map_cons, List.map_nil]); first | done | rfl | (simp only [List.length_drop, List.length_take]; rfl)) ?_; (with_reducible refine (impl_Contains.calls k _ _ l1_0 a2 true _ ?side1 ?side2 A9.out).mono ?_); (case side1 => repeat (first | exact (Kd.C_below HR1_0.out HB.out) | exact HR1_0.out | (with_reducible refine Kd.C_alloc ?_ _) | (with_reducible refine Kd.C_drewN ?_ _) | (with_reducible refine Kd.C_drew ?_))); (case side2 => exact HC1_0.out); rintro e w33 ⟨rfl, hb⟩; refine ⟨_, rfl, ?_⟩; have n0_ := Aside0.mk (blk_below (bk_ BK386.out) hb); have n1_ := Aside0.mk (blk_below (bk_ BK387.out) hb); have n2_ := Aside0.mk (blk_below (bk_ BK388.out) hb); have n3_ := Aside0.mk (below_step (bl_ HB.out) hb); clear BK386; clear BK387; clear BK388; clear HB; have BK386 := n0_; have BK387 := n1_; have BK388 := n2_; have HB := n3_; clear n0_ n1_ n2_ n3_; (try clear hb); (try clear hb2); (try clear hk); (try clear hi); have hcz34_0 : w33.cell? ⟨gb387, 0, none⟩ = some (.slice A1_0 l1_0.length c1_0) := (blk_cell BK387.out 0).trans rfl; have hfz34_0 := blk_frozen BK387.out 0) | (go_at_call 113; (with_reducible refine (slices_Contains_int_int.calls k _ _ l1_0 a2 false _ ?side1 ?side2 A11.out).mono ?_); (case side1 => repeat (first | exact (Kd.C_below HR1_0.out HB.out) | (with_reducible refine Kd.C_alloc ?_ _) | (with_reducible refine Kd.C_drewN ?_ _) | (with_reducible refine Kd.C_drew ?_))); (case side2 => exact HC1_0.out); rintro e w' ⟨rfl, ⟨nd, rfl⟩⟩; have hnb35 := NB386_388.out; have hnc35 := NB388_386.out; have hcz36_0 : w33.cell? ⟨gb386, 0, none⟩ = some (.slice A0_0 l0_0.length c0_0) := (blk_cell BK386.out 0).trans rfl; have hfz36_0 := blk_frozen BK386.out 0) | (go_at_call 112; (with_reducible refine (impl_Contains.calls k _ _ l0_0 a3 false _ ?side1 ?side2 A18.out).mono ?_); (case side1 => repeat (first | exact (Kd.C_below HR0_0.out (bl_ HB.out)) | (with_reducible refine Kd.C_alloc ?_ _) | (with_reducible refine Kd.C_drewN ?_ _) | (with_reducible refine Kd.C_drew ?_))); (case side2 => exact HC0_0.out); rintro e w37 ⟨rfl, hb⟩; have n0_ := Aside0.mk (blk_below (bk_ BK386.out) hb); have n1_ := Aside0.mk (blk_below (bk_ BK387.out) hb); have n2_ := Aside0.mk (blk_below (bk_ BK388.out) hb); have n3_ := Aside0.mk (below_step (bl_ HB.out) hb); clear BK386; clear BK387; clear BK388; clear HB; have BK386 := n0_; have BK387 := n1_; have BK388 := n2_; have HB := n3_; clear n0_ n1_ n2_ n3_; (try clear hb); (try clear hb2); (try clear hk); (try clear hi)))
     go_meet
     case rel => exact ⟨_, (true), (by first | rfl | (simp; done) | (simp [*]; done)), H', ⟨by first | omega | exact Nat.le_refl _⟩, ⟨bk_ BK386.out⟩, ⟨bk_ BK387.out⟩, ⟨bk_ BK388.out⟩, ⟨bl_ HB.out⟩⟩
  ·replace c10 := Bool.eq_false_iff.mpr c10
   subst c10
   rw [if_neg (show ¬ (false = true) by decide)] at H
   have H' := Aside0.mk H
   clear H
   have hnb38 := NB387_386.out
   have hnc38 := NB386_387.out
   have hnb39 := NB387_388.out
   have hnc39 := NB388_387.out
   have hcz40_0 : w8.cell? ⟨gb387, 0, none⟩ = some (.slice A1_0 l1_0.length c1_0) := (blk_cell BK387.out 0).trans rfl
   have hfz40_0 := blk_frozen BK387.out 0
   go_wp2_with (first | ((with_reducible refine gate_callee (f := 112) rfl ?_); refine goesL_ (some 17) rfl rfl Try.func112 (by kernel_rfl) rfl #[.agg #[.slice A1_0 l1_0.length c1_0], .int .i64 a2] rfl (by (try simp only [List.map_toArray, List.map_cons, List.map_nil]); first | done | rfl | (simp only [List.length_drop, List.length_take]; rfl)) ?_; (with_reducible refine (impl_Contains.calls k _ _ l1_0 a2 false _ ?side1 ?side2 A9.out).mono ?_); (case side1 => repeat (first | exact (Kd.C_below HR1_0.out HB.out) | exact HR1_0.out | (with_reducible refine Kd.C_alloc ?_ _) | (with_reducible refine Kd.C_drewN ?_ _) | (with_reducible refine Kd.C_drew ?_))); (case side2 => exact HC1_0.out); rintro e w41 ⟨rfl, hb⟩; refine ⟨_, rfl, ?_⟩; have n0_ := Aside0.mk (blk_below (bk_ BK386.out) hb); have n1_ := Aside0.mk (blk_below (bk_ BK387.out) hb); have n2_ := Aside0.mk (blk_below (bk_ BK388.out) hb); have n3_ := Aside0.mk (below_step (bl_ HB.out) hb); clear BK386; clear BK387; clear BK388; clear HB; have BK386 := n0_; have BK387 := n1_; have BK388 := n2_; have HB := n3_; clear n0_ n1_ n2_ n3_; (try clear hb); (try clear hb2); (try clear hk); (try clear hi)))
   go_meet
   case rel => exact ⟨_, (true), (by first | rfl | (simp; done) | (simp [*]; done)), H', ⟨by first | omega | exact Nat.le_refl _⟩, ⟨bk_ BK386.out⟩, ⟨bk_ BK387.out⟩, ⟨bk_ BK388.out⟩, ⟨bl_ HB.out⟩⟩
 case rest =>
  clear HC5
  try clear c1
  try clear c2
  try clear p2
  try clear c3
  try clear c5
  try clear c10
  try clear c11
  try clear c12
  try clear c13
  try clear c14
  try clear c19
  try clear c21
  try clear c22
  try clear c26
  try clear c30
  try clear c31
  try clear c35
  try clear c38
  try clear c39
  try clear hcz15_0
  try clear hcz17_0
  try clear hcz23_0
  try clear hcz25_0
  try clear hcz27_0
  try clear hcz29_0
  try clear hcz32_0
  try clear hcz34_0
  try clear hcz36_0
  try clear hcz40_0
  try clear hfz15_0
  try clear hfz17_0
  try clear hfz23_0
  try clear hfz25_0
  try clear hfz27_0
  try clear hfz29_0
  try clear hfz32_0
  try clear hfz34_0
  try clear hfz36_0
  try clear hfz40_0
  obtain ⟨kq, x36_4, rfl, HA, HJ4, BK386, BK387, BK388, HB⟩ := hcut
  cases kq with
  | zero => exact absurd HA.out (by simp [impl_GlueOf.j0])
  | succ kj4 =>
   have H := HA.out
   clear HA
   simp only [impl_GlueOf.j0] at H
   by_cases c42 : x36_4 = true
   ·subst c42
    rw [if_pos rfl] at H
    simp only [Option.some.injEq, Prod.mk.injEq] at H
    obtain ⟨rfl, rfl⟩ := H
    have hnb43 := NB388_386.out
    have hnc43 := NB386_388.out
    have hnb44 := NB388_387.out
    have hnc44 := NB387_388.out
    have hcz45_0 : wc.cell? ⟨gb388, 0, none⟩ = some (.slice none 0 0) := (blk_cell BK388.out 0).trans rfl
    have hfz45_0 := blk_frozen BK388.out 0
    go_wp2
    refine bodyPost_ret (results_ct rfl _ _ gb388 41 #[.slice none 0 0] (0, 0) _ rfl (by (with_reducible repeat (first | refine blk_drewN ?_ _ | refine blk_drew ?_ | refine blk_alloc ?_ _)); refine blk_put (cs := #[.slice none 0 0]) ?_ 0 _ rfl; (with_reducible repeat (first | refine blk_drewN ?_ _ | refine blk_drew ?_ | refine blk_alloc ?_ _)); exact BK388.out) Try.underlying41 rfl (by kernel_rfl)) rfl ?_
    exact ⟨_, by first | rfl | (simp [errW_none, errW_some] <;> rfl) | (simp [*, errW_none, errW_some] <;> rfl), by first | exact Kd.R_nil _ _ _ _ _ | exact Kd.N_nil _ _ _ _ _ | exact Kd.V_nil _ _ _ _ _ | exact Kd.Q_nil _ _ _ _ _ | exact Kd.S_nil _ _ _ _ _, bl_ HB.out⟩
   ·replace c42 := Bool.eq_false_iff.mpr c42
    subst c42
    rw [if_neg (show ¬ (false = true) by decide)] at H
    have HC46 := Aside0.mk H
    clear H
    go_upto_region 3 with (fail)
    go_cut [51] (fun v51 wc => ∃ (kq : Nat) (x51_45 : Bool), v51 = .bool x51_45 ∧ Aside0 (impl_GlueOf.j1 kq a2 a3 x51_45 l0_0 l1_0 = some (r1, r2)) ∧ Aside0 (kq ≤ kj4) ∧ Aside0 (wc.heap[gb386]? = some (.cells #[(.slice A0_0 l0_0.length c0_0)] 41 (0, 0))) ∧ Aside0 (wc.heap[gb387]? = some (.cells #[(.slice A1_0 l1_0.length c1_0)] 41 (0, 0))) ∧ Aside0 (wc.heap[gb388]? = some (.cells #[(.slice none 0 0)] 41 (0, 0))) ∧ Aside0 (Below w.heap.size w wc))
    case first =>
     have H := HC46.out
     clear HC46
     replace H := Option.bind_eq_some_iff.mp H
     obtain ⟨t393, A470, H⟩ := H
     (try dsimp only at H)
     have A47 := Aside0.mk A470
     clear A470
     by_cases c48 : t393 = true
     ·subst c48
      rw [if_pos rfl] at H
      replace H := Option.bind_eq_some_iff.mp H
      obtain ⟨t394, A490, H⟩ := H
      (try dsimp only at H)
      have A49 := Aside0.mk A490
      clear A490
      by_cases c50 : t394 = true
      ·subst c50
       rw [if_pos rfl] at H
       replace H := Option.bind_eq_some_iff.mp H
       obtain ⟨t395, A510, H⟩ := H
       (try dsimp only at H)
       have A51 := Aside0.mk A510
       clear A510
       have H' := Aside0.mk H
       clear H
       go_wp2_with (first | ((with_reducible refine gate_callee (f := 77) rfl ?_); refine goesL_ (some 39) rfl rfl Try.func77 (by kernel_rfl) rfl #[.int .i64 a2, .int .i64 1, .int .i64 60] rfl (by (try simp only [List.map_toArray, List.map_cons, List.map_nil]); first | done | rfl | (simp only [List.length_drop, List.length_take]; rfl)) ?_; (with_reducible refine (impl_within.calls a2 1 60 true _ A47.out).mono ?_); rintro e w' ⟨rfl, ⟨nd, rfl⟩⟩; refine ⟨_, rfl, ?_⟩) | (go_at_call 77; (with_reducible refine (impl_within.calls a3 1 60 true _ A49.out).mono ?_); rintro e w' ⟨rfl, ⟨nd, rfl⟩⟩) | (go_at_call 114; (with_reducible refine (impl_GcdOf.calls kj4 a2 a3 t395 _ A51.out).mono ?_); rintro e w52 ⟨rfl, hb⟩; have n0_ := Aside0.mk (blk_below (bk_ BK386.out) hb); have n1_ := Aside0.mk (blk_below (bk_ BK387.out) hb); have n2_ := Aside0.mk (blk_below (bk_ BK388.out) hb); have n3_ := Aside0.mk (below_step (bl_ HB.out) hb); clear BK386; clear BK387; clear BK388; clear HB; have BK386 := n0_; have BK387 := n1_; have BK388 := n2_; have HB := n3_; clear n0_ n1_ n2_ n3_; (try clear hb); (try clear hb2); (try clear hk); (try clear hi)))
       go_meet
       case rel => exact ⟨_, ((t395 != 1)), (by first | rfl | (simp; done) | (simp [*]; done)), H', ⟨by have := HJ4.out; first | omega | exact Nat.le_refl _⟩, ⟨bk_ BK386.out⟩, ⟨bk_ BK387.out⟩, ⟨bk_ BK388.out⟩, ⟨bl_ HB.out⟩⟩
      ·replace c50 := Bool.eq_false_iff.mpr c50
       subst c50
       rw [if_neg (show ¬ (false = true) by decide)] at H
       have H' := Aside0.mk H
       clear H
       go_wp2_with (first | ((with_reducible refine gate_callee (f := 77) rfl ?_); refine goesL_ (some 39) rfl rfl Try.func77 (by kernel_rfl) rfl #[.int .i64 a2, .int .i64 1, .int .i64 60] rfl (by (try simp only [List.map_toArray, List.map_cons, List.map_nil]); first | done | rfl | (simp only [List.length_drop, List.length_take]; rfl)) ?_; (with_reducible refine (impl_within.calls a2 1 60 true _ A47.out).mono ?_); rintro e w' ⟨rfl, ⟨nd, rfl⟩⟩; refine ⟨_, rfl, ?_⟩) | (go_at_call 77; (with_reducible refine (impl_within.calls a3 1 60 false _ A49.out).mono ?_); rintro e w' ⟨rfl, ⟨nd, rfl⟩⟩))
       go_meet
       case rel => exact ⟨_, (true), (by first | rfl | (simp; done) | (simp [*]; done)), H', ⟨by have := HJ4.out; first | omega | exact Nat.le_refl _⟩, ⟨bk_ BK386.out⟩, ⟨bk_ BK387.out⟩, ⟨bk_ BK388.out⟩, ⟨bl_ HB.out⟩⟩
     ·replace c48 := Bool.eq_false_iff.mpr c48
      subst c48
      rw [if_neg (show ¬ (false = true) by decide)] at H
      have H' := Aside0.mk H
      clear H
      go_wp2_with (first | ((with_reducible refine gate_callee (f := 77) rfl ?_); refine goesL_ (some 39) rfl rfl Try.func77 (by kernel_rfl) rfl #[.int .i64 a2, .int .i64 1, .int .i64 60] rfl (by (try simp only [List.map_toArray, List.map_cons, List.map_nil]); first | done | rfl | (simp only [List.length_drop, List.length_take]; rfl)) ?_; (with_reducible refine (impl_within.calls a2 1 60 false _ A47.out).mono ?_); rintro e w' ⟨rfl, ⟨nd, rfl⟩⟩; refine ⟨_, rfl, ?_⟩))
      go_meet
      case rel => exact ⟨_, (true), (by first | rfl | (simp; done) | (simp [*]; done)), H', ⟨by have := HJ4.out; first | omega | exact Nat.le_refl _⟩, ⟨bk_ BK386.out⟩, ⟨bk_ BK387.out⟩, ⟨bk_ BK388.out⟩, ⟨bl_ HB.out⟩⟩
    case rest =>
     clear HC46
     try clear c1
     try clear c2
     try clear p2
     try clear c3
     try clear c4
     try clear c5
     try clear c7
     try clear c10
     try clear c11
     try clear c12
     try clear c13
     try clear c14
     try clear c19
     try clear c21
     try clear c22
     try clear c26
     try clear c30
     try clear c31
     try clear c35
     try clear c38
     try clear c39
     try clear c42
     try clear c43
     try clear c44
     try clear c48
     try clear c50
     try clear hcz15_0
     try clear hcz17_0
     try clear hcz23_0
     try clear hcz25_0
     try clear hcz27_0
     try clear hcz29_0
     try clear hcz32_0
     try clear hcz34_0
     try clear hcz36_0
     try clear hcz40_0
     try clear hcz45_0
     try clear hfz15_0
     try clear hfz17_0
     try clear hfz23_0
     try clear hfz25_0
     try clear hfz27_0
     try clear hfz29_0
     try clear hfz32_0
     try clear hfz34_0
     try clear hfz36_0
     try clear hfz40_0
     try clear hfz45_0
     try clear p2
     obtain ⟨kq, x51_45, rfl, HA, HJ45, BK386, BK387, BK388, HB⟩ := hcut
     cases kq with
     | zero => exact absurd HA.out (by simp [impl_GlueOf.j1])
     | succ kj45 =>
      have H := HA.out
      clear HA
      simp only [impl_GlueOf.j1] at H
      by_cases c53 : x51_45 = true
      ·subst c53
       rw [if_pos rfl] at H
       simp only [Option.some.injEq, Prod.mk.injEq] at H
       obtain ⟨rfl, rfl⟩ := H
       have hnb54 := NB388_386.out
       have hnc54 := NB386_388.out
       have hnb55 := NB388_387.out
       have hnc55 := NB387_388.out
       have hcz56_0 : wc.cell? ⟨gb388, 0, none⟩ = some (.slice none 0 0) := (blk_cell BK388.out 0).trans rfl
       have hfz56_0 := blk_frozen BK388.out 0
       go_wp2
       refine bodyPost_ret (results_ct rfl _ _ gb388 41 #[.slice none 0 0] (0, 0) _ rfl (by (with_reducible repeat (first | refine blk_drewN ?_ _ | refine blk_drew ?_ | refine blk_alloc ?_ _)); refine blk_put (cs := #[.slice none 0 0]) ?_ 0 _ rfl; (with_reducible repeat (first | refine blk_drewN ?_ _ | refine blk_drew ?_ | refine blk_alloc ?_ _)); exact BK388.out) Try.underlying41 rfl (by kernel_rfl)) rfl ?_
       exact ⟨_, by first | rfl | (simp [errW_none, errW_some] <;> rfl) | (simp [*, errW_none, errW_some] <;> rfl), by first | exact Kd.R_nil _ _ _ _ _ | exact Kd.N_nil _ _ _ _ _ | exact Kd.V_nil _ _ _ _ _ | exact Kd.Q_nil _ _ _ _ _ | exact Kd.S_nil _ _ _ _ _, bl_ HB.out⟩
      ·replace c53 := Bool.eq_false_iff.mpr c53
       subst c53
       rw [if_neg (show ¬ (false = true) by decide)] at H
       obtain ⟨y396, hy396⟩ : ∃ y_ : List Int, y_ = (([] : List Int)) := ⟨_, rfl⟩
       replace H : (impl_GlueOf.l0 kj45 a2 a3 y396 l0_0 (l0_0.length : Int) 0 l1_0) = some (r1, r2) := by first | (rw [hy396]; with_reducible exact H) | (have H2_ := (Option.bind_some _ _).symm.trans H; rw [hy396]; with_reducible exact H2_) | (have H2_ := (Option.bind_some _ _).symm.trans H; with_reducible exact H2_) | with_reducible exact H | (rw [hy396]; exact H) | exact H
       have Ny396 := Aside0.mk hy396
       clear hy396
       have H' := Aside0.mk H
       clear H
       go_wp2_with (first | ((with_reducible refine gate_dst (N := 53) rfl ?_); refine Kd.R_lit (Kd.int .i64) _ 3 ?hg (N := 53) ?hd (xs := ([] : List Int)) (inner := []) (ok := fun _ => True) (okp := fun _ => True) ?hr ?hp (fun _ hk => hk) trivial (Below.refl _ _) (Nat.le_refl _) (by simp) ?_; (case hd => rfl); (case hg => rfl); (case hr => first | (go_simp; done) | (go_simp; rfl)); (case hp => exact (Reps.none _ _)); intro v397 w57 ho58 hb hg_ hnew_; clear hg_ hnew_; (first | rw [← Ny396.out] at ho58 | (simp only [Int.reduceToNat] at ho58; rw [← Ny396.out] at ho58)); have n0_ := Aside0.mk (Kd.R_lower ho58 (below_size (bl_ HB.out))); have n1_ := Aside0.mk (blk_below (bk_ BK386.out) hb); have n2_ := Aside0.mk (blk_below (bk_ BK387.out) hb); have n3_ := Aside0.mk (blk_below (bk_ BK388.out) hb); have n4_ := Aside0.mk (below_step (bl_ HB.out) hb); clear BK386; clear BK387; clear BK388; clear HB; have HO398 := n0_; have BK386 := n1_; have BK387 := n2_; have BK388 := n3_; have HB := n4_; clear n0_ n1_ n2_ n3_ n4_; clear hb ho58; have hnb59 := NB386_387.out; have hnc59 := NB387_386.out; have hnb60 := NB386_388.out; have hnc60 := NB388_386.out; have hcz61_0 : w57.cell? ⟨gb386, 0, none⟩ = some (.slice A0_0 l0_0.length c0_0) := (blk_cell BK386.out 0).trans rfl; have hfz61_0 := blk_frozen BK386.out 0))
       go_loopg [10, 57] kj45 (fun kq v10 v57 w' => ∃ (x10_3 : List Int) (x57_3 : Int), v57 = .int .i64 x57_3 ∧ Aside0 (impl_GlueOf.l0 kq a2 a3 x10_3 l0_0 (l0_0.length : Int) x57_3 l1_0 = some (r1, r2)) ∧ Aside0 (kq ≤ kj45) ∧ Aside0 (Kd.R (Kd.int .i64) 3 w' w.heap.size (fun _ => True) v10 x10_3) ∧ Aside0 (w'.heap[gb386]? = some (.cells #[(.slice A0_0 l0_0.length c0_0)] 41 (0, 0))) ∧ Aside0 (w'.heap[gb387]? = some (.cells #[(.slice A1_0 l1_0.length c1_0)] 41 (0, 0))) ∧ Aside0 (w'.heap[gb388]? = some (.cells #[(.slice none 0 0)] 41 (0, 0))) ∧ Aside0 (Below w.heap.size w w'))
       case atStart => exact ⟨(y396), (0), (by first | rfl | (simp; done) | (simp [*]; done)), H', ⟨Nat.le_refl _⟩, ⟨kr_ HO398.out⟩, ⟨bk_ BK386.out⟩, ⟨bk_ BK387.out⟩, ⟨bk_ BK388.out⟩, ⟨bl_ HB.out⟩⟩
       case round =>
        clear H'
        try clear c1
        try clear c2
        try clear p2
        try clear c3
        try clear c4
        try clear c5
        try clear c6
        try clear c7
        try clear c10
        try clear c11
        try clear c12
        try clear c13
        try clear c14
        try clear c19
        try clear c21
        try clear c22
        try clear c26
        try clear c30
        try clear c31
        try clear c35
        try clear c38
        try clear c39
        try clear c42
        try clear c43
        try clear c44
        try clear c48
        try clear c50
        try clear c53
        try clear c54
        try clear c55
        try clear c56
        try clear c59
        try clear c60
        try clear hcz15_0
        try clear hcz17_0
        try clear hcz23_0
        try clear hcz25_0
        try clear hcz27_0
        try clear hcz29_0
        try clear hcz32_0
        try clear hcz34_0
        try clear hcz36_0
        try clear hcz40_0
        try clear hcz45_0
        try clear hcz56_0
        try clear hcz61_0
        try clear hfz15_0
        try clear hfz17_0
        try clear hfz23_0
        try clear hfz25_0
        try clear hfz27_0
        try clear hfz29_0
        try clear hfz32_0
        try clear hfz34_0
        try clear hfz36_0
        try clear hfz40_0
        try clear hfz45_0
        try clear hfz56_0
        try clear hfz61_0
        try clear p2
        obtain ⟨x10_3, x57_3, rfl, HA, HK3, HO_10, BK386, BK387, BK388, HB⟩ := hrel
        cases gk with
        | zero => exact absurd HA.out (by simp [impl_GlueOf.l0])
        | succ k3 =>
         have H := HA.out
         clear HA
         simp only [impl_GlueOf.l0] at H
         by_cases c62 : x57_3 < (l0_0.length : Int)
         ·rw [if_pos c62] at H
          have c62b0 : decide (x57_3 < (l0_0.length : Int)) = true := decide_eq_true c62
          clear c62
          by_cases c63 : 0 ≤ x57_3
          ·rw [if_pos c63] at H
           have c63b0 : decide (0 ≤ x57_3) = true := decide_eq_true c63
           clear c63
           by_cases c64 : x57_3 < (l0_0.length : Int)
           ·rw [if_pos c64] at H
            have c64b0 : decide (x57_3 < (l0_0.length : Int)) = true := decide_eq_true c64
            clear c64
            by_cases c65 : x10_3.length < 17592186044416
            ·rw [if_pos c65] at H
             have LMc65 := Aside0.mk c65
             clear c65
             obtain ⟨y400, hy400⟩ : ∃ y_ : List Int, y_ = (x10_3 ++ [wrap64 (a2 * (rd l0_0 x57_3))]) := ⟨_, rfl⟩
             replace H : (impl_GlueOf.l0 k3 a2 a3 y400 l0_0 (l0_0.length : Int) (wrap64 (x57_3 + 1)) l1_0) = some (r1, r2) := by first | (rw [hy400]; with_reducible exact H) | (have H2_ := (Option.bind_some _ _).symm.trans H; rw [hy400]; with_reducible exact H2_) | (have H2_ := (Option.bind_some _ _).symm.trans H; with_reducible exact H2_) | with_reducible exact H | (rw [hy400]; exact H) | exact H
             have Ny400 := Aside0.mk hy400
             clear hy400
             have H' := Aside0.mk H
             clear H
             have p399 : 0 ≤ (x57_3 : Int) := of_decide_eq_true (by first | (with_reducible assumption) | assumption)
             have q399 : x57_3 < (l0_0.length : Int) := of_decide_eq_true (by first | (with_reducible assumption) | assumption)
             obtain ⟨ad399, e399, hx399_0⟩ := Kd.at_int HR0_0.out x57_3 p399 q399
             cases e399
             replace hx399_0 := (HB.out.cell (World.block_lt_of_cell? w _ hx399_0)).trans hx399_0
             replace p399 := eq_true p399
             replace q399 := eq_true q399
             go_wp2_with (first | ((with_reducible refine gate_builtin (b := .append) (xs := #[.tmp 61, .tmp 65]) rfl ?_); at_builtin; refine Kd.R_append (Kd.int .i64) (w0 := w) w.heap.size rfl (.tmp 61) (.tmp 65) 22 3 (.int .i64 0) 8 rfl Try.underlying22 info3 rfl (by decide) (by omega) u10 x10_3 (wrap64 (a2 * (rd l0_0 x57_3))) [.int .i64 (wrap64 (a2 * (rd l0_0 x57_3)))] (fun _ => True) (fun _ => False) rfl rfl ?aP (fun _ hk => hk.elim) ?aF ?aO ?aB ?aS ?aL ?_; (case aP => exact rfl); (case aB => exact (bl_ HB.out)); (case aF => exact (fun _ _ => trivial)); (case aO => exact (kr_ HO_10.out)); (case aS => exact (below_size (bl_ HB.out))); (case aL => have := LMc65.out; omega); intro v401 w66 ho hb hg hat; rw [← Ny400.out] at ho; have n0_ := Aside0.mk (blk_grown (g := gb386) (o := .cells #[.slice (some ad399) l0_0.length c0_0] 41 (0, 0)) (bk_ BK386.out) hg (Kd.R_ne HO_10.out BK386.out (by decide))); have n1_ := Aside0.mk (blk_grown (g := gb387) (o := .cells #[.slice A1_0 l1_0.length c1_0] 41 (0, 0)) (bk_ BK387.out) hg (Kd.R_ne HO_10.out BK387.out (by decide))); have n2_ := Aside0.mk (blk_grown (g := gb388) (o := .cells #[.slice none 0 0] 41 (0, 0)) (bk_ BK388.out) hg (Kd.R_ne HO_10.out BK388.out (by decide))); have n3_ := Aside0.mk (hb); have n4_ := Aside0.mk (ho); clear BK386; clear BK387; clear BK388; clear HB; clear HO_10; have BK386 := n0_; have BK387 := n1_; have BK388 := n2_; have HB := n3_; have HO402 := n4_; clear n0_ n1_ n2_ n3_ n4_; clear ho hb hg hat))
             go_roundg k3
             case measure => have := HJ4.out; have := HJ45.out; have := HK3.out; omega
             case rel => exact ⟨(y400), (wrap64 (x57_3 + 1)), (by first | rfl | (simp; done) | (simp [*]; done)), H', ⟨by have := HJ4.out; have := HJ45.out; have := HK3.out; omega⟩, ⟨kr_ HO402.out⟩, ⟨bk_ BK386.out⟩, ⟨bk_ BK387.out⟩, ⟨bk_ BK388.out⟩, ⟨bl_ HB.out⟩⟩
            ·rw [if_neg c65] at H
             exact absurd H (by simp)
           ·rw [if_neg c64] at H
            exact absurd H (by simp)
          ·rw [if_neg c63] at H
           exact absurd H (by simp)
         ·rw [if_neg c62] at H
          have c62b0 : decide (x57_3 < (l0_0.length : Int)) = false := decide_eq_false c62
          clear c62
          have H' := Aside0.mk H
          clear H
          have hnb67 := NB387_386.out
          have hnc67 := NB386_387.out
          have hnb68 := NB387_388.out
          have hnc68 := NB388_387.out
          have hcz69_0 : wr.cell? ⟨gb387, 0, none⟩ = some (.slice A1_0 l1_0.length c1_0) := (blk_cell BK387.out 0).trans rfl
          have hfz69_0 := blk_frozen BK387.out 0
          go_wp2
          go_loopg [10, 71] k3 (fun kq v10 v71 w' => ∃ (x10_4 : List Int) (x71_4 : Int), v71 = .int .i64 x71_4 ∧ Aside0 (impl_GlueOf.l1 kq a3 x10_4 l1_0 (l1_0.length : Int) x71_4 = some (r1, r2)) ∧ Aside0 (kq ≤ k3) ∧ Aside0 (Kd.R (Kd.int .i64) 3 w' w.heap.size (fun _ => True) v10 x10_4) ∧ Aside0 (w'.heap[gb386]? = some (.cells #[(.slice A0_0 l0_0.length c0_0)] 41 (0, 0))) ∧ Aside0 (w'.heap[gb387]? = some (.cells #[(.slice A1_0 l1_0.length c1_0)] 41 (0, 0))) ∧ Aside0 (w'.heap[gb388]? = some (.cells #[(.slice none 0 0)] 41 (0, 0))) ∧ Aside0 (Below w.heap.size w w'))
          case atStart => exact ⟨(x10_3), (0), (by first | rfl | (simp; done) | (simp [*]; done)), H', ⟨Nat.le_refl _⟩, ⟨kr_ HO_10.out⟩, ⟨bk_ BK386.out⟩, ⟨bk_ BK387.out⟩, ⟨bk_ BK388.out⟩, ⟨bl_ HB.out⟩⟩
          case round =>
           clear H'
           try clear c1
           try clear c2
           try clear p2
           try clear c3
           try clear p3
           try clear q3
           try clear hx3
           try clear c4
           try clear c5
           try clear c6
           try clear p6
           try clear c7
           try clear c10
           try clear c11
           try clear c12
           try clear c13
           try clear c14
           try clear c19
           try clear c21
           try clear c22
           try clear c26
           try clear c30
           try clear c31
           try clear c35
           try clear c38
           try clear c39
           try clear p39
           try clear q39
           try clear hx39
           try clear c42
           try clear c43
           try clear c44
           try clear c48
           try clear c50
           try clear c53
           try clear c54
           try clear c55
           try clear c56
           try clear c59
           try clear c60
           try clear c62
           try clear c62b0
           try clear c63
           try clear c63b0
           try clear c64
           try clear c64b0
           try clear p64
           try clear c65
           try clear c67
           try clear c68
           try clear hcz15_0
           try clear hcz17_0
           try clear hcz23_0
           try clear hcz25_0
           try clear hcz27_0
           try clear hcz29_0
           try clear hcz32_0
           try clear hcz34_0
           try clear hcz36_0
           try clear hcz40_0
           try clear hcz45_0
           try clear hcz56_0
           try clear hcz61_0
           try clear hcz69_0
           try clear hfz15_0
           try clear hfz17_0
           try clear hfz23_0
           try clear hfz25_0
           try clear hfz27_0
           try clear hfz29_0
           try clear hfz32_0
           try clear hfz34_0
           try clear hfz36_0
           try clear hfz40_0
           try clear hfz45_0
           try clear hfz56_0
           try clear hfz61_0
           try clear hfz69_0
           try clear hx399_0
           try clear p2
           try clear p399
           try clear q399
           obtain ⟨x10_4, x71_4, rfl, HA, HK4, HO_10, BK386, BK387, BK388, HB⟩ := hrel
           cases gk with
           | zero => exact absurd HA.out (by simp [impl_GlueOf.l1])
           | succ k4 =>
            have H := HA.out
            clear HA
            simp only [impl_GlueOf.l1] at H
            by_cases c70 : x71_4 < (l1_0.length : Int)
            ·rw [if_pos c70] at H
             have c70b0 : decide (x71_4 < (l1_0.length : Int)) = true := decide_eq_true c70
             clear c70
             by_cases c71 : 0 ≤ x71_4
             ·rw [if_pos c71] at H
              have c71b0 : decide (0 ≤ x71_4) = true := decide_eq_true c71
              clear c71
              by_cases c72 : x71_4 < (l1_0.length : Int)
              ·rw [if_pos c72] at H
               have c72b0 : decide (x71_4 < (l1_0.length : Int)) = true := decide_eq_true c72
               clear c72
               by_cases c73 : x10_4.length < 17592186044416
               ·rw [if_pos c73] at H
                have LMc73 := Aside0.mk c73
                clear c73
                obtain ⟨y404, hy404⟩ : ∃ y_ : List Int, y_ = (x10_4 ++ [wrap64 (a3 * (rd l1_0 x71_4))]) := ⟨_, rfl⟩
                replace H : (impl_GlueOf.l1 k4 a3 y404 l1_0 (l1_0.length : Int) (wrap64 (x71_4 + 1))) = some (r1, r2) := by first | (rw [hy404]; with_reducible exact H) | (have H2_ := (Option.bind_some _ _).symm.trans H; rw [hy404]; with_reducible exact H2_) | (have H2_ := (Option.bind_some _ _).symm.trans H; with_reducible exact H2_) | with_reducible exact H | (rw [hy404]; exact H) | exact H
                have Ny404 := Aside0.mk hy404
                clear hy404
                have H' := Aside0.mk H
                clear H
                have p403 : 0 ≤ (x71_4 : Int) := of_decide_eq_true (by first | (with_reducible assumption) | assumption)
                have q403 : x71_4 < (l1_0.length : Int) := of_decide_eq_true (by first | (with_reducible assumption) | assumption)
                obtain ⟨ad403, e403, hx403_0⟩ := Kd.at_int HR1_0.out x71_4 p403 q403
                cases e403
                replace hx403_0 := (HB.out.cell (World.block_lt_of_cell? w _ hx403_0)).trans hx403_0
                replace p403 := eq_true p403
                replace q403 := eq_true q403
                go_wp2_with (first | ((with_reducible refine gate_builtin (b := .append) (xs := #[.tmp 75, .tmp 79]) rfl ?_); at_builtin; refine Kd.R_append (Kd.int .i64) (w0 := w) w.heap.size rfl (.tmp 75) (.tmp 79) 22 3 (.int .i64 0) 8 rfl Try.underlying22 info3 rfl (by decide) (by omega) u10 x10_4 (wrap64 (a3 * (rd l1_0 x71_4))) [.int .i64 (wrap64 (a3 * (rd l1_0 x71_4)))] (fun _ => True) (fun _ => False) rfl rfl ?aP (fun _ hk => hk.elim) ?aF ?aO ?aB ?aS ?aL ?_; (case aP => exact rfl); (case aB => exact (bl_ HB.out)); (case aF => exact (fun _ _ => trivial)); (case aO => exact (kr_ HO_10.out)); (case aS => exact (below_size (bl_ HB.out))); (case aL => have := LMc73.out; omega); intro v405 w74 ho hb hg hat; rw [← Ny404.out] at ho; have n0_ := Aside0.mk (blk_grown (g := gb386) (o := .cells #[.slice A0_0 l0_0.length c0_0] 41 (0, 0)) (bk_ BK386.out) hg (Kd.R_ne HO_10.out BK386.out (by decide))); have n1_ := Aside0.mk (blk_grown (g := gb387) (o := .cells #[.slice (some ad403) l1_0.length c1_0] 41 (0, 0)) (bk_ BK387.out) hg (Kd.R_ne HO_10.out BK387.out (by decide))); have n2_ := Aside0.mk (blk_grown (g := gb388) (o := .cells #[.slice none 0 0] 41 (0, 0)) (bk_ BK388.out) hg (Kd.R_ne HO_10.out BK388.out (by decide))); have n3_ := Aside0.mk (hb); have n4_ := Aside0.mk (ho); clear BK386; clear BK387; clear BK388; clear HB; clear HO_10; have BK386 := n0_; have BK387 := n1_; have BK388 := n2_; have HB := n3_; have HO406 := n4_; clear n0_ n1_ n2_ n3_ n4_; clear ho hb hg hat))
                go_roundg k4
                case measure => have := HJ4.out; have := HJ45.out; have := HK3.out; have := HK4.out; omega
                case rel => exact ⟨(y404), (wrap64 (x71_4 + 1)), (by first | rfl | (simp; done) | (simp [*]; done)), H', ⟨by have := HJ4.out; have := HJ45.out; have := HK3.out; have := HK4.out; omega⟩, ⟨kr_ HO406.out⟩, ⟨bk_ BK386.out⟩, ⟨bk_ BK387.out⟩, ⟨bk_ BK388.out⟩, ⟨bl_ HB.out⟩⟩
               ·rw [if_neg c73] at H
                exact absurd H (by simp)
              ·rw [if_neg c72] at H
               exact absurd H (by simp)
             ·rw [if_neg c71] at H
              exact absurd H (by simp)
            ·rw [if_neg c70] at H
             have c70b0 : decide (x71_4 < (l1_0.length : Int)) = false := decide_eq_false c70
             clear c70
             replace H := Option.bind_eq_some_iff.mp H
             obtain ⟨⟨t407, t410⟩, A750, H⟩ := H
             (try dsimp only at H)
             have A75 := Aside0.mk A750
             clear A750
             simp only [Option.some.injEq, Prod.mk.injEq] at H
             obtain ⟨rfl, rfl⟩ := H
             obtain ⟨Ao76, co76, eo76⟩ := Kd.R_slice HO_10.out
             subst eo76
             go_wp2_with (first | ((with_reducible refine gate_callee (f := 108) rfl ?_); refine goesL_ (some 83) rfl rfl Try.func108 (by kernel_rfl) rfl #[.slice Ao76 x10_4.length co76] rfl (by (try simp only [List.map_toArray, List.map_cons, List.map_nil]); first | done | rfl | (simp only [List.length_drop, List.length_take]; rfl)) ?_; (with_reducible refine (impl_FromGens.calls k4 _ _ x10_4 t407 t410 _ ?side1 ?side2 A75.out).mono ?_); (case side1 => repeat (first | exact (Kd.R_reads' HO_10.out).2.2 | (with_reducible refine Kd.C_alloc ?_ _) | (with_reducible refine Kd.C_drewN ?_ _) | (with_reducible refine Kd.C_drew ?_))); (case side2 => exact (Kd.R_reads' HO_10.out).2.1); rintro e w77 ⟨v408, rfl, ho0, hb⟩; refine ⟨_, rfl, ?_⟩; have n0_ := Aside0.mk (Kd.R_elder' (kr_ HO_10.out) (Kd.R_base ho0) hb); have n1_ := Aside0.mk (Kd.R_lower (Kd.R_new' ho0 (Kd.R_lt (kr_ HO_10.out))) (below_size (bl_ HB.out))); have n2_ := Aside0.mk (blk_below (bk_ BK386.out) hb); have n3_ := Aside0.mk (blk_below (bk_ BK387.out) hb); have n4_ := Aside0.mk (blk_below (bk_ BK388.out) hb); have n5_ := Aside0.mk (below_step (bl_ HB.out) hb); clear HO_10; clear BK386; clear BK387; clear BK388; clear HB; have HO_10 := n0_; have HO409 := n1_; have BK386 := n2_; have BK387 := n3_; have BK388 := n4_; have HB := n5_; clear n0_ n1_ n2_ n3_ n4_ n5_; (try clear hb); (try clear hb2); (try clear hk); (try clear hi); (try clear ho0); obtain ⟨Ao78, co78, eo78⟩ := Kd.R_slice HO409.out; subst eo78; have hnb79 := NB388_386.out; have hnc79 := NB386_388.out; have hnb80 := NB388_387.out; have hnc80 := NB387_388.out; have hcz81_0 : w77.cell? ⟨gb388, 0, none⟩ = some (.slice none 0 0) := (blk_cell BK388.out 0).trans rfl; have hfz81_0 := blk_frozen BK388.out 0))
             refine bodyPost_ret (results_ct rfl _ _ gb388 41 #[.slice Ao78 t407.length co78] (0, 0) _ rfl (by (with_reducible repeat (first | refine blk_drewN ?_ _ | refine blk_drew ?_ | refine blk_alloc ?_ _)); refine blk_put (cs := #[.slice none 0 0]) ?_ 0 _ rfl; (with_reducible repeat (first | refine blk_drewN ?_ _ | refine blk_drew ?_ | refine blk_alloc ?_ _)); exact BK388.out) Try.underlying41 rfl (by kernel_rfl)) rfl ?_
             exact ⟨_, by first | rfl | (simp [errW_none, errW_some] <;> rfl) | (simp [*, errW_none, errW_some] <;> rfl), by (with_reducible repeat (first | apply Kd.R_alloc | apply Kd.R_drewN | apply Kd.R_drew)); exact Kd.R_mono (Kd.R_far (p := ⟨gb388, 0, none⟩) (Kd.R_types HO409.out BK388.out (by decide)) (fun _ hk => hk.2) (.slice Ao78 t407.length co78)) (fun _ hk => trivial), bl_ HB.out⟩
end Go.Proofs.Ytbjbolblahlhcaa.PFnExactGlueFrobenius
