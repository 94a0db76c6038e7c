/- A text of the claim for FnExactGlueOf: its part of the chain from the printed contracts and the plain laws to the row. It has no condition of its own. -/
import Derived.Test.YtbjbolblahlhcaaPFnExactGlueOfx0Z
import Derived.Test.YtbjbolblahlhcaaPFnExactGlueOfx1Z
import Derived.Test.YtbjbolblahlhcaaPFnExactGlueOfx9Z
import Derived.Test.YtbjbolblahlhcaaPFnExactGlueOfx15Z
namespace Go.Proofs.Ytbjbolblahlhcaa.PFnExactGlueOf
open Go.RowKit Go.Proofs.YtbjbolblahlhcaaW.PrintWords Go.Proofs.YtbjbolblahlhcaaW.PrintLast Go.Proofs.YtbjbolblahlhcaaW.PrintMore
open Go.Proofs.Ytbjbolblahlhcaa.SortW (t_ f_)
open Go.Proofs.Ytbjbolblahlhcaa.SortW (bk_ kr_ bl_)
attribute [local go_sem] max2_int min2_int max_two min_two max_three min_three max_four min_four
set_option linter.unusedVariables false
set_option linter.unusedSimpArgs false
def laws_FnExactGlueOf.f (k : Nat) (l0_0 : List Int) (l1_0 : List Int) (a2 : Int) (a3 : Int) : Option (Bool) := (laws_szSemigroup.f l0_0 1048576).bind fun t387 => (if t387 < 0 then (some true) else ((laws_szSemigroup.f l1_0 t387).bind fun t388 => (if t388 < 0 then (some true) else ((laws_toSemigroup.f k l0_0).bind fun t389 => ((laws_toSemigroup.f k l1_0).bind fun t392 => ((spec_GlueOf.f k t389 t392 a2 a3).bind fun bt395 => ((laws_toSemigroup.f k l0_0).bind fun t400 => ((laws_toSemigroup.f k l1_0).bind fun t404 => ((impl_GlueOf.f k t400 t404 a2 a3).bind fun bt408 => ((laws_eqSemigroup.f k bt408.1 bt395.1).bind fun t413 => (if t413 = true then (if (bt408.2 != bt395.2) = true then (none) else ((laws_toSemigroup.f k l0_0).bind fun t414 => ((laws_eqSemigroup.f k t400 t414).bind fun t417 => (if t417 = true then ((laws_toSemigroup.f k l1_0).bind fun t418 => ((laws_eqSemigroup.f k t404 t418).bind fun t421 => (if t421 = true then ((laws_markSemigroup.f k t400 1).bind fun bt422 => ((laws_markSemigroup.f k t404 bt422.1).bind fun bt424 => (if bt424.1 < 0 then (none) else ((laws_eqSemigroup.f k bt408.1 bt395.1).bind fun t426 => (if t426 = true then ((laws_markSemigroup.f k bt408.1 1).bind fun bt427 => ((laws_heldSemigroup.f k bt427.2 1).bind fun t429 => (if t429 < 0 then (none) else (if t429 = bt427.1 then ((laws_toSemigroup.f k l0_0).bind fun t430 => ((laws_toSemigroup.f k l1_0).bind fun t433 => ((impl_GlueOf.f k t430 t433 a2 a3).bind fun bt436 => ((laws_eqSemigroup.f k bt436.1 bt395.1).bind fun t441 => (if t441 = true then (if (bt436.2 != bt395.2) = true then (none) else ((laws_heldSemigroup.f k bt427.2 1).bind fun t442 => (if t442 < 0 then (none) else (if t442 = bt427.1 then (some true) else (none))))) else (none)))))) else (none))))) else (none)))))) else (none)))) else (none))))) else (none))))))))))))
def laws_FnExactGlueOf.T8 : Bool × List (List Nat × List Nat) := (true, [([], []), ([0], [0]), ([], []), ([2, 1], [2]), ([], []), ([], []), ([1, 3, 4, 5, 3], [1, 3, 4, 5]), ([6], [6]), ([7], [7]), ([7], [7]), ([], []), ([10, 8, 6, 0, 1, 2, 3, 4, 5, 6, 7, 8, 10], [8, 10]), ([9, 11, 0, 1, 2, 3, 4, 5, 6, 7, 8, 9, 10, 11], [9])])
def laws_FnExactGlueOf.B8 : List Nat := [0, 1, 0, 7, 0, 0, 63, 127, 255, 255, 0, 1535, 4095]
theorem laws_FnExactGlueOf.tab8 : rtab .any (opsOf Try.f8 8) = laws_FnExactGlueOf.T8 := by kernel_rfl
theorem laws_FnExactGlueOf.bits8 : waitsOk laws_FnExactGlueOf.T8.2 laws_FnExactGlueOf.B8 = true := by kernel_rfl
def laws_FnExactGlueOf.T31 : Bool × List (List Nat × List Nat) := (true, [([], []), ([0], [0]), ([], []), ([2, 1], [2]), ([], []), ([], []), ([1, 3, 4, 5, 3], [1, 3, 4, 5]), ([6], [6]), ([7], [7]), ([7], [7]), ([], []), ([10, 8, 6, 0, 1, 2, 3, 4, 5, 6, 7, 8, 10], [8, 10]), ([9, 11, 0, 1, 2, 3, 4, 5, 6, 7, 8, 9, 10, 11], [9])])
def laws_FnExactGlueOf.B31 : List Nat := [0, 1, 0, 7, 0, 0, 63, 127, 255, 255, 0, 1535, 4095]
theorem laws_FnExactGlueOf.tab31 : rtab .any (opsOf Try.f8 31) = laws_FnExactGlueOf.T31 := by kernel_rfl
theorem laws_FnExactGlueOf.bits31 : waitsOk laws_FnExactGlueOf.T31.2 laws_FnExactGlueOf.B31 = true := by kernel_rfl
set_option maxHeartbeats 8000000 in
set_option maxRecDepth 100000 in
theorem laws_FnExactGlueOf.calls (k : Nat) (A0_0 : Option Addr) (c0_0 : Nat) (l0_0 : List Int) (A1_0 : Option Addr) (c1_0 : Nat) (l1_0 : List Int) (a2 : Int) (a3 : Int) (r : Bool) (w : World) (hr0_0 : Kd.C (Kd.int .i64) w A0_0 l0_0.length l0_0) (hc0_0 : l0_0.length ≤ c0_0) (hr1_0 : Kd.C (Kd.int .i64) w A1_0 l1_0.length l1_0) (hc1_0 : l1_0.length ≤ c1_0) (h : laws_FnExactGlueOf.f k l0_0 l1_0 a2 a3 = some r) :
 Calls Try.prog 8 #[.agg #[.slice A0_0 l0_0.length c0_0], .agg #[.slice A1_0 l1_0.length c1_0], .int .i64 a2, .int .i64 a3] w fun e w' => e = .returned (.bool r) ∧ Below w.heap.size w w' := by
 have hu46 := Try.underlying46
 have hu41 := Try.underlying41
 have HR0_0 := Aside0.mk hr0_0
 have HC0_0 := Aside0.mk hc0_0
 clear hr0_0 hc0_0
 have HR1_0 := Aside0.mk hr1_0
 have HC1_0 := Aside0.mk hc1_0
 clear hr1_0 hc1_0
 have HB := Aside0.mk (Below.refl w.heap.size w)
 have H : ((laws_szSemigroup.f l0_0 1048576).bind fun t387 => (if t387 < 0 then (some true) else ((laws_szSemigroup.f l1_0 t387).bind fun t388 => (if t388 < 0 then (some true) else ((laws_toSemigroup.f k l0_0).bind fun t389 => ((laws_toSemigroup.f k l1_0).bind fun t392 => ((spec_GlueOf.f k t389 t392 a2 a3).bind fun bt395 => ((laws_toSemigroup.f k l0_0).bind fun t400 => ((laws_toSemigroup.f k l1_0).bind fun t404 => ((impl_GlueOf.f k t400 t404 a2 a3).bind fun bt408 => ((laws_eqSemigroup.f k bt408.1 bt395.1).bind fun t413 => (if t413 = true then (if (bt408.2 != bt395.2) = true then (none) else ((laws_toSemigroup.f k l0_0).bind fun t414 => ((laws_eqSemigroup.f k t400 t414).bind fun t417 => (if t417 = true then ((laws_toSemigroup.f k l1_0).bind fun t418 => ((laws_eqSemigroup.f k t404 t418).bind fun t421 => (if t421 = true then ((laws_markSemigroup.f k t400 1).bind fun bt422 => ((laws_markSemigroup.f k t404 bt422.1).bind fun bt424 => (if bt424.1 < 0 then (none) else ((laws_eqSemigroup.f k bt408.1 bt395.1).bind fun t426 => (if t426 = true then ((laws_markSemigroup.f k bt408.1 1).bind fun bt427 => ((laws_heldSemigroup.f k bt427.2 1).bind fun t429 => (if t429 < 0 then (none) else (if t429 = bt427.1 then ((laws_toSemigroup.f k l0_0).bind fun t430 => ((laws_toSemigroup.f k l1_0).bind fun t433 => ((impl_GlueOf.f k t430 t433 a2 a3).bind fun bt436 => ((laws_eqSemigroup.f k bt436.1 bt395.1).bind fun t441 => (if t441 = true then (if (bt436.2 != bt395.2) = true then (none) else ((laws_heldSemigroup.f k bt427.2 1).bind fun t442 => (if t442 < 0 then (none) else (if t442 = bt427.1 then (some true) else (none))))) else (none)))))) else (none))))) else (none)))))) else (none)))) else (none))))) else (none))))))))))))) = some r := h
 clear h
 replace H := Option.bind_eq_some_iff.mp H
 obtain ⟨t387, A50, H⟩ := H
 (try dsimp only at H)
 have A5 := Aside0.mk A50
 clear A50
 by_cases c6 : t387 < 0
 ·rw [if_pos c6] at H
  have c6b0 : decide (t387 < 0) = true := decide_eq_true c6
  clear c6
  obtain rfl := Option.some.inj H
  go_enter Try.func8, Try.ntmps8
  go_wp2_with (first | ((with_reducible refine gate_dst (N := 4) rfl ?_); refine box_event ?hg (N := 4) ?hd (cs := #[.slice A0_0 l0_0.length c0_0]) (t := 46) ?hr ?_; (case hd => rfl); (case hg => rfl); (case hr => first | (go_simp; done) | (go_simp; rfl)); intro gb385 hg w7 hbox hb; have n0_ := Aside0.mk (below_step (bl_ HB.out) hb); have n1_ := Aside0.mk (hbox); have n2_ := Aside0.mk ((by rw [hg]; exact (below_size (bl_ HB.out)) : w.heap.size ≤ gb385)); have n3_ := Aside0.mk ((by rw [hg]; exact (below_size (bl_ HB.out)) : w.heap.size ≤ gb385)); clear HB; have HB := n0_; have BK385 := n1_; have GW385 := n2_; have GE385 := n3_; clear n0_ n1_ n2_ n3_; clear hb hbox hg) | ((with_reducible refine gate_dst (N := 5) rfl ?_); refine box_event ?hg (N := 5) ?hd (cs := #[.slice A1_0 l1_0.length c1_0]) (t := 46) ?hr ?_; (case hd => rfl); (case hg => rfl); (case hr => first | (go_simp; done) | (go_simp; rfl)); intro gb386 hg w8 hbox hb; have n0_ := Aside0.mk (blk_below (bk_ BK385.out) hb); have n1_ := Aside0.mk (below_step (bl_ HB.out) hb); have n2_ := Aside0.mk (hbox); have n3_ := Aside0.mk ((by rw [hg]; exact (below_size (bl_ HB.out)) : w.heap.size ≤ gb386)); have n4_ := Aside0.mk ((by rw [hg]; exact (below_size (bl_ HB.out)) : w.heap.size ≤ gb386)); have n5_ := Aside0.mk ((by rw [hg]; exact Nat.ne_of_lt (blk_lt (bk_ BK385.out)) : gb385 ≠ gb386)); have n6_ := Aside0.mk ((by rw [hg]; exact Nat.ne_of_gt (blk_lt (bk_ BK385.out)) : gb386 ≠ gb385)); clear BK385; clear HB; have BK385 := n0_; have HB := n1_; have BK386 := n2_; have GW386 := n3_; have GE386 := n4_; have NB385_386 := n5_; have NB386_385 := n6_; clear n0_ n1_ n2_ n3_ n4_ n5_ n6_; clear hb hbox hg; have hnb9 := NB385_386.out; have hnc9 := NB386_385.out; have hcz10_0 : w8.cell? ⟨gb385, 0, none⟩ = some (.slice A0_0 l0_0.length c0_0) := (blk_cell BK385.out 0).trans rfl; have hfz10_0 := blk_frozen BK385.out 0) | ((with_reducible refine gate_callee (f := 46) rfl ?_); refine goesL_ (some 23) rfl rfl Try.func46 (by kernel_rfl) rfl #[.agg #[.slice A0_0 l0_0.length c0_0], .int .i64 1048576] rfl (by (try simp only [List.map_toArray, List.map_cons, List.map_nil]); first | done | rfl | (simp only [List.length_drop, List.length_take]; rfl)) ?_; (with_reducible refine (laws_szSemigroup.calls _ _ l0_0 1048576 t387 _ ?side1 ?side2 A5.out).mono ?_); (case side1 => repeat (first | exact (Kd.C_below HR0_0.out HB.out) | exact HR0_0.out | (with_reducible refine Kd.C_alloc ?_ _) | (with_reducible refine Kd.C_drewN ?_ _) | (with_reducible refine Kd.C_drew ?_))); (case side2 => exact HC0_0.out); rintro e w11 ⟨rfl, hb⟩; refine ⟨_, rfl, ?_⟩; have n0_ := Aside0.mk (blk_below (bk_ BK385.out) hb); have n1_ := Aside0.mk (blk_below (bk_ BK386.out) hb); have n2_ := Aside0.mk (below_step (bl_ HB.out) hb); clear BK385; clear BK386; clear HB; have BK385 := n0_; have BK386 := n1_; have HB := n2_; clear n0_ n1_ n2_; (try clear hb); (try clear hb2); (try clear hk); (try clear hi)))
  go_ret
  exact ⟨by first | rfl | (simp [errW_none, errW_some] <;> rfl) | (simp [*, errW_none, errW_some] <;> rfl), bl_ HB.out⟩
 ·rw [if_neg c6] at H
  have c6b0 : decide (t387 < 0) = false := decide_eq_false c6
  clear c6
  replace H := Option.bind_eq_some_iff.mp H
  obtain ⟨t388, A120, H⟩ := H
  (try dsimp only at H)
  have A12 := Aside0.mk A120
  clear A120
  by_cases c13 : t388 < 0
  ·rw [if_pos c13] at H
   have c13b0 : decide (t388 < 0) = true := decide_eq_true c13
   clear c13
   obtain rfl := Option.some.inj H
   go_enter Try.func8, Try.ntmps8
   go_wp2_with (first | ((with_reducible refine gate_dst (N := 4) rfl ?_); refine box_event ?hg (N := 4) ?hd (cs := #[.slice A0_0 l0_0.length c0_0]) (t := 46) ?hr ?_; (case hd => rfl); (case hg => rfl); (case hr => first | (go_simp; done) | (go_simp; rfl)); intro gb385 hg w14 hbox hb; have n0_ := Aside0.mk (below_step (bl_ HB.out) hb); have n1_ := Aside0.mk (hbox); have n2_ := Aside0.mk ((by rw [hg]; exact (below_size (bl_ HB.out)) : w.heap.size ≤ gb385)); have n3_ := Aside0.mk ((by rw [hg]; exact (below_size (bl_ HB.out)) : w.heap.size ≤ gb385)); clear HB; have HB := n0_; have BK385 := n1_; have GW385 := n2_; have GE385 := n3_; clear n0_ n1_ n2_ n3_; clear hb hbox hg) | ((with_reducible refine gate_dst (N := 5) rfl ?_); refine box_event ?hg (N := 5) ?hd (cs := #[.slice A1_0 l1_0.length c1_0]) (t := 46) ?hr ?_; (case hd => rfl); (case hg => rfl); (case hr => first | (go_simp; done) | (go_simp; rfl)); intro gb386 hg w15 hbox hb; have n0_ := Aside0.mk (blk_below (bk_ BK385.out) hb); have n1_ := Aside0.mk (below_step (bl_ HB.out) hb); have n2_ := Aside0.mk (hbox); have n3_ := Aside0.mk ((by rw [hg]; exact (below_size (bl_ HB.out)) : w.heap.size ≤ gb386)); have n4_ := Aside0.mk ((by rw [hg]; exact (below_size (bl_ HB.out)) : w.heap.size ≤ gb386)); have n5_ := Aside0.mk ((by rw [hg]; exact Nat.ne_of_lt (blk_lt (bk_ BK385.out)) : gb385 ≠ gb386)); have n6_ := Aside0.mk ((by rw [hg]; exact Nat.ne_of_gt (blk_lt (bk_ BK385.out)) : gb386 ≠ gb385)); clear BK385; clear HB; have BK385 := n0_; have HB := n1_; have BK386 := n2_; have GW386 := n3_; have GE386 := n4_; have NB385_386 := n5_; have NB386_385 := n6_; clear n0_ n1_ n2_ n3_ n4_ n5_ n6_; clear hb hbox hg; have hnb16 := NB385_386.out; have hnc16 := NB386_385.out; have hcz17_0 : w15.cell? ⟨gb385, 0, none⟩ = some (.slice A0_0 l0_0.length c0_0) := (blk_cell BK385.out 0).trans rfl; have hfz17_0 := blk_frozen BK385.out 0) | ((with_reducible refine gate_callee (f := 46) rfl ?_); refine goesL_ (some 23) rfl rfl Try.func46 (by kernel_rfl) rfl #[.agg #[.slice A0_0 l0_0.length c0_0], .int .i64 1048576] rfl (by (try simp only [List.map_toArray, List.map_cons, List.map_nil]); first | done | rfl | (simp only [List.length_drop, List.length_take]; rfl)) ?_; (with_reducible refine (laws_szSemigroup.calls _ _ l0_0 1048576 t387 _ ?side1 ?side2 A5.out).mono ?_); (case side1 => repeat (first | exact (Kd.C_below HR0_0.out HB.out) | exact HR0_0.out | (with_reducible refine Kd.C_alloc ?_ _) | (with_reducible refine Kd.C_drewN ?_ _) | (with_reducible refine Kd.C_drew ?_))); (case side2 => exact HC0_0.out); rintro e w18 ⟨rfl, hb⟩; refine ⟨_, rfl, ?_⟩; have n0_ := Aside0.mk (blk_below (bk_ BK385.out) hb); have n1_ := Aside0.mk (blk_below (bk_ BK386.out) hb); have n2_ := Aside0.mk (below_step (bl_ HB.out) hb); clear BK385; clear BK386; clear HB; have BK385 := n0_; have BK386 := n1_; have HB := n2_; clear n0_ n1_ n2_; (try clear hb); (try clear hb2); (try clear hk); (try clear hi); have hcz19_0 : w18.cell? ⟨gb386, 0, none⟩ = some (.slice A1_0 l1_0.length c1_0) := (blk_cell BK386.out 0).trans rfl; have hfz19_0 := blk_frozen BK386.out 0) | ((with_reducible refine gate_callee (f := 46) rfl ?_); refine goesL_ (some 28) rfl rfl Try.func46 (by kernel_rfl) rfl #[.agg #[.slice A1_0 l1_0.length c1_0], .int .i64 t387] rfl (by (try simp only [List.map_toArray, List.map_cons, List.map_nil]); first | done | rfl | (simp only [List.length_drop, List.length_take]; rfl)) ?_; (with_reducible refine (laws_szSemigroup.calls _ _ l1_0 t387 t388 _ ?side1 ?side2 A12.out).mono ?_); (case side1 => repeat (first | exact (Kd.C_below HR1_0.out HB.out) | (with_reducible refine Kd.C_alloc ?_ _) | (with_reducible refine Kd.C_drewN ?_ _) | (with_reducible refine Kd.C_drew ?_))); (case side2 => exact HC1_0.out); rintro e w20 ⟨rfl, hb⟩; refine ⟨_, rfl, ?_⟩; have n0_ := Aside0.mk (blk_below (bk_ BK385.out) hb); have n1_ := Aside0.mk (blk_below (bk_ BK386.out) hb); have n2_ := Aside0.mk (below_step (bl_ HB.out) hb); clear BK385; clear BK386; clear HB; have BK385 := n0_; have BK386 := n1_; have HB := n2_; clear n0_ n1_ n2_; (try clear hb); (try clear hb2); (try clear hk); (try clear hi)))
   go_ret
   exact ⟨by first | rfl | (simp [errW_none, errW_some] <;> rfl) | (simp [*, errW_none, errW_some] <;> rfl), bl_ HB.out⟩
  ·rw [if_neg c13] at H
   have c13b0 : decide (t388 < 0) = false := decide_eq_false c13
   clear c13
   replace H := Option.bind_eq_some_iff.mp H
   obtain ⟨t389, A210, H⟩ := H
   (try dsimp only at H)
   have A21 := Aside0.mk A210
   clear A210
   replace H := Option.bind_eq_some_iff.mp H
   obtain ⟨t392, A220, H⟩ := H
   (try dsimp only at H)
   have A22 := Aside0.mk A220
   clear A220
   replace H := Option.bind_eq_some_iff.mp H
   obtain ⟨⟨t395, t398⟩, A230, H⟩ := H
   (try dsimp only at H)
   have A23 := Aside0.mk A230
   clear A230
   replace H := Option.bind_eq_some_iff.mp H
   obtain ⟨t400, A240, H⟩ := H
   (try dsimp only at H)
   have A24 := Aside0.mk A240
   clear A240
   replace H := Option.bind_eq_some_iff.mp H
   obtain ⟨t404, A250, H⟩ := H
   (try dsimp only at H)
   have A25 := Aside0.mk A250
   clear A250
   replace H := Option.bind_eq_some_iff.mp H
   obtain ⟨⟨t408, t411⟩, A260, H⟩ := H
   (try dsimp only at H)
   have A26 := Aside0.mk A260
   clear A260
   replace H := Option.bind_eq_some_iff.mp H
   obtain ⟨t413, A270, H⟩ := H
   (try dsimp only at H)
   have A27 := Aside0.mk A270
   clear A270
   by_cases c28 : t413 = true
   ·subst c28
    rw [if_pos rfl] at H
    by_cases c29 : (t411 != t398) = true
    ·rw [if_pos c29] at H
     exact absurd H (by simp)
    ·rw [if_neg c29] at H
     have c29b0 : (t411 != t398) = false := by simpa using c29
     (try (have c29b1 : decide (t411 = t398) = true := by simpa using c29))
     (try (have c29b2 : (t411 == t398) = true := by simpa using c29))
     clear c29
     replace H := Option.bind_eq_some_iff.mp H
     obtain ⟨t414, A300, H⟩ := H
     (try dsimp only at H)
     have A30 := Aside0.mk A300
     clear A300
     replace H := Option.bind_eq_some_iff.mp H
     obtain ⟨t417, A310, H⟩ := H
     (try dsimp only at H)
     have A31 := Aside0.mk A310
     clear A310
     by_cases c32 : t417 = true
     ·subst c32
      rw [if_pos rfl] at H
      replace H := Option.bind_eq_some_iff.mp H
      obtain ⟨t418, A330, H⟩ := H
      (try dsimp only at H)
      have A33 := Aside0.mk A330
      clear A330
      replace H := Option.bind_eq_some_iff.mp H
      obtain ⟨t421, A340, H⟩ := H
      (try dsimp only at H)
      have A34 := Aside0.mk A340
      clear A340
      by_cases c35 : t421 = true
      ·subst c35
       rw [if_pos rfl] at H
       replace H := Option.bind_eq_some_iff.mp H
       obtain ⟨⟨t422, t423⟩, A360, H⟩ := H
       (try dsimp only at H)
       have A36 := Aside0.mk A360
       clear A360
       replace H := Option.bind_eq_some_iff.mp H
       obtain ⟨⟨t424, t425⟩, A370, H⟩ := H
       (try dsimp only at H)
       have A37 := Aside0.mk A370
       clear A370
       by_cases c38 : t424 < 0
       ·rw [if_pos c38] at H
        exact absurd H (by simp)
       ·rw [if_neg c38] at H
        have c38b0 : decide (t424 < 0) = false := decide_eq_false c38
        clear c38
        replace H := Option.bind_eq_some_iff.mp H
        obtain ⟨t426, A390, H⟩ := H
        (try dsimp only at H)
        have A39 := Aside0.mk A390
        clear A390
        by_cases c40 : t426 = true
        ·subst c40
         rw [if_pos rfl] at H
         replace H := Option.bind_eq_some_iff.mp H
         obtain ⟨⟨t427, t428⟩, A410, H⟩ := H
         (try dsimp only at H)
         have A41 := Aside0.mk A410
         clear A410
         replace H := Option.bind_eq_some_iff.mp H
         obtain ⟨t429, A420, H⟩ := H
         (try dsimp only at H)
         have A42 := Aside0.mk A420
         clear A420
         by_cases c43 : t429 < 0
         ·rw [if_pos c43] at H
          exact absurd H (by simp)
         ·rw [if_neg c43] at H
          have c43b0 : decide (t429 < 0) = false := decide_eq_false c43
          clear c43
          by_cases c44 : t429 = t427
          ·rw [if_pos c44] at H
           have c44b0 : (t429 == t427) = true := beq_iff_eq.mpr c44
           have c44b1 : (t429 != t427) = false := bne_eq_false_iff_eq.mpr c44
           clear c44
           replace H := Option.bind_eq_some_iff.mp H
           obtain ⟨t430, A450, H⟩ := H
           (try dsimp only at H)
           have A45 := Aside0.mk A450
           clear A450
           replace H := Option.bind_eq_some_iff.mp H
           obtain ⟨t433, A460, H⟩ := H
           (try dsimp only at H)
           have A46 := Aside0.mk A460
           clear A460
           replace H := Option.bind_eq_some_iff.mp H
           obtain ⟨⟨t436, t439⟩, A470, H⟩ := H
           (try dsimp only at H)
           have A47 := Aside0.mk A470
           clear A470
           replace H := Option.bind_eq_some_iff.mp H
           obtain ⟨t441, A480, H⟩ := H
           (try dsimp only at H)
           have A48 := Aside0.mk A480
           clear A480
           by_cases c49 : t441 = true
           ·subst c49
            rw [if_pos rfl] at H
            by_cases c50 : (t439 != t398) = true
            ·rw [if_pos c50] at H
             exact absurd H (by simp)
            ·rw [if_neg c50] at H
             have c50b0 : (t439 != t398) = false := by simpa using c50
             (try (have c50b1 : decide (t439 = t398) = true := by simpa using c50))
             (try (have c50b2 : (t439 == t398) = true := by simpa using c50))
             clear c50
             replace H := Option.bind_eq_some_iff.mp H
             obtain ⟨t442, A510, H⟩ := H
             (try dsimp only at H)
             have A51 := Aside0.mk A510
             clear A510
             by_cases c52 : t442 < 0
             ·rw [if_pos c52] at H
              exact absurd H (by simp)
             ·rw [if_neg c52] at H
              have c52b0 : decide (t442 < 0) = false := decide_eq_false c52
              clear c52
              by_cases c53 : t442 = t427
              ·rw [if_pos c53] at H
               have c53b0 : (t442 == t427) = true := beq_iff_eq.mpr c53
               have c53b1 : (t442 != t427) = false := bne_eq_false_iff_eq.mpr c53
               clear c53
               obtain rfl := Option.some.inj H
               go_enter Try.func8, Try.ntmps8
               try go_wp2_with (first | ((with_reducible refine gate_dst (N := 4) rfl ?_); refine box_event ?hg (N := 4) ?hd (cs := #[.slice A0_0 l0_0.length c0_0]) (t := 46) ?hr ?_; (case hd => rfl); (case hg => rfl); (case hr => first | (go_simp; done) | (go_simp; rfl)); intro gb385 hg w54 hbox hb; have n0_ := Aside0.mk (below_step (bl_ HB.out) hb); have n1_ := Aside0.mk (hbox); have n2_ := Aside0.mk ((by rw [hg]; exact (below_size (bl_ HB.out)) : w.heap.size ≤ gb385)); have n3_ := Aside0.mk ((by rw [hg]; exact (below_size (bl_ HB.out)) : w.heap.size ≤ gb385)); clear HB; have HB := n0_; have BK385 := n1_; have GW385 := n2_; have GE385 := n3_; clear n0_ n1_ n2_ n3_; clear hb hbox hg) | ((with_reducible refine gate_dst (N := 5) rfl ?_); refine box_event ?hg (N := 5) ?hd (cs := #[.slice A1_0 l1_0.length c1_0]) (t := 46) ?hr ?_; (case hd => rfl); (case hg => rfl); (case hr => first | (go_simp; done) | (go_simp; rfl)); intro gb386 hg w55 hbox hb; have n0_ := Aside0.mk (blk_below (bk_ BK385.out) hb); have n1_ := Aside0.mk (below_step (bl_ HB.out) hb); have n2_ := Aside0.mk (hbox); have n3_ := Aside0.mk ((by rw [hg]; exact (below_size (bl_ HB.out)) : w.heap.size ≤ gb386)); have n4_ := Aside0.mk ((by rw [hg]; exact (below_size (bl_ HB.out)) : w.heap.size ≤ gb386)); have n5_ := Aside0.mk ((by rw [hg]; exact Nat.ne_of_lt (blk_lt (bk_ BK385.out)) : gb385 ≠ gb386)); have n6_ := Aside0.mk ((by rw [hg]; exact Nat.ne_of_gt (blk_lt (bk_ BK385.out)) : gb386 ≠ gb385)); clear BK385; clear HB; have BK385 := n0_; have HB := n1_; have BK386 := n2_; have GW386 := n3_; have GE386 := n4_; have NB385_386 := n5_; have NB386_385 := n6_; clear n0_ n1_ n2_ n3_ n4_ n5_ n6_; clear hb hbox hg; have hnb56 := NB385_386.out; have hnc56 := NB386_385.out; have hcz57_0 : w55.cell? ⟨gb385, 0, none⟩ = some (.slice A0_0 l0_0.length c0_0) := (blk_cell BK385.out 0).trans rfl; have hfz57_0 := blk_frozen BK385.out 0) | ((with_reducible refine gate_callee (f := 46) rfl ?_); refine goesL_ (some 23) rfl rfl Try.func46 (by kernel_rfl) rfl #[.agg #[.slice A0_0 l0_0.length c0_0], .int .i64 1048576] rfl (by (try simp only [List.map_toArray, List.map_cons, List.map_nil]); first | done | rfl | (simp only [List.length_drop, List.length_take]; rfl)) ?_; (with_reducible refine (laws_szSemigroup.calls _ _ l0_0 1048576 t387 _ ?side1 ?side2 A5.out).mono ?_); (case side1 => repeat (first | exact (Kd.C_below HR0_0.out HB.out) | exact HR0_0.out | (with_reducible refine Kd.C_alloc ?_ _) | (with_reducible refine Kd.C_drewN ?_ _) | (with_reducible refine Kd.C_drew ?_))); (case side2 => exact HC0_0.out); rintro e w58 ⟨rfl, hb⟩; refine ⟨_, rfl, ?_⟩; have n0_ := Aside0.mk (blk_below (bk_ BK385.out) hb); have n1_ := Aside0.mk (blk_below (bk_ BK386.out) hb); have n2_ := Aside0.mk (below_step (bl_ HB.out) hb); clear BK385; clear BK386; clear HB; have BK385 := n0_; have BK386 := n1_; have HB := n2_; clear n0_ n1_ n2_; (try clear hb); (try clear hb2); (try clear hk); (try clear hi); have hcz59_0 : w58.cell? ⟨gb386, 0, none⟩ = some (.slice A1_0 l1_0.length c1_0) := (blk_cell BK386.out 0).trans rfl; have hfz59_0 := blk_frozen BK386.out 0) | ((with_reducible refine gate_callee (f := 46) rfl ?_); refine goesL_ (some 28) rfl rfl Try.func46 (by kernel_rfl) rfl #[.agg #[.slice A1_0 l1_0.length c1_0], .int .i64 t387] rfl (by (try simp only [List.map_toArray, List.map_cons, List.map_nil]); first | done | rfl | (simp only [List.length_drop, List.length_take]; rfl)) ?_; (with_reducible refine (laws_szSemigroup.calls _ _ l1_0 t387 t388 _ ?side1 ?side2 A12.out).mono ?_); (case side1 => repeat (first | exact (Kd.C_below HR1_0.out HB.out) | (with_reducible refine Kd.C_alloc ?_ _) | (with_reducible refine Kd.C_drewN ?_ _) | (with_reducible refine Kd.C_drew ?_))); (case side2 => exact HC1_0.out); rintro e w60 ⟨rfl, hb⟩; refine ⟨_, rfl, ?_⟩; have n0_ := Aside0.mk (blk_below (bk_ BK385.out) hb); have n1_ := Aside0.mk (blk_below (bk_ BK386.out) hb); have n2_ := Aside0.mk (below_step (bl_ HB.out) hb); clear BK385; clear BK386; clear HB; have BK385 := n0_; have BK386 := n1_; have HB := n2_; clear n0_ n1_ n2_; (try clear hb); (try clear hb2); (try clear hk); (try clear hi)))
               have n0_ := Aside0.mk (blk_drew BK385.out)
               have n1_ := Aside0.mk (blk_drew BK386.out)
               have n2_ := Aside0.mk (below_drew1 HB.out)
               clear BK385
               clear BK386
               clear HB
               have BK385 := n0_
               have BK386 := n1_
               have HB := n2_
               clear n0_ n1_ n2_
               refine start_ (n := 13) (S := fun w' => w'.cell? ⟨gb385, 0, none⟩ = some (.slice A0_0 l0_0.length c0_0) ∧ w'.cell? ⟨gb386, 0, none⟩ = some (.slice A1_0 l1_0.length c1_0)) (ds := []) #[f_,f_,f_,f_,f_,f_,f_,f_,f_,f_,f_,f_,f_] (by kernel_rfl) rfl rfl ⟨(blk_cell BK385.out 0).trans rfl, (blk_cell BK386.out 0).trans rfl⟩ (fun hHeld => ?_); refine with_tabW laws_FnExactGlueOf.tab8 laws_FnExactGlueOf.bits8 (fun HT_ HW_ => ?_)
               generalize w60.drew = w61 at BK385 BK386 HB hHeld ⊢
               refine pure_ (i := 4) (N := some 36) (v := ?_) (a' := ?_) #[f_,f_,f_,f_,t_,f_,f_,f_,f_,f_,f_,f_,f_] rfl rfl (any_of HT_.out (by kernel_rfl)) (fun _ _ _ h => h) (Or.inl ⟨by rfl, ?_⟩) ?_ ?_
               rotate_left
               ·intro w'
                go_simp
                with_reducible rfl
               rotate_left
               ·simp only [Act.put, List.setIfInBounds_toArray, List.set_cons_zero, List.set_cons_succ, i64_w, i32_w]
                rfl
               refine pure_ (i := 5) (N := some 37) (v := ?_) (a' := ?_) #[f_,f_,f_,f_,t_,t_,f_,f_,f_,f_,f_,f_,f_] rfl rfl (any_of HT_.out (by kernel_rfl)) (fun _ _ _ h => h) (Or.inl ⟨by rfl, ?_⟩) ?_ ?_
               rotate_left
               ·intro w'
                go_simp
                with_reducible rfl
               rotate_left
               ·simp only [Act.put, List.setIfInBounds_toArray, List.set_cons_zero, List.set_cons_succ, i64_w, i32_w]
                rfl
               refine take_ (i := 0) (N := some 32) (v := ?_) (a' := ?_) #[t_,f_,f_,f_,t_,t_,f_,f_,f_,f_,f_,f_,f_] rfl rfl (take_ofW HT_.out HW_.out (by kernel_rfl)) (fun _ _ _ h => h) (Or.inl ⟨by rfl, ?_⟩) hHeld ?_ ?_
               rotate_left
               ·rintro w' ⟨s0, s1⟩
                go_simp
                with_reducible rfl
               rotate_left
               ·simp only [Act.put, List.setIfInBounds_toArray, List.set_cons_zero, List.set_cons_succ, i64_w, i32_w]
                rfl
               refine take_ (i := 2) (N := some 34) (v := ?_) (a' := ?_) #[t_,f_,t_,f_,t_,t_,f_,f_,f_,f_,f_,f_,f_] rfl rfl (take_ofW HT_.out HW_.out (by kernel_rfl)) (fun _ _ _ h => h) (Or.inl ⟨by rfl, ?_⟩) hHeld ?_ ?_
               rotate_left
               ·rintro w' ⟨s0, s1⟩
                go_simp
                with_reducible rfl
               rotate_left
               ·simp only [Act.put, List.setIfInBounds_toArray, List.set_cons_zero, List.set_cons_succ, i64_w, i32_w]
                rfl
               refine join_ (σ := Value × Value × Value × Nat) 2 #[t_,t_,t_,t_,t_,t_,t_,t_,t_,t_,t_,f_,f_] (fun s_ => [(33, .agg #[s_.1]), (35, .agg #[s_.2.1]), (38, .tuple #[.agg #[s_.2.2.1], .bool t398]), (10, .pointer (some ⟨s_.2.2.2, 0, none⟩)), (31, .tuple #[.agg #[s_.2.2.1], .bool t398]), (39, .agg #[s_.2.2.1]), (40, .bool t398)]) (fun s_ w' => (w'.cell? ⟨gb385, 0, none⟩ = some (.slice A0_0 l0_0.length c0_0) ∧ w'.cell? ⟨gb386, 0, none⟩ = some (.slice A1_0 l1_0.length c1_0)) ∧ (Kd.R (Kd.int .i64) 3 w' w.heap.size (fun k_ => some k_ ≠ (s_.2.1 : Value).ownBlock ∧ some k_ ≠ (s_.2.2.1 : Value).ownBlock) s_.1 t389) ∧ (Kd.R (Kd.int .i64) 3 w' w.heap.size (fun k_ => some k_ ≠ (s_.1 : Value).ownBlock ∧ some k_ ≠ (s_.2.2.1 : Value).ownBlock) s_.2.1 t392) ∧ (Kd.R (Kd.int .i64) 3 w' w.heap.size (fun k_ => some k_ ≠ (s_.1 : Value).ownBlock ∧ some k_ ≠ (s_.2.1 : Value).ownBlock) s_.2.2.1 t395) ∧ (w'.heap[gb385]? = some (.cells #[.slice A0_0 l0_0.length c0_0] 46 (0, 0))) ∧ (w'.heap[gb386]? = some (.cells #[.slice A1_0 l1_0.length c1_0] 46 (0, 0))) ∧ (w'.heap[s_.2.2.2]? = some (.cells #[.slice none 0 0] 41 (0, 0))) ∧ (w.heap.size ≤ s_.2.2.2) ∧ (w.heap.size ≤ s_.2.2.2) ∧ (gb385 ≠ s_.2.2.2) ∧ (s_.2.2.2 ≠ gb385) ∧ (gb386 ≠ s_.2.2.2) ∧ (s_.2.2.2 ≠ gb386) ∧ (Below w.heap.size w w')) ?_ ?_
               rotate_left
               ·intro hCont
                refine two_ (i := 1) (j := 10) (Ni := some 33) (Nj := some 10) #[t_,t_,t_,f_,t_,t_,f_,f_,f_,f_,f_,f_,f_] #[t_,f_,t_,f_,t_,t_,f_,f_,f_,f_,t_,f_,f_] rfl rfl rfl rfl (two_of HT_.out (by kernel_rfl)) (by decide) (by decide) (fun K hK => ?_) (fun K hK => ?_)
                ·skip
                 refine goes_ Try.func48 (by kernel_rfl) rfl #[.agg #[.slice A0_0 l0_0.length c0_0]] (by rfl) rfl rfl (by (try simp only [List.map_toArray, List.map_cons, List.map_nil]); first | done | rfl | (simp only [List.length_drop, List.length_take]; rfl)) ?_
                 with_reducible refine (laws_toSemigroup.calls k _ _ l0_0 t389 _ ?side1 ?side2 A21.out).mono ?_
                 (case side1 => repeat (first | exact (Kd.C_below HR0_0.out HB.out) | exact HR0_0.out | (with_reducible refine Kd.C_alloc ?_ _) | (with_reducible refine Kd.C_drewN ?_ _) | (with_reducible refine Kd.C_drew ?_)))
                 (case side2 => exact HC0_0.out)
                 rintro e w62 ⟨v390, rfl, ho0, hb⟩
                 refine ⟨_, rfl, ?_⟩
                 have n0_ := Aside0.mk (Kd.R_lower ho0 (below_size (bl_ HB.out)))
                 have n1_ := Aside0.mk (blk_below (bk_ BK385.out) hb)
                 have n2_ := Aside0.mk (blk_below (bk_ BK386.out) hb)
                 have n3_ := Aside0.mk (below_step (bl_ HB.out) hb)
                 clear BK385
                 clear BK386
                 clear HB
                 have HO391 := n0_
                 have BK385 := n1_
                 have BK386 := n2_
                 have HB := n3_
                 clear n0_ n1_ n2_ n3_
                 (try clear hb)
                 (try clear hb2)
                 (try clear hk)
                 (try clear hi)
                 (try clear ho0)
                 refine hK.out _ _ ⟨(blk_cell BK385.out 0).trans rfl, (blk_cell BK386.out 0).trans rfl⟩ (fun hHeld => ?_)
                 clear hK K
                 refine norm_ (a' := ?_) ?_ ?_
                 rotate_left
                 ·show Act.put _ (some 33) _ = _
                  simp only [Act.put, List.setIfInBounds_toArray, List.set_cons_zero, List.set_cons_succ, i64_w, i32_w]
                  rfl
                 refine two_ (i := 3) (j := 10) (Ni := some 35) (Nj := some 10) #[t_,t_,t_,t_,t_,t_,f_,f_,f_,f_,f_,f_,f_] #[t_,t_,t_,f_,t_,t_,f_,f_,f_,f_,t_,f_,f_] rfl rfl rfl rfl (two_of HT_.out (by kernel_rfl)) (by decide) (by decide) (fun K hK => ?_) (fun K hK => ?_)
                 ·skip
                  refine goes_ Try.func48 (by kernel_rfl) rfl #[.agg #[.slice A1_0 l1_0.length c1_0]] (by rfl) rfl rfl (by (try simp only [List.map_toArray, List.map_cons, List.map_nil]); first | done | rfl | (simp only [List.length_drop, List.length_take]; rfl)) ?_
                  with_reducible refine (laws_toSemigroup.calls k _ _ l1_0 t392 _ ?side1 ?side2 A22.out).mono ?_
                  (case side1 => repeat (first | exact (Kd.C_below HR1_0.out HB.out) | exact HR1_0.out | (with_reducible refine Kd.C_alloc ?_ _) | (with_reducible refine Kd.C_drewN ?_ _) | (with_reducible refine Kd.C_drew ?_)))
                  (case side2 => exact HC1_0.out)
                  rintro e w63 ⟨v393, rfl, ho0, hb⟩
                  refine ⟨_, rfl, ?_⟩
                  have n0_ := Aside0.mk (Kd.R_elder' (kr_ HO391.out) (Kd.R_base ho0) hb)
                  have n1_ := Aside0.mk (Kd.R_lower (Kd.R_new' ho0 (Kd.R_lt (kr_ HO391.out))) (below_size (bl_ HB.out)))
                  have n2_ := Aside0.mk (blk_below (bk_ BK385.out) hb)
                  have n3_ := Aside0.mk (blk_below (bk_ BK386.out) hb)
                  have n4_ := Aside0.mk (below_step (bl_ HB.out) hb)
                  clear HO391
                  clear BK385
                  clear BK386
                  clear HB
                  have HO391 := n0_
                  have HO394 := n1_
                  have BK385 := n2_
                  have BK386 := n3_
                  have HB := n4_
                  clear n0_ n1_ n2_ n3_ n4_
                  (try clear hb)
                  (try clear hb2)
                  (try clear hk)
                  (try clear hi)
                  (try clear ho0)
                  obtain ⟨Ao64, co64, eo64⟩ := Kd.R_slice HO391.out
                  (first | subst eo64 | (injection eo64 with f1_ f2_ f3_; have f4_ := f1_.symm; have f5_ := f3_.symm; clear f1_ f2_ f3_; subst f4_; subst f5_))
                  obtain ⟨Ao65, co65, eo65⟩ := Kd.R_slice HO394.out
                  (first | subst eo65 | (injection eo65 with f1_ f2_ f3_; have f4_ := f1_.symm; have f5_ := f3_.symm; clear f1_ f2_ f3_; subst f4_; subst f5_))
                  refine hK.out _ _ ⟨(blk_cell BK385.out 0).trans rfl, (blk_cell BK386.out 0).trans rfl⟩ (fun hHeld => ?_)
                  clear hK K
                  refine norm_ (a' := ?_) ?_ ?_
                  rotate_left
                  ·show Act.put _ (some 35) _ = _
                   simp only [Act.put, List.setIfInBounds_toArray, List.set_cons_zero, List.set_cons_succ, i64_w, i32_w]
                   rfl
                  refine two_ (i := 6) (j := 10) (Ni := some 38) (Nj := some 10) #[t_,t_,t_,t_,t_,t_,t_,f_,f_,f_,f_,f_,f_] #[t_,t_,t_,t_,t_,t_,f_,f_,f_,f_,t_,f_,f_] rfl rfl rfl rfl (two_of HT_.out (by kernel_rfl)) (by decide) (by decide) (fun K hK => ?_) (fun K hK => ?_)
                  ·skip
                   refine goes_ Try.func55 (by kernel_rfl) rfl #[.agg #[.slice Ao64 t389.length co64], .agg #[.slice Ao65 t392.length co65], .int .i64 a2, .int .i64 a3] (by rfl) rfl rfl (by (try simp only [List.map_toArray, List.map_cons, List.map_nil]); first | done | rfl | (simp only [List.length_drop, List.length_take]; rfl)) ?_
                   with_reducible refine (spec_GlueOf.calls k _ _ t389 _ _ t392 a2 a3 t395 t398 _ ?side1 ?side2 ?side3 ?side4 A23.out).mono ?_
                   (case side1 => repeat (first | exact (Kd.R_reads' HO391.out).2.2 | (with_reducible refine Kd.C_alloc ?_ _) | (with_reducible refine Kd.C_drewN ?_ _) | (with_reducible refine Kd.C_drew ?_)))
                   (case side2 => exact (Kd.R_reads' HO391.out).2.1)
                   (case side3 => repeat (first | exact (Kd.R_reads' HO394.out).2.2 | (with_reducible refine Kd.C_alloc ?_ _) | (with_reducible refine Kd.C_drewN ?_ _) | (with_reducible refine Kd.C_drew ?_)))
                   (case side4 => exact (Kd.R_reads' HO394.out).2.1)
                   rintro e w66 ⟨v396, rfl, ho0, hb⟩
                   refine ⟨_, rfl, ?_⟩
                   have n0_ := Aside0.mk (Kd.R_elder' (kr_ HO391.out) (Kd.R_base ho0) hb)
                   have n1_ := Aside0.mk (Kd.R_elder' (kr_ HO394.out) (Kd.R_base ho0) hb)
                   have n2_ := Aside0.mk (Kd.R_lower (Kd.R_new' (Kd.R_new' ho0 (Kd.R_lt (kr_ HO391.out))) (Kd.R_lt (kr_ HO394.out))) (below_size (bl_ HB.out)))
                   have n3_ := Aside0.mk (blk_below (bk_ BK385.out) hb)
                   have n4_ := Aside0.mk (blk_below (bk_ BK386.out) hb)
                   have n5_ := Aside0.mk (below_step (bl_ HB.out) hb)
                   clear HO391
                   clear HO394
                   clear BK385
                   clear BK386
                   clear HB
                   have HO391 := n0_
                   have HO394 := n1_
                   have HO397 := n2_
                   have BK385 := n3_
                   have BK386 := n4_
                   have HB := n5_
                   clear n0_ n1_ n2_ n3_ n4_ n5_
                   (try clear hb)
                   (try clear hb2)
                   (try clear hk)
                   (try clear hi)
                   (try clear ho0)
                   refine hK.out _ _ ⟨(blk_cell BK385.out 0).trans rfl, (blk_cell BK386.out 0).trans rfl⟩ (fun hHeld => ?_)
                   clear hK K
                   refine norm_ (a' := ?_) ?_ ?_
                   rotate_left
                   ·show Act.put _ (some 38) _ = _
                    simp only [Act.put, List.setIfInBounds_toArray, List.set_cons_zero, List.set_cons_succ, i64_w, i32_w]
                    rfl
                   refine pure_ (i := 7) (N := some 31) (v := ?_) (a' := ?_) #[t_,t_,t_,t_,t_,t_,t_,t_,f_,f_,f_,f_,f_] rfl rfl (any_of HT_.out (by kernel_rfl)) (fun _ _ _ h => h) (Or.inl ⟨by rfl, ?_⟩) ?_ ?_
                   rotate_left
                   ·intro w'
                    go_simp
                    with_reducible rfl
                   rotate_left
                   ·simp only [Act.put, List.setIfInBounds_toArray, List.set_cons_zero, List.set_cons_succ, i64_w, i32_w]
                    rfl
                   refine pure_ (i := 8) (N := some 39) (v := ?_) (a' := ?_) #[t_,t_,t_,t_,t_,t_,t_,t_,t_,f_,f_,f_,f_] rfl rfl (any_of HT_.out (by kernel_rfl)) (fun _ _ _ h => h) (Or.inl ⟨by rfl, ?_⟩) ?_ ?_
                   rotate_left
                   ·intro w'
                    go_simp
                    with_reducible rfl
                   rotate_left
                   ·simp only [Act.put, List.setIfInBounds_toArray, List.set_cons_zero, List.set_cons_succ, i64_w, i32_w]
                    rfl
                   refine pure_ (i := 9) (N := some 40) (v := ?_) (a' := ?_) #[t_,t_,t_,t_,t_,t_,t_,t_,t_,t_,f_,f_,f_] rfl rfl (any_of HT_.out (by kernel_rfl)) (fun _ _ _ h => h) (Or.inl ⟨by rfl, ?_⟩) ?_ ?_
                   rotate_left
                   ·intro w'
                    go_simp
                    with_reducible rfl
                   rotate_left
                   ·simp only [Act.put, List.setIfInBounds_toArray, List.set_cons_zero, List.set_cons_succ, i64_w, i32_w]
                    rfl
                   refine one_ (i := 10) (N := some 10) #[t_,t_,t_,t_,t_,t_,t_,t_,t_,t_,t_,f_,f_] rfl rfl (one_of HT_.out (by kernel_rfl)) (by decide) (fun K hK => ?_)
                   refine box_step ?hg (N := 10) ?hd (cs := #[.slice none 0 0]) (t := 41) ?hr ?_; (case hd => rfl); (case hg => rfl); (case hr => first | (go_simp; done) | (go_simp; rfl))
                   intro gb399 hg w67 hbox hb
                   have n0_ := Aside0.mk (Kd.R_below (kr_ HO391.out) hb)
                   have n1_ := Aside0.mk (Kd.R_below (kr_ HO394.out) hb)
                   have n2_ := Aside0.mk (Kd.R_below (kr_ HO397.out) hb)
                   have n3_ := Aside0.mk (blk_below (bk_ BK385.out) hb)
                   have n4_ := Aside0.mk (blk_below (bk_ BK386.out) hb)
                   have n5_ := Aside0.mk (below_step (bl_ HB.out) hb)
                   have n6_ := Aside0.mk (hbox)
                   have n7_ := Aside0.mk ((by rw [hg]; exact (below_size (bl_ HB.out)) : w.heap.size ≤ gb399))
                   have n8_ := Aside0.mk ((by rw [hg]; exact (below_size (bl_ HB.out)) : w.heap.size ≤ gb399))
                   have n9_ := Aside0.mk ((by rw [hg]; exact Nat.ne_of_lt (blk_lt (bk_ BK385.out)) : gb385 ≠ gb399))
                   have n10_ := Aside0.mk ((by rw [hg]; exact Nat.ne_of_gt (blk_lt (bk_ BK385.out)) : gb399 ≠ gb385))
                   have n11_ := Aside0.mk ((by rw [hg]; exact Nat.ne_of_lt (blk_lt (bk_ BK386.out)) : gb386 ≠ gb399))
                   have n12_ := Aside0.mk ((by rw [hg]; exact Nat.ne_of_gt (blk_lt (bk_ BK386.out)) : gb399 ≠ gb386))
                   clear HO391
                   clear HO394
                   clear HO397
                   clear BK385
                   clear BK386
                   clear HB
                   have HO391 := n0_
                   have HO394 := n1_
                   have HO397 := n2_
                   have BK385 := n3_
                   have BK386 := n4_
                   have HB := n5_
                   have BK399 := n6_
                   have GW399 := n7_
                   have GE399 := n8_
                   have NB385_399 := n9_
                   have NB399_385 := n10_
                   have NB386_399 := n11_
                   have NB399_386 := n12_
                   clear n0_ n1_ n2_ n3_ n4_ n5_ n6_ n7_ n8_ n9_ n10_ n11_ n12_
                   clear hb hbox hg
                   refine hK.out _ _ ⟨(blk_cell BK385.out 0).trans rfl, (blk_cell BK386.out 0).trans rfl⟩ (fun hHeld => ?_)
                   clear hK K
                   refine norm_ (a' := ?_) ?_ ?_
                   rotate_left
                   ·show Act.put _ (some 10) _ = _
                    simp only [Act.put, List.setIfInBounds_toArray, List.set_cons_zero, List.set_cons_succ, i64_w, i32_w]
                    rfl
                   exact norm_ (by simp only [putAll, Act.put, List.setIfInBounds_toArray, List.set_cons_zero, List.set_cons_succ]) (hCont (.slice Ao64 t389.length co64, .slice Ao65 t392.length co65, v396, gb399) _ ⟨hHeld, (by (with_reducible repeat (first | apply Kd.R_alloc | apply Kd.R_drewN | apply Kd.R_drew)); exact Kd.R_mono HO391.out (fun _ hk => ⟨hk.1.2, hk.2⟩)), (by (with_reducible repeat (first | apply Kd.R_alloc | apply Kd.R_drewN | apply Kd.R_drew)); exact Kd.R_mono HO394.out (fun _ hk => ⟨hk.1.2, hk.2⟩)), (by (with_reducible repeat (first | apply Kd.R_alloc | apply Kd.R_drewN | apply Kd.R_drew)); exact Kd.R_mono HO397.out (fun _ hk => ⟨hk.1.2, hk.2⟩)), (bk_ BK385.out), (bk_ BK386.out), (bk_ BK399.out), GW399.out, GE399.out, NB385_399.out, NB399_385.out, NB386_399.out, NB399_386.out, (bl_ HB.out)⟩)
                  ·skip
                   refine box_step ?hg (N := 10) ?hd (cs := #[.slice none 0 0]) (t := 41) ?hr ?_; (case hd => rfl); (case hg => rfl); (case hr => first | (go_simp; done) | (go_simp; rfl))
                   intro gb399 hg w64 hbox hb
                   have n0_ := Aside0.mk (Kd.R_below (kr_ HO391.out) hb)
                   have n1_ := Aside0.mk (Kd.R_below (kr_ HO394.out) hb)
                   have n2_ := Aside0.mk (blk_below (bk_ BK385.out) hb)
                   have n3_ := Aside0.mk (blk_below (bk_ BK386.out) hb)
                   have n4_ := Aside0.mk (below_step (bl_ HB.out) hb)
                   have n5_ := Aside0.mk (hbox)
                   have n6_ := Aside0.mk ((by rw [hg]; exact (below_size (bl_ HB.out)) : w.heap.size ≤ gb399))
                   have n7_ := Aside0.mk ((by rw [hg]; exact (below_size (bl_ HB.out)) : w.heap.size ≤ gb399))
                   have n8_ := Aside0.mk ((by rw [hg]; exact Nat.ne_of_lt (blk_lt (bk_ BK385.out)) : gb385 ≠ gb399))
                   have n9_ := Aside0.mk ((by rw [hg]; exact Nat.ne_of_gt (blk_lt (bk_ BK385.out)) : gb399 ≠ gb385))
                   have n10_ := Aside0.mk ((by rw [hg]; exact Nat.ne_of_lt (blk_lt (bk_ BK386.out)) : gb386 ≠ gb399))
                   have n11_ := Aside0.mk ((by rw [hg]; exact Nat.ne_of_gt (blk_lt (bk_ BK386.out)) : gb399 ≠ gb386))
                   clear HO391
                   clear HO394
                   clear BK385
                   clear BK386
                   clear HB
                   have HO391 := n0_
                   have HO394 := n1_
                   have BK385 := n2_
                   have BK386 := n3_
                   have HB := n4_
                   have BK399 := n5_
                   have GW399 := n6_
                   have GE399 := n7_
                   have NB385_399 := n8_
                   have NB399_385 := n9_
                   have NB386_399 := n10_
                   have NB399_386 := n11_
                   clear n0_ n1_ n2_ n3_ n4_ n5_ n6_ n7_ n8_ n9_ n10_ n11_
                   clear hb hbox hg
                   obtain ⟨Ao65, co65, eo65⟩ := Kd.R_slice HO391.out
                   (first | subst eo65 | (injection eo65 with f1_ f2_ f3_; have f4_ := f1_.symm; have f5_ := f3_.symm; clear f1_ f2_ f3_; subst f4_; subst f5_))
                   obtain ⟨Ao66, co66, eo66⟩ := Kd.R_slice HO394.out
                   (first | subst eo66 | (injection eo66 with f1_ f2_ f3_; have f4_ := f1_.symm; have f5_ := f3_.symm; clear f1_ f2_ f3_; subst f4_; subst f5_))
                   refine hK.out _ _ ⟨(blk_cell BK385.out 0).trans rfl, (blk_cell BK386.out 0).trans rfl⟩ (fun hHeld => ?_)
                   clear hK K
                   refine norm_ (a' := ?_) ?_ ?_
                   rotate_left
                   ·show Act.put _ (some 10) _ = _
                    simp only [Act.put, List.setIfInBounds_toArray, List.set_cons_zero, List.set_cons_succ, i64_w, i32_w]
                    rfl
                   refine one_ (i := 6) (N := some 38) #[t_,t_,t_,t_,t_,t_,t_,f_,f_,f_,t_,f_,f_] rfl rfl (one_of HT_.out (by kernel_rfl)) (by decide) (fun K hK => ?_)
                   refine goes_ Try.func55 (by kernel_rfl) rfl #[.agg #[.slice Ao65 t389.length co65], .agg #[.slice Ao66 t392.length co66], .int .i64 a2, .int .i64 a3] (by rfl) rfl rfl (by (try simp only [List.map_toArray, List.map_cons, List.map_nil]); first | done | rfl | (simp only [List.length_drop, List.length_take]; rfl)) ?_
                   with_reducible refine (spec_GlueOf.calls k _ _ t389 _ _ t392 a2 a3 t395 t398 _ ?side1 ?side2 ?side3 ?side4 A23.out).mono ?_
                   (case side1 => repeat (first | exact (Kd.R_reads' HO391.out).2.2 | (with_reducible refine Kd.C_alloc ?_ _) | (with_reducible refine Kd.C_drewN ?_ _) | (with_reducible refine Kd.C_drew ?_)))
                   (case side2 => exact (Kd.R_reads' HO391.out).2.1)
                   (case side3 => repeat (first | exact (Kd.R_reads' HO394.out).2.2 | (with_reducible refine Kd.C_alloc ?_ _) | (with_reducible refine Kd.C_drewN ?_ _) | (with_reducible refine Kd.C_drew ?_)))
                   (case side4 => exact (Kd.R_reads' HO394.out).2.1)
                   rintro e w67 ⟨v396, rfl, ho0, hb⟩
                   refine ⟨_, rfl, ?_⟩
                   have n0_ := Aside0.mk (Kd.R_elder' (kr_ HO391.out) (Kd.R_base ho0) hb)
                   have n1_ := Aside0.mk (Kd.R_elder' (kr_ HO394.out) (Kd.R_base ho0) hb)
                   have n2_ := Aside0.mk (Kd.R_lower (Kd.R_new' (Kd.R_new' ho0 (Kd.R_lt (kr_ HO391.out))) (Kd.R_lt (kr_ HO394.out))) (below_size (bl_ HB.out)))
                   have n3_ := Aside0.mk (blk_below (bk_ BK385.out) hb)
                   have n4_ := Aside0.mk (blk_below (bk_ BK386.out) hb)
                   have n5_ := Aside0.mk (blk_below (bk_ BK399.out) hb)
                   have n6_ := Aside0.mk (below_step (bl_ HB.out) hb)
                   clear HO391
                   clear HO394
                   clear BK385
                   clear BK386
                   clear BK399
                   clear HB
                   have HO391 := n0_
                   have HO394 := n1_
                   have HO397 := n2_
                   have BK385 := n3_
                   have BK386 := n4_
                   have BK399 := n5_
                   have HB := n6_
                   clear n0_ n1_ n2_ n3_ n4_ n5_ n6_
                   (try clear hb)
                   (try clear hb2)
                   (try clear hk)
                   (try clear hi)
                   (try clear ho0)
                   refine hK.out _ _ ⟨(blk_cell BK385.out 0).trans rfl, (blk_cell BK386.out 0).trans rfl⟩ (fun hHeld => ?_)
                   clear hK K
                   refine norm_ (a' := ?_) ?_ ?_
                   rotate_left
                   ·show Act.put _ (some 38) _ = _
                    simp only [Act.put, List.setIfInBounds_toArray, List.set_cons_zero, List.set_cons_succ, i64_w, i32_w]
                    rfl
                   refine pure_ (i := 7) (N := some 31) (v := ?_) (a' := ?_) #[t_,t_,t_,t_,t_,t_,t_,t_,f_,f_,t_,f_,f_] rfl rfl (any_of HT_.out (by kernel_rfl)) (fun _ _ _ h => h) (Or.inl ⟨by rfl, ?_⟩) ?_ ?_
                   rotate_left
                   ·intro w'
                    go_simp
                    with_reducible rfl
                   rotate_left
                   ·simp only [Act.put, List.setIfInBounds_toArray, List.set_cons_zero, List.set_cons_succ, i64_w, i32_w]
                    rfl
                   refine pure_ (i := 8) (N := some 39) (v := ?_) (a' := ?_) #[t_,t_,t_,t_,t_,t_,t_,t_,t_,f_,t_,f_,f_] rfl rfl (any_of HT_.out (by kernel_rfl)) (fun _ _ _ h => h) (Or.inl ⟨by rfl, ?_⟩) ?_ ?_
                   rotate_left
                   ·intro w'
                    go_simp
                    with_reducible rfl
                   rotate_left
                   ·simp only [Act.put, List.setIfInBounds_toArray, List.set_cons_zero, List.set_cons_succ, i64_w, i32_w]
                    rfl
                   refine pure_ (i := 9) (N := some 40) (v := ?_) (a' := ?_) #[t_,t_,t_,t_,t_,t_,t_,t_,t_,t_,t_,f_,f_] rfl rfl (any_of HT_.out (by kernel_rfl)) (fun _ _ _ h => h) (Or.inl ⟨by rfl, ?_⟩) ?_ ?_
                   rotate_left
                   ·intro w'
                    go_simp
                    with_reducible rfl
                   rotate_left
                   ·simp only [Act.put, List.setIfInBounds_toArray, List.set_cons_zero, List.set_cons_succ, i64_w, i32_w]
                    rfl
                   exact norm_ (by simp only [putAll, Act.put, List.setIfInBounds_toArray, List.set_cons_zero, List.set_cons_succ]) (hCont (.slice Ao65 t389.length co65, .slice Ao66 t392.length co66, v396, gb399) _ ⟨hHeld, (by (with_reducible repeat (first | apply Kd.R_alloc | apply Kd.R_drewN | apply Kd.R_drew)); exact Kd.R_mono HO391.out (fun _ hk => ⟨hk.1.2, hk.2⟩)), (by (with_reducible repeat (first | apply Kd.R_alloc | apply Kd.R_drewN | apply Kd.R_drew)); exact Kd.R_mono HO394.out (fun _ hk => ⟨hk.1.2, hk.2⟩)), (by (with_reducible repeat (first | apply Kd.R_alloc | apply Kd.R_drewN | apply Kd.R_drew)); exact Kd.R_mono HO397.out (fun _ hk => ⟨hk.1.2, hk.2⟩)), (bk_ BK385.out), (bk_ BK386.out), (bk_ BK399.out), GW399.out, GE399.out, NB385_399.out, NB399_385.out, NB386_399.out, NB399_386.out, (bl_ HB.out)⟩)
                 ·skip
                  refine box_step ?hg (N := 10) ?hd (cs := #[.slice none 0 0]) (t := 41) ?hr ?_; (case hd => rfl); (case hg => rfl); (case hr => first | (go_simp; done) | (go_simp; rfl))
                  intro gb399 hg w63 hbox hb
                  have n0_ := Aside0.mk (Kd.R_below (kr_ HO391.out) hb)
                  have n1_ := Aside0.mk (blk_below (bk_ BK385.out) hb)
                  have n2_ := Aside0.mk (blk_below (bk_ BK386.out) hb)
                  have n3_ := Aside0.mk (below_step (bl_ HB.out) hb)
                  have n4_ := Aside0.mk (hbox)
                  have n5_ := Aside0.mk ((by rw [hg]; exact (below_size (bl_ HB.out)) : w.heap.size ≤ gb399))
                  have n6_ := Aside0.mk ((by rw [hg]; exact (below_size (bl_ HB.out)) : w.heap.size ≤ gb399))
                  have n7_ := Aside0.mk ((by rw [hg]; exact Nat.ne_of_lt (blk_lt (bk_ BK385.out)) : gb385 ≠ gb399))
                  have n8_ := Aside0.mk ((by rw [hg]; exact Nat.ne_of_gt (blk_lt (bk_ BK385.out)) : gb399 ≠ gb385))
                  have n9_ := Aside0.mk ((by rw [hg]; exact Nat.ne_of_lt (blk_lt (bk_ BK386.out)) : gb386 ≠ gb399))
                  have n10_ := Aside0.mk ((by rw [hg]; exact Nat.ne_of_gt (blk_lt (bk_ BK386.out)) : gb399 ≠ gb386))
                  clear HO391
                  clear BK385
                  clear BK386
                  clear HB
                  have HO391 := n0_
                  have BK385 := n1_
                  have BK386 := n2_
                  have HB := n3_
                  have BK399 := n4_
                  have GW399 := n5_
                  have GE399 := n6_
                  have NB385_399 := n7_
                  have NB399_385 := n8_
                  have NB386_399 := n9_
                  have NB399_386 := n10_
                  clear n0_ n1_ n2_ n3_ n4_ n5_ n6_ n7_ n8_ n9_ n10_
                  clear hb hbox hg
                  refine hK.out _ _ ⟨(blk_cell BK385.out 0).trans rfl, (blk_cell BK386.out 0).trans rfl⟩ (fun hHeld => ?_)
                  clear hK K
                  refine norm_ (a' := ?_) ?_ ?_
                  rotate_left
                  ·show Act.put _ (some 10) _ = _
                   simp only [Act.put, List.setIfInBounds_toArray, List.set_cons_zero, List.set_cons_succ, i64_w, i32_w]
                   rfl
                  refine one_ (i := 3) (N := some 35) #[t_,t_,t_,t_,t_,t_,f_,f_,f_,f_,t_,f_,f_] rfl rfl (one_of HT_.out (by kernel_rfl)) (by decide) (fun K hK => ?_)
                  refine goes_ Try.func48 (by kernel_rfl) rfl #[.agg #[.slice A1_0 l1_0.length c1_0]] (by rfl) rfl rfl (by (try simp only [List.map_toArray, List.map_cons, List.map_nil]); first | done | rfl | (simp only [List.length_drop, List.length_take]; rfl)) ?_
                  with_reducible refine (laws_toSemigroup.calls k _ _ l1_0 t392 _ ?side1 ?side2 A22.out).mono ?_
                  (case side1 => repeat (first | exact (Kd.C_below HR1_0.out HB.out) | exact HR1_0.out | (with_reducible refine Kd.C_alloc ?_ _) | (with_reducible refine Kd.C_drewN ?_ _) | (with_reducible refine Kd.C_drew ?_)))
                  (case side2 => exact HC1_0.out)
                  rintro e w64 ⟨v393, rfl, ho0, hb⟩
                  refine ⟨_, rfl, ?_⟩
                  have n0_ := Aside0.mk (Kd.R_elder' (kr_ HO391.out) (Kd.R_base ho0) hb)
                  have n1_ := Aside0.mk (Kd.R_lower (Kd.R_new' ho0 (Kd.R_lt (kr_ HO391.out))) (below_size (bl_ HB.out)))
                  have n2_ := Aside0.mk (blk_below (bk_ BK385.out) hb)
                  have n3_ := Aside0.mk (blk_below (bk_ BK386.out) hb)
                  have n4_ := Aside0.mk (blk_below (bk_ BK399.out) hb)
                  have n5_ := Aside0.mk (below_step (bl_ HB.out) hb)
                  clear HO391
                  clear BK385
                  clear BK386
                  clear BK399
                  clear HB
                  have HO391 := n0_
                  have HO394 := n1_
                  have BK385 := n2_
                  have BK386 := n3_
                  have BK399 := n4_
                  have HB := n5_
                  clear n0_ n1_ n2_ n3_ n4_ n5_
                  (try clear hb)
                  (try clear hb2)
                  (try clear hk)
                  (try clear hi)
                  (try clear ho0)
                  obtain ⟨Ao65, co65, eo65⟩ := Kd.R_slice HO391.out
                  (first | subst eo65 | (injection eo65 with f1_ f2_ f3_; have f4_ := f1_.symm; have f5_ := f3_.symm; clear f1_ f2_ f3_; subst f4_; subst f5_))
                  obtain ⟨Ao66, co66, eo66⟩ := Kd.R_slice HO394.out
                  (first | subst eo66 | (injection eo66 with f1_ f2_ f3_; have f4_ := f1_.symm; have f5_ := f3_.symm; clear f1_ f2_ f3_; subst f4_; subst f5_))
                  refine hK.out _ _ ⟨(blk_cell BK385.out 0).trans rfl, (blk_cell BK386.out 0).trans rfl⟩ (fun hHeld => ?_)
                  clear hK K
                  refine norm_ (a' := ?_) ?_ ?_
                  rotate_left
                  ·show Act.put _ (some 35) _ = _
                   simp only [Act.put, List.setIfInBounds_toArray, List.set_cons_zero, List.set_cons_succ, i64_w, i32_w]
                   rfl
                  refine one_ (i := 6) (N := some 38) #[t_,t_,t_,t_,t_,t_,t_,f_,f_,f_,t_,f_,f_] rfl rfl (one_of HT_.out (by kernel_rfl)) (by decide) (fun K hK => ?_)
                  refine goes_ Try.func55 (by kernel_rfl) rfl #[.agg #[.slice Ao65 t389.length co65], .agg #[.slice Ao66 t392.length co66], .int .i64 a2, .int .i64 a3] (by rfl) rfl rfl (by (try simp only [List.map_toArray, List.map_cons, List.map_nil]); first | done | rfl | (simp only [List.length_drop, List.length_take]; rfl)) ?_
                  with_reducible refine (spec_GlueOf.calls k _ _ t389 _ _ t392 a2 a3 t395 t398 _ ?side1 ?side2 ?side3 ?side4 A23.out).mono ?_
                  (case side1 => repeat (first | exact (Kd.R_reads' HO391.out).2.2 | (with_reducible refine Kd.C_alloc ?_ _) | (with_reducible refine Kd.C_drewN ?_ _) | (with_reducible refine Kd.C_drew ?_)))
                  (case side2 => exact (Kd.R_reads' HO391.out).2.1)
                  (case side3 => repeat (first | exact (Kd.R_reads' HO394.out).2.2 | (with_reducible refine Kd.C_alloc ?_ _) | (with_reducible refine Kd.C_drewN ?_ _) | (with_reducible refine Kd.C_drew ?_)))
                  (case side4 => exact (Kd.R_reads' HO394.out).2.1)
                  rintro e w67 ⟨v396, rfl, ho0, hb⟩
                  refine ⟨_, rfl, ?_⟩
                  have n0_ := Aside0.mk (Kd.R_elder' (kr_ HO391.out) (Kd.R_base ho0) hb)
                  have n1_ := Aside0.mk (Kd.R_elder' (kr_ HO394.out) (Kd.R_base ho0) hb)
                  have n2_ := Aside0.mk (Kd.R_lower (Kd.R_new' (Kd.R_new' ho0 (Kd.R_lt (kr_ HO391.out))) (Kd.R_lt (kr_ HO394.out))) (below_size (bl_ HB.out)))
                  have n3_ := Aside0.mk (blk_below (bk_ BK385.out) hb)
                  have n4_ := Aside0.mk (blk_below (bk_ BK386.out) hb)
                  have n5_ := Aside0.mk (blk_below (bk_ BK399.out) hb)
                  have n6_ := Aside0.mk (below_step (bl_ HB.out) hb)
                  clear HO391
                  clear HO394
                  clear BK385
                  clear BK386
                  clear BK399
                  clear HB
                  have HO391 := n0_
                  have HO394 := n1_
                  have HO397 := n2_
                  have BK385 := n3_
                  have BK386 := n4_
                  have BK399 := n5_
                  have HB := n6_
                  clear n0_ n1_ n2_ n3_ n4_ n5_ n6_
                  (try clear hb)
                  (try clear hb2)
                  (try clear hk)
                  (try clear hi)
                  (try clear ho0)
                  refine hK.out _ _ ⟨(blk_cell BK385.out 0).trans rfl, (blk_cell BK386.out 0).trans rfl⟩ (fun hHeld => ?_)
                  clear hK K
                  refine norm_ (a' := ?_) ?_ ?_
                  rotate_left
                  ·show Act.put _ (some 38) _ = _
                   simp only [Act.put, List.setIfInBounds_toArray, List.set_cons_zero, List.set_cons_succ, i64_w, i32_w]
                   rfl
                  refine pure_ (i := 7) (N := some 31) (v := ?_) (a' := ?_) #[t_,t_,t_,t_,t_,t_,t_,t_,f_,f_,t_,f_,f_] rfl rfl (any_of HT_.out (by kernel_rfl)) (fun _ _ _ h => h) (Or.inl ⟨by rfl, ?_⟩) ?_ ?_
                  rotate_left
                  ·intro w'
                   go_simp
                   with_reducible rfl
                  rotate_left
                  ·simp only [Act.put, List.setIfInBounds_toArray, List.set_cons_zero, List.set_cons_succ, i64_w, i32_w]
                   rfl
                  refine pure_ (i := 8) (N := some 39) (v := ?_) (a' := ?_) #[t_,t_,t_,t_,t_,t_,t_,t_,t_,f_,t_,f_,f_] rfl rfl (any_of HT_.out (by kernel_rfl)) (fun _ _ _ h => h) (Or.inl ⟨by rfl, ?_⟩) ?_ ?_
                  rotate_left
                  ·intro w'
                   go_simp
                   with_reducible rfl
                  rotate_left
                  ·simp only [Act.put, List.setIfInBounds_toArray, List.set_cons_zero, List.set_cons_succ, i64_w, i32_w]
                   rfl
                  refine pure_ (i := 9) (N := some 40) (v := ?_) (a' := ?_) #[t_,t_,t_,t_,t_,t_,t_,t_,t_,t_,t_,f_,f_] rfl rfl (any_of HT_.out (by kernel_rfl)) (fun _ _ _ h => h) (Or.inl ⟨by rfl, ?_⟩) ?_ ?_
                  rotate_left
                  ·intro w'
                   go_simp
                   with_reducible rfl
                  rotate_left
                  ·simp only [Act.put, List.setIfInBounds_toArray, List.set_cons_zero, List.set_cons_succ, i64_w, i32_w]
                   rfl
                  exact norm_ (by simp only [putAll, Act.put, List.setIfInBounds_toArray, List.set_cons_zero, List.set_cons_succ]) (hCont (.slice Ao65 t389.length co65, .slice Ao66 t392.length co66, v396, gb399) _ ⟨hHeld, (by (with_reducible repeat (first | apply Kd.R_alloc | apply Kd.R_drewN | apply Kd.R_drew)); exact Kd.R_mono HO391.out (fun _ hk => ⟨hk.1.2, hk.2⟩)), (by (with_reducible repeat (first | apply Kd.R_alloc | apply Kd.R_drewN | apply Kd.R_drew)); exact Kd.R_mono HO394.out (fun _ hk => ⟨hk.1.2, hk.2⟩)), (by (with_reducible repeat (first | apply Kd.R_alloc | apply Kd.R_drewN | apply Kd.R_drew)); exact Kd.R_mono HO397.out (fun _ hk => ⟨hk.1.2, hk.2⟩)), (bk_ BK385.out), (bk_ BK386.out), (bk_ BK399.out), GW399.out, GE399.out, NB385_399.out, NB399_385.out, NB386_399.out, NB399_386.out, (bl_ HB.out)⟩)
                ·skip
                 refine box_step ?hg (N := 10) ?hd (cs := #[.slice none 0 0]) (t := 41) ?hr ?_; (case hd => rfl); (case hg => rfl); (case hr => first | (go_simp; done) | (go_simp; rfl))
                 intro gb399 hg w62 hbox hb
                 have n0_ := Aside0.mk (blk_below (bk_ BK385.out) hb)
                 have n1_ := Aside0.mk (blk_below (bk_ BK386.out) hb)
                 have n2_ := Aside0.mk (below_step (bl_ HB.out) hb)
                 have n3_ := Aside0.mk (hbox)
                 have n4_ := Aside0.mk ((by rw [hg]; exact (below_size (bl_ HB.out)) : w.heap.size ≤ gb399))
                 have n5_ := Aside0.mk ((by rw [hg]; exact (below_size (bl_ HB.out)) : w.heap.size ≤ gb399))
                 have n6_ := Aside0.mk ((by rw [hg]; exact Nat.ne_of_lt (blk_lt (bk_ BK385.out)) : gb385 ≠ gb399))
                 have n7_ := Aside0.mk ((by rw [hg]; exact Nat.ne_of_gt (blk_lt (bk_ BK385.out)) : gb399 ≠ gb385))
                 have n8_ := Aside0.mk ((by rw [hg]; exact Nat.ne_of_lt (blk_lt (bk_ BK386.out)) : gb386 ≠ gb399))
                 have n9_ := Aside0.mk ((by rw [hg]; exact Nat.ne_of_gt (blk_lt (bk_ BK386.out)) : gb399 ≠ gb386))
                 clear BK385
                 clear BK386
                 clear HB
                 have BK385 := n0_
                 have BK386 := n1_
                 have HB := n2_
                 have BK399 := n3_
                 have GW399 := n4_
                 have GE399 := n5_
                 have NB385_399 := n6_
                 have NB399_385 := n7_
                 have NB386_399 := n8_
                 have NB399_386 := n9_
                 clear n0_ n1_ n2_ n3_ n4_ n5_ n6_ n7_ n8_ n9_
                 clear hb hbox hg
                 refine hK.out _ _ ⟨(blk_cell BK385.out 0).trans rfl, (blk_cell BK386.out 0).trans rfl⟩ (fun hHeld => ?_)
                 clear hK K
                 refine norm_ (a' := ?_) ?_ ?_
                 rotate_left
                 ·show Act.put _ (some 10) _ = _
                  simp only [Act.put, List.setIfInBounds_toArray, List.set_cons_zero, List.set_cons_succ, i64_w, i32_w]
                  rfl
                 refine one_ (i := 1) (N := some 33) #[t_,t_,t_,f_,t_,t_,f_,f_,f_,f_,t_,f_,f_] rfl rfl (one_of HT_.out (by kernel_rfl)) (by decide) (fun K hK => ?_)
                 refine goes_ Try.func48 (by kernel_rfl) rfl #[.agg #[.slice A0_0 l0_0.length c0_0]] (by rfl) rfl rfl (by (try simp only [List.map_toArray, List.map_cons, List.map_nil]); first | done | rfl | (simp only [List.length_drop, List.length_take]; rfl)) ?_
                 with_reducible refine (laws_toSemigroup.calls k _ _ l0_0 t389 _ ?side1 ?side2 A21.out).mono ?_
                 (case side1 => repeat (first | exact (Kd.C_below HR0_0.out HB.out) | exact HR0_0.out | (with_reducible refine Kd.C_alloc ?_ _) | (with_reducible refine Kd.C_drewN ?_ _) | (with_reducible refine Kd.C_drew ?_)))
                 (case side2 => exact HC0_0.out)
                 rintro e w63 ⟨v390, rfl, ho0, hb⟩
                 refine ⟨_, rfl, ?_⟩
                 have n0_ := Aside0.mk (Kd.R_lower ho0 (below_size (bl_ HB.out)))
                 have n1_ := Aside0.mk (blk_below (bk_ BK385.out) hb)
                 have n2_ := Aside0.mk (blk_below (bk_ BK386.out) hb)
                 have n3_ := Aside0.mk (blk_below (bk_ BK399.out) hb)
                 have n4_ := Aside0.mk (below_step (bl_ HB.out) hb)
                 clear BK385
                 clear BK386
                 clear BK399
                 clear HB
                 have HO391 := n0_
                 have BK385 := n1_
                 have BK386 := n2_
                 have BK399 := n3_
                 have HB := n4_
                 clear n0_ n1_ n2_ n3_ n4_
                 (try clear hb)
                 (try clear hb2)
                 (try clear hk)
                 (try clear hi)
                 (try clear ho0)
                 refine hK.out _ _ ⟨(blk_cell BK385.out 0).trans rfl, (blk_cell BK386.out 0).trans rfl⟩ (fun hHeld => ?_)
                 clear hK K
                 refine norm_ (a' := ?_) ?_ ?_
                 rotate_left
                 ·show Act.put _ (some 33) _ = _
                  simp only [Act.put, List.setIfInBounds_toArray, List.set_cons_zero, List.set_cons_succ, i64_w, i32_w]
                  rfl
                 refine one_ (i := 3) (N := some 35) #[t_,t_,t_,t_,t_,t_,f_,f_,f_,f_,t_,f_,f_] rfl rfl (one_of HT_.out (by kernel_rfl)) (by decide) (fun K hK => ?_)
                 refine goes_ Try.func48 (by kernel_rfl) rfl #[.agg #[.slice A1_0 l1_0.length c1_0]] (by rfl) rfl rfl (by (try simp only [List.map_toArray, List.map_cons, List.map_nil]); first | done | rfl | (simp only [List.length_drop, List.length_take]; rfl)) ?_
                 with_reducible refine (laws_toSemigroup.calls k _ _ l1_0 t392 _ ?side1 ?side2 A22.out).mono ?_
                 (case side1 => repeat (first | exact (Kd.C_below HR1_0.out HB.out) | exact HR1_0.out | (with_reducible refine Kd.C_alloc ?_ _) | (with_reducible refine Kd.C_drewN ?_ _) | (with_reducible refine Kd.C_drew ?_)))
                 (case side2 => exact HC1_0.out)
                 rintro e w64 ⟨v393, rfl, ho0, hb⟩
                 refine ⟨_, rfl, ?_⟩
                 have n0_ := Aside0.mk (Kd.R_elder' (kr_ HO391.out) (Kd.R_base ho0) hb)
                 have n1_ := Aside0.mk (Kd.R_lower (Kd.R_new' ho0 (Kd.R_lt (kr_ HO391.out))) (below_size (bl_ HB.out)))
                 have n2_ := Aside0.mk (blk_below (bk_ BK385.out) hb)
                 have n3_ := Aside0.mk (blk_below (bk_ BK386.out) hb)
                 have n4_ := Aside0.mk (blk_below (bk_ BK399.out) hb)
                 have n5_ := Aside0.mk (below_step (bl_ HB.out) hb)
                 clear HO391
                 clear BK385
                 clear BK386
                 clear BK399
                 clear HB
                 have HO391 := n0_
                 have HO394 := n1_
                 have BK385 := n2_
                 have BK386 := n3_
                 have BK399 := n4_
                 have HB := n5_
                 clear n0_ n1_ n2_ n3_ n4_ n5_
                 (try clear hb)
                 (try clear hb2)
                 (try clear hk)
                 (try clear hi)
                 (try clear ho0)
                 obtain ⟨Ao65, co65, eo65⟩ := Kd.R_slice HO391.out
                 (first | subst eo65 | (injection eo65 with f1_ f2_ f3_; have f4_ := f1_.symm; have f5_ := f3_.symm; clear f1_ f2_ f3_; subst f4_; subst f5_))
                 obtain ⟨Ao66, co66, eo66⟩ := Kd.R_slice HO394.out
                 (first | subst eo66 | (injection eo66 with f1_ f2_ f3_; have f4_ := f1_.symm; have f5_ := f3_.symm; clear f1_ f2_ f3_; subst f4_; subst f5_))
                 refine hK.out _ _ ⟨(blk_cell BK385.out 0).trans rfl, (blk_cell BK386.out 0).trans rfl⟩ (fun hHeld => ?_)
                 clear hK K
                 refine norm_ (a' := ?_) ?_ ?_
                 rotate_left
                 ·show Act.put _ (some 35) _ = _
                  simp only [Act.put, List.setIfInBounds_toArray, List.set_cons_zero, List.set_cons_succ, i64_w, i32_w]
                  rfl
                 refine one_ (i := 6) (N := some 38) #[t_,t_,t_,t_,t_,t_,t_,f_,f_,f_,t_,f_,f_] rfl rfl (one_of HT_.out (by kernel_rfl)) (by decide) (fun K hK => ?_)
                 refine goes_ Try.func55 (by kernel_rfl) rfl #[.agg #[.slice Ao65 t389.length co65], .agg #[.slice Ao66 t392.length co66], .int .i64 a2, .int .i64 a3] (by rfl) rfl rfl (by (try simp only [List.map_toArray, List.map_cons, List.map_nil]); first | done | rfl | (simp only [List.length_drop, List.length_take]; rfl)) ?_
                 with_reducible refine (spec_GlueOf.calls k _ _ t389 _ _ t392 a2 a3 t395 t398 _ ?side1 ?side2 ?side3 ?side4 A23.out).mono ?_
                 (case side1 => repeat (first | exact (Kd.R_reads' HO391.out).2.2 | (with_reducible refine Kd.C_alloc ?_ _) | (with_reducible refine Kd.C_drewN ?_ _) | (with_reducible refine Kd.C_drew ?_)))
                 (case side2 => exact (Kd.R_reads' HO391.out).2.1)
                 (case side3 => repeat (first | exact (Kd.R_reads' HO394.out).2.2 | (with_reducible refine Kd.C_alloc ?_ _) | (with_reducible refine Kd.C_drewN ?_ _) | (with_reducible refine Kd.C_drew ?_)))
                 (case side4 => exact (Kd.R_reads' HO394.out).2.1)
                 rintro e w67 ⟨v396, rfl, ho0, hb⟩
                 refine ⟨_, rfl, ?_⟩
                 have n0_ := Aside0.mk (Kd.R_elder' (kr_ HO391.out) (Kd.R_base ho0) hb)
                 have n1_ := Aside0.mk (Kd.R_elder' (kr_ HO394.out) (Kd.R_base ho0) hb)
                 have n2_ := Aside0.mk (Kd.R_lower (Kd.R_new' (Kd.R_new' ho0 (Kd.R_lt (kr_ HO391.out))) (Kd.R_lt (kr_ HO394.out))) (below_size (bl_ HB.out)))
                 have n3_ := Aside0.mk (blk_below (bk_ BK385.out) hb)
                 have n4_ := Aside0.mk (blk_below (bk_ BK386.out) hb)
                 have n5_ := Aside0.mk (blk_below (bk_ BK399.out) hb)
                 have n6_ := Aside0.mk (below_step (bl_ HB.out) hb)
                 clear HO391
                 clear HO394
                 clear BK385
                 clear BK386
                 clear BK399
                 clear HB
                 have HO391 := n0_
                 have HO394 := n1_
                 have HO397 := n2_
                 have BK385 := n3_
                 have BK386 := n4_
                 have BK399 := n5_
                 have HB := n6_
                 clear n0_ n1_ n2_ n3_ n4_ n5_ n6_
                 (try clear hb)
                 (try clear hb2)
                 (try clear hk)
                 (try clear hi)
                 (try clear ho0)
                 refine hK.out _ _ ⟨(blk_cell BK385.out 0).trans rfl, (blk_cell BK386.out 0).trans rfl⟩ (fun hHeld => ?_)
                 clear hK K
                 refine norm_ (a' := ?_) ?_ ?_
                 rotate_left
                 ·show Act.put _ (some 38) _ = _
                  simp only [Act.put, List.setIfInBounds_toArray, List.set_cons_zero, List.set_cons_succ, i64_w, i32_w]
                  rfl
                 refine pure_ (i := 7) (N := some 31) (v := ?_) (a' := ?_) #[t_,t_,t_,t_,t_,t_,t_,t_,f_,f_,t_,f_,f_] rfl rfl (any_of HT_.out (by kernel_rfl)) (fun _ _ _ h => h) (Or.inl ⟨by rfl, ?_⟩) ?_ ?_
                 rotate_left
                 ·intro w'
                  go_simp
                  with_reducible rfl
                 rotate_left
                 ·simp only [Act.put, List.setIfInBounds_toArray, List.set_cons_zero, List.set_cons_succ, i64_w, i32_w]
                  rfl
                 refine pure_ (i := 8) (N := some 39) (v := ?_) (a' := ?_) #[t_,t_,t_,t_,t_,t_,t_,t_,t_,f_,t_,f_,f_] rfl rfl (any_of HT_.out (by kernel_rfl)) (fun _ _ _ h => h) (Or.inl ⟨by rfl, ?_⟩) ?_ ?_
                 rotate_left
                 ·intro w'
                  go_simp
                  with_reducible rfl
                 rotate_left
                 ·simp only [Act.put, List.setIfInBounds_toArray, List.set_cons_zero, List.set_cons_succ, i64_w, i32_w]
                  rfl
                 refine pure_ (i := 9) (N := some 40) (v := ?_) (a' := ?_) #[t_,t_,t_,t_,t_,t_,t_,t_,t_,t_,t_,f_,f_] rfl rfl (any_of HT_.out (by kernel_rfl)) (fun _ _ _ h => h) (Or.inl ⟨by rfl, ?_⟩) ?_ ?_
                 rotate_left
                 ·intro w'
                  go_simp
                  with_reducible rfl
                 rotate_left
                 ·simp only [Act.put, List.setIfInBounds_toArray, List.set_cons_zero, List.set_cons_succ, i64_w, i32_w]
                  rfl
                 exact norm_ (by simp only [putAll, Act.put, List.setIfInBounds_toArray, List.set_cons_zero, List.set_cons_succ]) (hCont (.slice Ao65 t389.length co65, .slice Ao66 t392.length co66, v396, gb399) _ ⟨hHeld, (by (with_reducible repeat (first | apply Kd.R_alloc | apply Kd.R_drewN | apply Kd.R_drew)); exact Kd.R_mono HO391.out (fun _ hk => ⟨hk.1.2, hk.2⟩)), (by (with_reducible repeat (first | apply Kd.R_alloc | apply Kd.R_drewN | apply Kd.R_drew)); exact Kd.R_mono HO394.out (fun _ hk => ⟨hk.1.2, hk.2⟩)), (by (with_reducible repeat (first | apply Kd.R_alloc | apply Kd.R_drewN | apply Kd.R_drew)); exact Kd.R_mono HO397.out (fun _ hk => ⟨hk.1.2, hk.2⟩)), (bk_ BK385.out), (bk_ BK386.out), (bk_ BK399.out), GW399.out, GE399.out, NB385_399.out, NB399_385.out, NB386_399.out, NB399_386.out, (bl_ HB.out)⟩)
               rintro ⟨v390, v393, v396, gb399⟩ w68 ⟨hS_, h0_, h1_, h2_, h3_, h4_, h5_, h6_, h7_, h8_, h9_, h10_, h11_, h12_⟩
               have n0_ : Aside0 (Kd.R (Kd.int .i64) 3 w68 w.heap.size (fun k_ => some k_ ≠ (v393 : Value).ownBlock ∧ some k_ ≠ (v396 : Value).ownBlock) v390 t389) := ⟨h0_⟩
               have n1_ : Aside0 (Kd.R (Kd.int .i64) 3 w68 w.heap.size (fun k_ => some k_ ≠ (v390 : Value).ownBlock ∧ some k_ ≠ (v396 : Value).ownBlock) v393 t392) := ⟨h1_⟩
               have n2_ : Aside0 (Kd.R (Kd.int .i64) 3 w68 w.heap.size (fun k_ => some k_ ≠ (v390 : Value).ownBlock ∧ some k_ ≠ (v393 : Value).ownBlock) v396 t395) := ⟨h2_⟩
               have n3_ : Aside0 (w68.heap[gb385]? = some (.cells #[.slice A0_0 l0_0.length c0_0] 46 (0, 0))) := ⟨h3_⟩
               have n4_ : Aside0 (w68.heap[gb386]? = some (.cells #[.slice A1_0 l1_0.length c1_0] 46 (0, 0))) := ⟨h4_⟩
               have n5_ : Aside0 (w68.heap[gb399]? = some (.cells #[.slice none 0 0] 41 (0, 0))) := ⟨h5_⟩
               have n6_ : Aside0 (w.heap.size ≤ gb399) := ⟨h6_⟩
               have n7_ : Aside0 (w.heap.size ≤ gb399) := ⟨h7_⟩
               have n8_ : Aside0 (gb385 ≠ gb399) := ⟨h8_⟩
               have n9_ : Aside0 (gb399 ≠ gb385) := ⟨h9_⟩
               have n10_ : Aside0 (gb386 ≠ gb399) := ⟨h10_⟩
               have n11_ : Aside0 (gb399 ≠ gb386) := ⟨h11_⟩
               have n12_ : Aside0 (Below w.heap.size w w68) := ⟨h12_⟩
               clear BK385
               clear BK386
               clear HB
               clear h0_ h1_ h2_ h3_ h4_ h5_ h6_ h7_ h8_ h9_ h10_ h11_ h12_
               have HO391 := n0_
               have HO394 := n1_
               have HO397 := n2_
               have BK385 := n3_
               have BK386 := n4_
               have BK399 := n5_
               have GW399 := n6_
               have GE399 := n7_
               have NB385_399 := n8_
               have NB399_385 := n9_
               have NB386_399 := n10_
               have NB399_386 := n11_
               have HB := n12_
               clear n0_ n1_ n2_ n3_ n4_ n5_ n6_ n7_ n8_ n9_ n10_ n11_ n12_
               have hHeld : w68.cell? ⟨gb385, 0, none⟩ = some (.slice A0_0 l0_0.length c0_0) ∧ w68.cell? ⟨gb386, 0, none⟩ = some (.slice A1_0 l1_0.length c1_0) := hS_
               obtain ⟨Ao69, co69, eo69⟩ := Kd.R_slice HO397.out
               (first | subst eo69 | (injection eo69 with f1_ f2_ f3_; have f4_ := f1_.symm; have f5_ := f3_.symm; clear f1_ f2_ f3_; subst f4_; subst f5_))
               refine norm_ (a' := ?_) ?_ ?_
               rotate_left
               ·simp only [putAll, Act.put, List.setIfInBounds_toArray, List.set_cons_zero, List.set_cons_succ]
                rfl
               refine one_ (i := 11) (N := none) #[t_,t_,t_,t_,t_,t_,t_,t_,t_,t_,t_,t_,f_] rfl rfl (one_of HT_.out (by kernel_rfl)) (by decide) (fun K hK => ?_)
               have hs70 : w68.cell? ⟨gb399, 0, none⟩ = some (.slice none 0 0) := (blk_cell BK399.out 0).trans rfl
               have hfs70 := blk_frozen BK399.out 0
               have hns70_0 := NB385_399.out
               have hns70_1 := NB386_399.out
               have hms70_0 := NB399_385.out
               have hms70_1 := NB399_386.out
               refine skip_ (w1 := ?_) (by rfl) rfl ?_ ?_
               rotate_left
               ·go_simp
                rfl
               refine hK.out _ _ ⟨((cell_far (p := ⟨gb399, _, none⟩) NB385_399.out _).trans (hHeld.1)), ((cell_far (p := ⟨gb399, _, none⟩) NB386_399.out _).trans (hHeld.2))⟩ (fun hHeld => ?_)
               clear hK K
               refine pure_ (i := 12) (N := some 11) (v := ?_) (a' := ?_) #[t_,t_,t_,t_,t_,t_,t_,t_,t_,t_,t_,t_,t_] rfl rfl (any_of HT_.out (by kernel_rfl)) (fun _ _ _ h => h) (Or.inl ⟨by rfl, ?_⟩) ?_ ?_
               rotate_left
               ·intro w'
                go_simp
                with_reducible rfl
               rotate_left
               ·simp only [Act.put, List.setIfInBounds_toArray, List.set_cons_zero, List.set_cons_succ, i64_w, i32_w]
                rfl
               refine done_ (done_of HT_.out (by kernel_rfl)) ?_
               have hnb71 := NB385_399.out
               have hnc71 := NB399_385.out
               have hcz72_0 : w68.cell? ⟨gb385, 0, none⟩ = some (.slice A0_0 l0_0.length c0_0) := (blk_cell BK385.out 0).trans rfl
               have hfz72_0 := blk_frozen BK385.out 0
               try go_wp2_with (first | ((with_reducible refine gate_callee (f := 48) rfl ?_); refine goesL_ (some 42) rfl rfl Try.func48 (by kernel_rfl) rfl #[.agg #[.slice A0_0 l0_0.length c0_0]] rfl (by (try simp only [List.map_toArray, List.map_cons, List.map_nil]); first | done | rfl | (simp only [List.length_drop, List.length_take]; rfl)) ?_; (with_reducible refine (laws_toSemigroup.calls k _ _ l0_0 t400 _ ?side1 ?side2 A24.out).mono ?_); (case side1 => exact Kd.C_below HR0_0.out (bl_ HB.out)); (case side2 => exact HC0_0.out); rintro e w73 ⟨v401, rfl, ho0, hb⟩; refine ⟨_, rfl, ?_⟩; have n0_ := Aside0.mk (Kd.R_elder' (by (with_reducible repeat (first | apply Kd.R_alloc | apply Kd.R_drewN | apply Kd.R_drew)); exact (Kd.R_mono (Kd.R_far (p := ⟨gb399, 0, none⟩) (Kd.R_types HO391.out BK399.out (by decide)) (fun _ hk => hk.2) (.slice Ao69 t395.length co69)) (fun _ h_ => h_.1))) (Kd.R_base ho0) hb); have n1_ := Aside0.mk (Kd.R_elder' (by (with_reducible repeat (first | apply Kd.R_alloc | apply Kd.R_drewN | apply Kd.R_drew)); exact (Kd.R_mono (Kd.R_far (p := ⟨gb399, 0, none⟩) (Kd.R_types HO394.out BK399.out (by decide)) (fun _ hk => hk.2) (.slice Ao69 t395.length co69)) (fun _ h_ => h_.1))) (Kd.R_base ho0) hb); have n2_ := Aside0.mk (Kd.R_elder' (by (with_reducible repeat (first | apply Kd.R_alloc | apply Kd.R_drewN | apply Kd.R_drew)); exact (Kd.R_mono (Kd.R_far (p := ⟨gb399, 0, none⟩) (Kd.R_types HO397.out BK399.out (by decide)) (fun _ hk => hk.2) (.slice Ao69 t395.length co69)) (fun _ h_ => h_.1))) (Kd.R_base ho0) hb); have n3_ := Aside0.mk (Kd.R_lower (Kd.R_new' (Kd.R_new' (Kd.R_new' ho0 (Kd.R_lt (by (with_reducible repeat (first | apply Kd.R_alloc | apply Kd.R_drewN | apply Kd.R_drew)); exact (Kd.R_mono (Kd.R_far (p := ⟨gb399, 0, none⟩) (Kd.R_types HO391.out BK399.out (by decide)) (fun _ hk => hk.2) (.slice Ao69 t395.length co69)) (fun _ h_ => h_.1))))) (Kd.R_lt (by (with_reducible repeat (first | apply Kd.R_alloc | apply Kd.R_drewN | apply Kd.R_drew)); exact (Kd.R_mono (Kd.R_far (p := ⟨gb399, 0, none⟩) (Kd.R_types HO394.out BK399.out (by decide)) (fun _ hk => hk.2) (.slice Ao69 t395.length co69)) (fun _ h_ => h_.1))))) (Kd.R_lt (by (with_reducible repeat (first | apply Kd.R_alloc | apply Kd.R_drewN | apply Kd.R_drew)); exact (Kd.R_mono (Kd.R_far (p := ⟨gb399, 0, none⟩) (Kd.R_types HO397.out BK399.out (by decide)) (fun _ hk => hk.2) (.slice Ao69 t395.length co69)) (fun _ h_ => h_.1))))) (below_size (bl_ HB.out))); have n4_ := Aside0.mk (blk_below (g := gb385) (o := .cells #[.slice A0_0 l0_0.length c0_0] 46 (0, 0)) (by (with_reducible repeat (first | refine blk_drewN ?_ _ | refine blk_drew ?_ | refine blk_alloc ?_ _)); refine blk_far ?_ NB385_399.out _; (with_reducible repeat (first | refine blk_drewN ?_ _ | refine blk_drew ?_ | refine blk_alloc ?_ _)); exact BK385.out) hb); have n5_ := Aside0.mk (blk_below (g := gb386) (o := .cells #[.slice A1_0 l1_0.length c1_0] 46 (0, 0)) (by (with_reducible repeat (first | refine blk_drewN ?_ _ | refine blk_drew ?_ | refine blk_alloc ?_ _)); refine blk_far ?_ NB386_399.out _; (with_reducible repeat (first | refine blk_drewN ?_ _ | refine blk_drew ?_ | refine blk_alloc ?_ _)); exact BK386.out) hb); have n6_ := Aside0.mk (blk_below (g := gb399) (o := .cells #[.slice Ao69 t395.length co69] 41 (0, 0)) (by (with_reducible repeat (first | refine blk_drewN ?_ _ | refine blk_drew ?_ | refine blk_alloc ?_ _)); refine blk_put (cs := #[.slice none 0 0]) ?_ 0 _ rfl; (with_reducible repeat (first | refine blk_drewN ?_ _ | refine blk_drew ?_ | refine blk_alloc ?_ _)); exact BK399.out) hb); have n7_ := Aside0.mk (below_step (bl_ HB.out) hb); clear HO391; clear HO394; clear HO397; clear BK385; clear BK386; clear BK399; clear HB; have HO391 := n0_; have HO394 := n1_; have HO397 := n2_; have HO402 := n3_; have BK385 := n4_; have BK386 := n5_; have BK399 := n6_; have HB := n7_; clear n0_ n1_ n2_ n3_ n4_ n5_ n6_ n7_; (try clear hb); (try clear hb2); (try clear hk); (try clear hi); (try clear ho0)) | ((with_reducible refine gate_dst (N := 12) rfl ?_); refine box_event ?hg (N := 12) ?hd (cs := #[.slice none 0 0]) (t := 41) ?hr ?_; (case hd => rfl); (case hg => rfl); (case hr => first | (go_simp; done) | (go_simp; rfl)); intro gb403 hg w74 hbox hb; have n0_ := Aside0.mk (Kd.R_below (kr_ HO391.out) hb); have n1_ := Aside0.mk (Kd.R_below (kr_ HO394.out) hb); have n2_ := Aside0.mk (Kd.R_below (kr_ HO397.out) hb); have n3_ := Aside0.mk (Kd.R_below (kr_ HO402.out) hb); have n4_ := Aside0.mk (blk_below (bk_ BK385.out) hb); have n5_ := Aside0.mk (blk_below (bk_ BK386.out) hb); have n6_ := Aside0.mk (blk_below (bk_ BK399.out) hb); have n7_ := Aside0.mk (below_step (bl_ HB.out) hb); have n8_ := Aside0.mk (hbox); have n9_ := Aside0.mk ((by rw [hg]; exact (below_size (bl_ HB.out)) : w.heap.size ≤ gb403)); have n10_ := Aside0.mk ((by rw [hg]; exact (below_size (bl_ HB.out)) : w.heap.size ≤ gb403)); have n11_ := Aside0.mk ((by rw [hg]; exact Nat.ne_of_lt (blk_lt (bk_ BK385.out)) : gb385 ≠ gb403)); have n12_ := Aside0.mk ((by rw [hg]; exact Nat.ne_of_gt (blk_lt (bk_ BK385.out)) : gb403 ≠ gb385)); have n13_ := Aside0.mk ((by rw [hg]; exact Nat.ne_of_lt (blk_lt (bk_ BK386.out)) : gb386 ≠ gb403)); have n14_ := Aside0.mk ((by rw [hg]; exact Nat.ne_of_gt (blk_lt (bk_ BK386.out)) : gb403 ≠ gb386)); have n15_ := Aside0.mk ((by rw [hg]; exact Nat.ne_of_lt (blk_lt (bk_ BK399.out)) : gb399 ≠ gb403)); have n16_ := Aside0.mk ((by rw [hg]; exact Nat.ne_of_gt (blk_lt (bk_ BK399.out)) : gb403 ≠ gb399)); clear HO391; clear HO394; clear HO397; clear HO402; clear BK385; clear BK386; clear BK399; clear HB; have HO391 := n0_; have HO394 := n1_; have HO397 := n2_; have HO402 := n3_; have BK385 := n4_; have BK386 := n5_; have BK399 := n6_; have HB := n7_; have BK403 := n8_; have GW403 := n9_; have GE403 := n10_; have NB385_403 := n11_; have NB403_385 := n12_; have NB386_403 := n13_; have NB403_386 := n14_; have NB399_403 := n15_; have NB403_399 := n16_; clear n0_ n1_ n2_ n3_ n4_ n5_ n6_ n7_ n8_ n9_ n10_ n11_ n12_ n13_ n14_ n15_ n16_; clear hb hbox hg; obtain ⟨Ao75, co75, eo75⟩ := Kd.R_slice HO402.out; subst eo75; have hnb76 := NB403_385.out; have hnc76 := NB385_403.out; have hnb77 := NB403_386.out; have hnc77 := NB386_403.out; have hnb78 := NB403_399.out; have hnc78 := NB399_403.out; have hcz79_0 : w74.cell? ⟨gb403, 0, none⟩ = some (.slice none 0 0) := (blk_cell BK403.out 0).trans rfl; have hfz79_0 := blk_frozen BK403.out 0; have hnb80 := NB386_399.out; have hnc80 := NB399_386.out; have hcz81_0 : w74.cell? ⟨gb386, 0, none⟩ = some (.slice A1_0 l1_0.length c1_0) := (blk_cell BK386.out 0).trans rfl; have hfz81_0 := blk_frozen BK386.out 0) | ((with_reducible refine gate_callee (f := 48) rfl ?_); refine goesL_ (some 44) rfl rfl Try.func48 (by kernel_rfl) rfl #[.agg #[.slice A1_0 l1_0.length c1_0]] rfl (by (try simp only [List.map_toArray, List.map_cons, List.map_nil]); first | done | rfl | (simp only [List.length_drop, List.length_take]; rfl)) ?_; (with_reducible refine (laws_toSemigroup.calls k _ _ l1_0 t404 _ ?side1 ?side2 A25.out).mono ?_); (case side1 => exact Kd.C_below HR1_0.out (bl_ HB.out)); (case side2 => exact HC1_0.out); rintro e w82 ⟨v405, rfl, ho0, hb⟩; refine ⟨_, rfl, ?_⟩; have n0_ := Aside0.mk (Kd.R_elder' (by (with_reducible repeat (first | apply Kd.R_alloc | apply Kd.R_drewN | apply Kd.R_drew)); exact (Kd.R_mono (Kd.R_far (p := ⟨gb403, 0, none⟩) (Kd.R_types HO391.out BK403.out (by decide)) (fun _ hk => hk.2) (.slice Ao75 t400.length co75)) (fun _ h_ => h_.1))) (Kd.R_base ho0) hb); have n1_ := Aside0.mk (Kd.R_elder' (by (with_reducible repeat (first | apply Kd.R_alloc | apply Kd.R_drewN | apply Kd.R_drew)); exact (Kd.R_mono (Kd.R_far (p := ⟨gb403, 0, none⟩) (Kd.R_types HO394.out BK403.out (by decide)) (fun _ hk => hk.2) (.slice Ao75 t400.length co75)) (fun _ h_ => h_.1))) (Kd.R_base ho0) hb); have n2_ := Aside0.mk (Kd.R_elder' (by (with_reducible repeat (first | apply Kd.R_alloc | apply Kd.R_drewN | apply Kd.R_drew)); exact (Kd.R_mono (Kd.R_far (p := ⟨gb403, 0, none⟩) (Kd.R_types HO397.out BK403.out (by decide)) (fun _ hk => hk.2) (.slice Ao75 t400.length co75)) (fun _ h_ => h_.1))) (Kd.R_base ho0) hb); have n3_ := Aside0.mk (Kd.R_elder' (by (with_reducible repeat (first | apply Kd.R_alloc | apply Kd.R_drewN | apply Kd.R_drew)); exact (Kd.R_mono (Kd.R_far (p := ⟨gb403, 0, none⟩) (Kd.R_types HO402.out BK403.out (by decide)) (fun _ hk => hk.2) (.slice Ao75 t400.length co75)) (fun _ h_ => h_.1))) (Kd.R_base ho0) hb); have n4_ := Aside0.mk (Kd.R_lower (Kd.R_new' (Kd.R_new' (Kd.R_new' (Kd.R_new' ho0 (Kd.R_lt (by (with_reducible repeat (first | apply Kd.R_alloc | apply Kd.R_drewN | apply Kd.R_drew)); exact (Kd.R_mono (Kd.R_far (p := ⟨gb403, 0, none⟩) (Kd.R_types HO391.out BK403.out (by decide)) (fun _ hk => hk.2) (.slice Ao75 t400.length co75)) (fun _ h_ => h_.1))))) (Kd.R_lt (by (with_reducible repeat (first | apply Kd.R_alloc | apply Kd.R_drewN | apply Kd.R_drew)); exact (Kd.R_mono (Kd.R_far (p := ⟨gb403, 0, none⟩) (Kd.R_types HO394.out BK403.out (by decide)) (fun _ hk => hk.2) (.slice Ao75 t400.length co75)) (fun _ h_ => h_.1))))) (Kd.R_lt (by (with_reducible repeat (first | apply Kd.R_alloc | apply Kd.R_drewN | apply Kd.R_drew)); exact (Kd.R_mono (Kd.R_far (p := ⟨gb403, 0, none⟩) (Kd.R_types HO397.out BK403.out (by decide)) (fun _ hk => hk.2) (.slice Ao75 t400.length co75)) (fun _ h_ => h_.1))))) (Kd.R_lt (by (with_reducible repeat (first | apply Kd.R_alloc | apply Kd.R_drewN | apply Kd.R_drew)); exact (Kd.R_mono (Kd.R_far (p := ⟨gb403, 0, none⟩) (Kd.R_types HO402.out BK403.out (by decide)) (fun _ hk => hk.2) (.slice Ao75 t400.length co75)) (fun _ h_ => h_.1))))) (below_size (bl_ HB.out))); have n5_ := Aside0.mk (blk_below (g := gb385) (o := .cells #[.slice A0_0 l0_0.length c0_0] 46 (0, 0)) (by (with_reducible repeat (first | refine blk_drewN ?_ _ | refine blk_drew ?_ | refine blk_alloc ?_ _)); refine blk_far ?_ NB385_403.out _; (with_reducible repeat (first | refine blk_drewN ?_ _ | refine blk_drew ?_ | refine blk_alloc ?_ _)); exact BK385.out) hb); have n6_ := Aside0.mk (blk_below (g := gb386) (o := .cells #[.slice A1_0 l1_0.length c1_0] 46 (0, 0)) (by (with_reducible repeat (first | refine blk_drewN ?_ _ | refine blk_drew ?_ | refine blk_alloc ?_ _)); refine blk_far ?_ NB386_403.out _; (with_reducible repeat (first | refine blk_drewN ?_ _ | refine blk_drew ?_ | refine blk_alloc ?_ _)); exact BK386.out) hb); have n7_ := Aside0.mk (blk_below (g := gb399) (o := .cells #[.slice Ao69 t395.length co69] 41 (0, 0)) (by (with_reducible repeat (first | refine blk_drewN ?_ _ | refine blk_drew ?_ | refine blk_alloc ?_ _)); refine blk_far ?_ NB399_403.out _; (with_reducible repeat (first | refine blk_drewN ?_ _ | refine blk_drew ?_ | refine blk_alloc ?_ _)); exact BK399.out) hb); have n8_ := Aside0.mk (blk_below (g := gb403) (o := .cells #[.slice Ao75 t400.length co75] 41 (0, 0)) (by (with_reducible repeat (first | refine blk_drewN ?_ _ | refine blk_drew ?_ | refine blk_alloc ?_ _)); refine blk_put (cs := #[.slice none 0 0]) ?_ 0 _ rfl; (with_reducible repeat (first | refine blk_drewN ?_ _ | refine blk_drew ?_ | refine blk_alloc ?_ _)); exact BK403.out) hb); have n9_ := Aside0.mk (below_step (bl_ HB.out) hb); clear HO391; clear HO394; clear HO397; clear HO402; clear BK385; clear BK386; clear BK399; clear BK403; clear HB; have HO391 := n0_; have HO394 := n1_; have HO397 := n2_; have HO402 := n3_; have HO406 := n4_; have BK385 := n5_; have BK386 := n6_; have BK399 := n7_; have BK403 := n8_; have HB := n9_; clear n0_ n1_ n2_ n3_ n4_ n5_ n6_ n7_ n8_ n9_; (try clear hb); (try clear hb2); (try clear hk); (try clear hi); (try clear ho0)) | ((with_reducible refine gate_dst (N := 13) rfl ?_); refine box_event ?hg (N := 13) ?hd (cs := #[.slice none 0 0]) (t := 41) ?hr ?_; (case hd => rfl); (case hg => rfl); (case hr => first | (go_simp; done) | (go_simp; rfl)); intro gb407 hg w83 hbox hb; have n0_ := Aside0.mk (Kd.R_below (kr_ HO391.out) hb); have n1_ := Aside0.mk (Kd.R_below (kr_ HO394.out) hb); have n2_ := Aside0.mk (Kd.R_below (kr_ HO397.out) hb); have n3_ := Aside0.mk (Kd.R_below (kr_ HO402.out) hb); have n4_ := Aside0.mk (Kd.R_below (kr_ HO406.out) hb); have n5_ := Aside0.mk (blk_below (bk_ BK385.out) hb); have n6_ := Aside0.mk (blk_below (bk_ BK386.out) hb); have n7_ := Aside0.mk (blk_below (bk_ BK399.out) hb); have n8_ := Aside0.mk (blk_below (bk_ BK403.out) hb); have n9_ := Aside0.mk (below_step (bl_ HB.out) hb); have n10_ := Aside0.mk (hbox); have n11_ := Aside0.mk ((by rw [hg]; exact (below_size (bl_ HB.out)) : w.heap.size ≤ gb407)); have n12_ := Aside0.mk ((by rw [hg]; exact (below_size (bl_ HB.out)) : w.heap.size ≤ gb407)); have n13_ := Aside0.mk ((by rw [hg]; exact Nat.ne_of_lt (blk_lt (bk_ BK385.out)) : gb385 ≠ gb407)); have n14_ := Aside0.mk ((by rw [hg]; exact Nat.ne_of_gt (blk_lt (bk_ BK385.out)) : gb407 ≠ gb385)); have n15_ := Aside0.mk ((by rw [hg]; exact Nat.ne_of_lt (blk_lt (bk_ BK386.out)) : gb386 ≠ gb407)); have n16_ := Aside0.mk ((by rw [hg]; exact Nat.ne_of_gt (blk_lt (bk_ BK386.out)) : gb407 ≠ gb386)); have n17_ := Aside0.mk ((by rw [hg]; exact Nat.ne_of_lt (blk_lt (bk_ BK399.out)) : gb399 ≠ gb407)); have n18_ := Aside0.mk ((by rw [hg]; exact Nat.ne_of_gt (blk_lt (bk_ BK399.out)) : gb407 ≠ gb399)); have n19_ := Aside0.mk ((by rw [hg]; exact Nat.ne_of_lt (blk_lt (bk_ BK403.out)) : gb403 ≠ gb407)); have n20_ := Aside0.mk ((by rw [hg]; exact Nat.ne_of_gt (blk_lt (bk_ BK403.out)) : gb407 ≠ gb403)); clear HO391; clear HO394; clear HO397; clear HO402; clear HO406; clear BK385; clear BK386; clear BK399; clear BK403; clear HB; have HO391 := n0_; have HO394 := n1_; have HO397 := n2_; have HO402 := n3_; have HO406 := n4_; have BK385 := n5_; have BK386 := n6_; have BK399 := n7_; have BK403 := n8_; have HB := n9_; have BK407 := n10_; have GW407 := n11_; have GE407 := n12_; have NB385_407 := n13_; have NB407_385 := n14_; have NB386_407 := n15_; have NB407_386 := n16_; have NB399_407 := n17_; have NB407_399 := n18_; have NB403_407 := n19_; have NB407_403 := n20_; clear n0_ n1_ n2_ n3_ n4_ n5_ n6_ n7_ n8_ n9_ n10_ n11_ n12_ n13_ n14_ n15_ n16_ n17_ n18_ n19_ n20_; clear hb hbox hg; obtain ⟨Ao84, co84, eo84⟩ := Kd.R_slice HO406.out; subst eo84; have hnb85 := NB407_385.out; have hnc85 := NB385_407.out; have hnb86 := NB407_386.out; have hnc86 := NB386_407.out; have hnb87 := NB407_399.out; have hnc87 := NB399_407.out; have hnb88 := NB407_403.out; have hnc88 := NB403_407.out; have hcz89_0 : w83.cell? ⟨gb407, 0, none⟩ = some (.slice none 0 0) := (blk_cell BK407.out 0).trans rfl; have hfz89_0 := blk_frozen BK407.out 0; have hcz90_0 : w83.cell? ⟨gb403, 0, none⟩ = some (.slice Ao75 t400.length co75) := (blk_cell BK403.out 0).trans rfl; have hfz90_0 := blk_frozen BK403.out 0) | ((with_reducible refine gate_callee (f := 56) rfl ?_); refine goesL_ (some 50) rfl rfl Try.func56 (by kernel_rfl) rfl #[.agg #[.slice Ao75 t400.length co75], .agg #[.slice Ao84 t404.length co84], .int .i64 a2, .int .i64 a3] rfl (by (try simp only [List.map_toArray, List.map_cons, List.map_nil]); first | done | rfl | (simp only [List.length_drop, List.length_take]; rfl)) ?_; (with_reducible refine (impl_GlueOf.calls k _ _ t400 _ _ t404 a2 a3 t408 t411 _ ?side1 ?side2 ?side3 ?side4 A26.out).mono ?_); (case side1 => refine (Kd.R_reads' (e := 3) (base := w.heap.size) (ok := fun k_ => ((((True ∧ some k_ ≠ (v390 : Value).ownBlock) ∧ some k_ ≠ (v393 : Value).ownBlock) ∧ some k_ ≠ (.slice Ao69 t395.length co69 : Value).ownBlock) ∧ some k_ ≠ (.slice Ao84 t404.length co84 : Value).ownBlock)) (n := t400.length) (c := co75) ?_).2.2; exact (by (with_reducible repeat (first | apply Kd.R_alloc | apply Kd.R_drewN | apply Kd.R_drew)); exact (Kd.R_mono (Kd.R_far (p := ⟨gb407, 0, none⟩) (Kd.R_types HO402.out BK407.out (by decide)) (fun _ hk => hk.2) (.slice Ao84 t404.length co84)) (fun _ h_ => h_.1)))); (case side2 => exact (Kd.R_reads' HO402.out).2.1); (case side3 => refine (Kd.R_reads' (e := 3) (base := w.heap.size) (ok := fun k_ => ((((True ∧ some k_ ≠ (v390 : Value).ownBlock) ∧ some k_ ≠ (v393 : Value).ownBlock) ∧ some k_ ≠ (.slice Ao69 t395.length co69 : Value).ownBlock) ∧ some k_ ≠ (.slice Ao75 t400.length co75 : Value).ownBlock)) (n := t404.length) (c := co84) ?_).2.2; exact (by (with_reducible repeat (first | apply Kd.R_alloc | apply Kd.R_drewN | apply Kd.R_drew)); exact (Kd.R_mono (Kd.R_far (p := ⟨gb407, 0, none⟩) (Kd.R_types HO406.out BK407.out (by decide)) (fun _ hk => hk.2) (.slice Ao84 t404.length co84)) (fun _ h_ => h_.1)))); (case side4 => exact (Kd.R_reads' HO406.out).2.1); rintro e w91 ⟨v409, rfl, ho0, hb⟩; refine ⟨_, rfl, ?_⟩; have n0_ := Aside0.mk (Kd.R_elder' (by (with_reducible repeat (first | apply Kd.R_alloc | apply Kd.R_drewN | apply Kd.R_drew)); exact (Kd.R_mono (Kd.R_far (p := ⟨gb407, 0, none⟩) (Kd.R_types HO391.out BK407.out (by decide)) (fun _ hk => hk.2) (.slice Ao84 t404.length co84)) (fun _ h_ => h_.1))) (Kd.R_base ho0) hb); have n1_ := Aside0.mk (Kd.R_elder' (by (with_reducible repeat (first | apply Kd.R_alloc | apply Kd.R_drewN | apply Kd.R_drew)); exact (Kd.R_mono (Kd.R_far (p := ⟨gb407, 0, none⟩) (Kd.R_types HO394.out BK407.out (by decide)) (fun _ hk => hk.2) (.slice Ao84 t404.length co84)) (fun _ h_ => h_.1))) (Kd.R_base ho0) hb); have n2_ := Aside0.mk (Kd.R_elder' (by (with_reducible repeat (first | apply Kd.R_alloc | apply Kd.R_drewN | apply Kd.R_drew)); exact (Kd.R_mono (Kd.R_far (p := ⟨gb407, 0, none⟩) (Kd.R_types HO397.out BK407.out (by decide)) (fun _ hk => hk.2) (.slice Ao84 t404.length co84)) (fun _ h_ => h_.1))) (Kd.R_base ho0) hb); have n3_ := Aside0.mk (Kd.R_elder' (by (with_reducible repeat (first | apply Kd.R_alloc | apply Kd.R_drewN | apply Kd.R_drew)); exact (Kd.R_mono (Kd.R_far (p := ⟨gb407, 0, none⟩) (Kd.R_types HO402.out BK407.out (by decide)) (fun _ hk => hk.2) (.slice Ao84 t404.length co84)) (fun _ h_ => h_.1))) (Kd.R_base ho0) hb); have n4_ := Aside0.mk (Kd.R_elder' (by (with_reducible repeat (first | apply Kd.R_alloc | apply Kd.R_drewN | apply Kd.R_drew)); exact (Kd.R_mono (Kd.R_far (p := ⟨gb407, 0, none⟩) (Kd.R_types HO406.out BK407.out (by decide)) (fun _ hk => hk.2) (.slice Ao84 t404.length co84)) (fun _ h_ => h_.1))) (Kd.R_base ho0) hb); have n5_ := Aside0.mk (Kd.R_lower (Kd.R_new' (Kd.R_new' (Kd.R_new' (Kd.R_new' (Kd.R_new' ho0 (Kd.R_lt (by (with_reducible repeat (first | apply Kd.R_alloc | apply Kd.R_drewN | apply Kd.R_drew)); exact (Kd.R_mono (Kd.R_far (p := ⟨gb407, 0, none⟩) (Kd.R_types HO391.out BK407.out (by decide)) (fun _ hk => hk.2) (.slice Ao84 t404.length co84)) (fun _ h_ => h_.1))))) (Kd.R_lt (by (with_reducible repeat (first | apply Kd.R_alloc | apply Kd.R_drewN | apply Kd.R_drew)); exact (Kd.R_mono (Kd.R_far (p := ⟨gb407, 0, none⟩) (Kd.R_types HO394.out BK407.out (by decide)) (fun _ hk => hk.2) (.slice Ao84 t404.length co84)) (fun _ h_ => h_.1))))) (Kd.R_lt (by (with_reducible repeat (first | apply Kd.R_alloc | apply Kd.R_drewN | apply Kd.R_drew)); exact (Kd.R_mono (Kd.R_far (p := ⟨gb407, 0, none⟩) (Kd.R_types HO397.out BK407.out (by decide)) (fun _ hk => hk.2) (.slice Ao84 t404.length co84)) (fun _ h_ => h_.1))))) (Kd.R_lt (by (with_reducible repeat (first | apply Kd.R_alloc | apply Kd.R_drewN | apply Kd.R_drew)); exact (Kd.R_mono (Kd.R_far (p := ⟨gb407, 0, none⟩) (Kd.R_types HO402.out BK407.out (by decide)) (fun _ hk => hk.2) (.slice Ao84 t404.length co84)) (fun _ h_ => h_.1))))) (Kd.R_lt (by (with_reducible repeat (first | apply Kd.R_alloc | apply Kd.R_drewN | apply Kd.R_drew)); exact (Kd.R_mono (Kd.R_far (p := ⟨gb407, 0, none⟩) (Kd.R_types HO406.out BK407.out (by decide)) (fun _ hk => hk.2) (.slice Ao84 t404.length co84)) (fun _ h_ => h_.1))))) (below_size (bl_ HB.out))); have n6_ := Aside0.mk (blk_below (g := gb385) (o := .cells #[.slice A0_0 l0_0.length c0_0] 46 (0, 0)) (by (with_reducible repeat (first | refine blk_drewN ?_ _ | refine blk_drew ?_ | refine blk_alloc ?_ _)); refine blk_far ?_ NB385_407.out _; (with_reducible repeat (first | refine blk_drewN ?_ _ | refine blk_drew ?_ | refine blk_alloc ?_ _)); exact BK385.out) hb); have n7_ := Aside0.mk (blk_below (g := gb386) (o := .cells #[.slice A1_0 l1_0.length c1_0] 46 (0, 0)) (by (with_reducible repeat (first | refine blk_drewN ?_ _ | refine blk_drew ?_ | refine blk_alloc ?_ _)); refine blk_far ?_ NB386_407.out _; (with_reducible repeat (first | refine blk_drewN ?_ _ | refine blk_drew ?_ | refine blk_alloc ?_ _)); exact BK386.out) hb); have n8_ := Aside0.mk (blk_below (g := gb399) (o := .cells #[.slice Ao69 t395.length co69] 41 (0, 0)) (by (with_reducible repeat (first | refine blk_drewN ?_ _ | refine blk_drew ?_ | refine blk_alloc ?_ _)); refine blk_far ?_ NB399_407.out _; (with_reducible repeat (first | refine blk_drewN ?_ _ | refine blk_drew ?_ | refine blk_alloc ?_ _)); exact BK399.out) hb); have n9_ := Aside0.mk (blk_below (g := gb403) (o := .cells #[.slice Ao75 t400.length co75] 41 (0, 0)) (by (with_reducible repeat (first | refine blk_drewN ?_ _ | refine blk_drew ?_ | refine blk_alloc ?_ _)); refine blk_far ?_ NB403_407.out _; (with_reducible repeat (first | refine blk_drewN ?_ _ | refine blk_drew ?_ | refine blk_alloc ?_ _)); exact BK403.out) hb); have n10_ := Aside0.mk (blk_below (g := gb407) (o := .cells #[.slice Ao84 t404.length co84] 41 (0, 0)) (by (with_reducible repeat (first | refine blk_drewN ?_ _ | refine blk_drew ?_ | refine blk_alloc ?_ _)); refine blk_put (cs := #[.slice none 0 0]) ?_ 0 _ rfl; (with_reducible repeat (first | refine blk_drewN ?_ _ | refine blk_drew ?_ | refine blk_alloc ?_ _)); exact BK407.out) hb); have n11_ := Aside0.mk (below_step (bl_ HB.out) hb); clear HO391; clear HO394; clear HO397; clear HO402; clear HO406; clear BK385; clear BK386; clear BK399; clear BK403; clear BK407; clear HB; have HO391 := n0_; have HO394 := n1_; have HO397 := n2_; have HO402 := n3_; have HO406 := n4_; have HO410 := n5_; have BK385 := n6_; have BK386 := n7_; have BK399 := n8_; have BK403 := n9_; have BK407 := n10_; have HB := n11_; clear n0_ n1_ n2_ n3_ n4_ n5_ n6_ n7_ n8_ n9_ n10_ n11_; (try clear hb); (try clear hb2); (try clear hk); (try clear hi); (try clear ho0)) | ((with_reducible refine gate_dst (N := 14) rfl ?_); refine box_event ?hg (N := 14) ?hd (cs := #[.slice none 0 0]) (t := 41) ?hr ?_; (case hd => rfl); (case hg => rfl); (case hr => first | (go_simp; done) | (go_simp; rfl)); intro gb412 hg w92 hbox hb; have n0_ := Aside0.mk (Kd.R_below (kr_ HO391.out) hb); have n1_ := Aside0.mk (Kd.R_below (kr_ HO394.out) hb); have n2_ := Aside0.mk (Kd.R_below (kr_ HO397.out) hb); have n3_ := Aside0.mk (Kd.R_below (kr_ HO402.out) hb); have n4_ := Aside0.mk (Kd.R_below (kr_ HO406.out) hb); have n5_ := Aside0.mk (Kd.R_below (kr_ HO410.out) hb); have n6_ := Aside0.mk (blk_below (bk_ BK385.out) hb); have n7_ := Aside0.mk (blk_below (bk_ BK386.out) hb); have n8_ := Aside0.mk (blk_below (bk_ BK399.out) hb); have n9_ := Aside0.mk (blk_below (bk_ BK403.out) hb); have n10_ := Aside0.mk (blk_below (bk_ BK407.out) hb); have n11_ := Aside0.mk (below_step (bl_ HB.out) hb); have n12_ := Aside0.mk (hbox); have n13_ := Aside0.mk ((by rw [hg]; exact (below_size (bl_ HB.out)) : w.heap.size ≤ gb412)); have n14_ := Aside0.mk ((by rw [hg]; exact (below_size (bl_ HB.out)) : w.heap.size ≤ gb412)); have n15_ := Aside0.mk ((by rw [hg]; exact Nat.ne_of_lt (blk_lt (bk_ BK385.out)) : gb385 ≠ gb412)); have n16_ := Aside0.mk ((by rw [hg]; exact Nat.ne_of_gt (blk_lt (bk_ BK385.out)) : gb412 ≠ gb385)); have n17_ := Aside0.mk ((by rw [hg]; exact Nat.ne_of_lt (blk_lt (bk_ BK386.out)) : gb386 ≠ gb412)); have n18_ := Aside0.mk ((by rw [hg]; exact Nat.ne_of_gt (blk_lt (bk_ BK386.out)) : gb412 ≠ gb386)); have n19_ := Aside0.mk ((by rw [hg]; exact Nat.ne_of_lt (blk_lt (bk_ BK399.out)) : gb399 ≠ gb412)); have n20_ := Aside0.mk ((by rw [hg]; exact Nat.ne_of_gt (blk_lt (bk_ BK399.out)) : gb412 ≠ gb399)); have n21_ := Aside0.mk ((by rw [hg]; exact Nat.ne_of_lt (blk_lt (bk_ BK403.out)) : gb403 ≠ gb412)); have n22_ := Aside0.mk ((by rw [hg]; exact Nat.ne_of_gt (blk_lt (bk_ BK403.out)) : gb412 ≠ gb403)); have n23_ := Aside0.mk ((by rw [hg]; exact Nat.ne_of_lt (blk_lt (bk_ BK407.out)) : gb407 ≠ gb412)); have n24_ := Aside0.mk ((by rw [hg]; exact Nat.ne_of_gt (blk_lt (bk_ BK407.out)) : gb412 ≠ gb407)); clear HO391; clear HO394; clear HO397; clear HO402; clear HO406; clear HO410; clear BK385; clear BK386; clear BK399; clear BK403; clear BK407; clear HB; have HO391 := n0_; have HO394 := n1_; have HO397 := n2_; have HO402 := n3_; have HO406 := n4_; have HO410 := n5_; have BK385 := n6_; have BK386 := n7_; have BK399 := n8_; have BK403 := n9_; have BK407 := n10_; have HB := n11_; have BK412 := n12_; have GW412 := n13_; have GE412 := n14_; have NB385_412 := n15_; have NB412_385 := n16_; have NB386_412 := n17_; have NB412_386 := n18_; have NB399_412 := n19_; have NB412_399 := n20_; have NB403_412 := n21_; have NB412_403 := n22_; have NB407_412 := n23_; have NB412_407 := n24_; clear n0_ n1_ n2_ n3_ n4_ n5_ n6_ n7_ n8_ n9_ n10_ n11_ n12_ n13_ n14_ n15_ n16_ n17_ n18_ n19_ n20_ n21_ n22_ n23_ n24_; clear hb hbox hg; obtain ⟨Ao93, co93, eo93⟩ := Kd.R_slice HO410.out; subst eo93; have hnb94 := NB412_385.out; have hnc94 := NB385_412.out; have hnb95 := NB412_386.out; have hnc95 := NB386_412.out; have hnb96 := NB412_399.out; have hnc96 := NB399_412.out; have hnb97 := NB412_403.out; have hnc97 := NB403_412.out; have hnb98 := NB412_407.out; have hnc98 := NB407_412.out; have hcz99_0 : w92.cell? ⟨gb412, 0, none⟩ = some (.slice none 0 0) := (blk_cell BK412.out 0).trans rfl; have hfz99_0 := blk_frozen BK412.out 0; have hcz100_0 : w92.cell? ⟨gb399, 0, none⟩ = some (.slice Ao69 t395.length co69) := (blk_cell BK399.out 0).trans rfl; have hfz100_0 := blk_frozen BK399.out 0) | ((with_reducible refine gate_callee (f := 50) rfl ?_); refine goesL_ (some 55) rfl rfl Try.func50 (by kernel_rfl) rfl #[.agg #[.slice Ao93 t408.length co93], .agg #[.slice Ao69 t395.length co69]] rfl (by (try simp only [List.map_toArray, List.map_cons, List.map_nil]); first | done | rfl | (simp only [List.length_drop, List.length_take]; rfl)) ?_; (with_reducible refine (laws_eqSemigroup.calls k _ _ t408 _ _ t395 true _ ?side1 ?side2 ?side3 ?side4 A27.out).mono ?_); (case side1 => refine (Kd.R_reads' (e := 3) (base := w.heap.size) (ok := fun k_ => (((((True ∧ some k_ ≠ (v390 : Value).ownBlock) ∧ some k_ ≠ (v393 : Value).ownBlock) ∧ some k_ ≠ (.slice Ao69 t395.length co69 : Value).ownBlock) ∧ some k_ ≠ (.slice Ao75 t400.length co75 : Value).ownBlock) ∧ some k_ ≠ (.slice Ao84 t404.length co84 : Value).ownBlock)) (n := t408.length) (c := co93) ?_).2.2; exact (by (with_reducible repeat (first | apply Kd.R_alloc | apply Kd.R_drewN | apply Kd.R_drew)); exact (Kd.R_mono (Kd.R_far (p := ⟨gb412, 0, none⟩) (Kd.R_types HO410.out BK412.out (by decide)) (fun _ hk => hk.2) (.slice Ao93 t408.length co93)) (fun _ h_ => h_.1)))); (case side2 => exact (Kd.R_reads' HO410.out).2.1); (case side3 => refine (Kd.R_reads' (e := 3) (base := w.heap.size) (ok := fun k_ => ((((some k_ ≠ (v390 : Value).ownBlock ∧ some k_ ≠ (v393 : Value).ownBlock) ∧ some k_ ≠ (.slice Ao75 t400.length co75 : Value).ownBlock) ∧ some k_ ≠ (.slice Ao84 t404.length co84 : Value).ownBlock) ∧ some k_ ≠ (.slice Ao93 t408.length co93 : Value).ownBlock)) (n := t395.length) (c := co69) ?_).2.2; exact (by (with_reducible repeat (first | apply Kd.R_alloc | apply Kd.R_drewN | apply Kd.R_drew)); exact (Kd.R_mono (Kd.R_far (p := ⟨gb412, 0, none⟩) (Kd.R_types HO397.out BK412.out (by decide)) (fun _ hk => hk.2) (.slice Ao93 t408.length co93)) (fun _ h_ => h_.1)))); (case side4 => exact (Kd.R_reads' HO397.out).2.1); rintro e w101 ⟨rfl, hb⟩; refine ⟨_, rfl, ?_⟩; have n0_ := Aside0.mk (Kd.R_below (by (with_reducible repeat (first | apply Kd.R_alloc | apply Kd.R_drewN | apply Kd.R_drew)); exact (Kd.R_mono (Kd.R_far (p := ⟨gb412, 0, none⟩) (Kd.R_types HO391.out BK412.out (by decide)) (fun _ hk => hk.2) (.slice Ao93 t408.length co93)) (fun _ h_ => h_.1))) hb); have n1_ := Aside0.mk (Kd.R_below (by (with_reducible repeat (first | apply Kd.R_alloc | apply Kd.R_drewN | apply Kd.R_drew)); exact (Kd.R_mono (Kd.R_far (p := ⟨gb412, 0, none⟩) (Kd.R_types HO394.out BK412.out (by decide)) (fun _ hk => hk.2) (.slice Ao93 t408.length co93)) (fun _ h_ => h_.1))) hb); have n2_ := Aside0.mk (Kd.R_below (by (with_reducible repeat (first | apply Kd.R_alloc | apply Kd.R_drewN | apply Kd.R_drew)); exact (Kd.R_mono (Kd.R_far (p := ⟨gb412, 0, none⟩) (Kd.R_types HO397.out BK412.out (by decide)) (fun _ hk => hk.2) (.slice Ao93 t408.length co93)) (fun _ h_ => h_.1))) hb); have n3_ := Aside0.mk (Kd.R_below (by (with_reducible repeat (first | apply Kd.R_alloc | apply Kd.R_drewN | apply Kd.R_drew)); exact (Kd.R_mono (Kd.R_far (p := ⟨gb412, 0, none⟩) (Kd.R_types HO402.out BK412.out (by decide)) (fun _ hk => hk.2) (.slice Ao93 t408.length co93)) (fun _ h_ => h_.1))) hb); have n4_ := Aside0.mk (Kd.R_below (by (with_reducible repeat (first | apply Kd.R_alloc | apply Kd.R_drewN | apply Kd.R_drew)); exact (Kd.R_mono (Kd.R_far (p := ⟨gb412, 0, none⟩) (Kd.R_types HO406.out BK412.out (by decide)) (fun _ hk => hk.2) (.slice Ao93 t408.length co93)) (fun _ h_ => h_.1))) hb); have n5_ := Aside0.mk (Kd.R_below (by (with_reducible repeat (first | apply Kd.R_alloc | apply Kd.R_drewN | apply Kd.R_drew)); exact (Kd.R_mono (Kd.R_far (p := ⟨gb412, 0, none⟩) (Kd.R_types HO410.out BK412.out (by decide)) (fun _ hk => hk.2) (.slice Ao93 t408.length co93)) (fun _ h_ => h_.1))) hb); have n6_ := Aside0.mk (blk_below (g := gb385) (o := .cells #[.slice A0_0 l0_0.length c0_0] 46 (0, 0)) (by (with_reducible repeat (first | refine blk_drewN ?_ _ | refine blk_drew ?_ | refine blk_alloc ?_ _)); refine blk_far ?_ NB385_412.out _; (with_reducible repeat (first | refine blk_drewN ?_ _ | refine blk_drew ?_ | refine blk_alloc ?_ _)); exact BK385.out) hb); have n7_ := Aside0.mk (blk_below (g := gb386) (o := .cells #[.slice A1_0 l1_0.length c1_0] 46 (0, 0)) (by (with_reducible repeat (first | refine blk_drewN ?_ _ | refine blk_drew ?_ | refine blk_alloc ?_ _)); refine blk_far ?_ NB386_412.out _; (with_reducible repeat (first | refine blk_drewN ?_ _ | refine blk_drew ?_ | refine blk_alloc ?_ _)); exact BK386.out) hb); have n8_ := Aside0.mk (blk_below (g := gb399) (o := .cells #[.slice Ao69 t395.length co69] 41 (0, 0)) (by (with_reducible repeat (first | refine blk_drewN ?_ _ | refine blk_drew ?_ | refine blk_alloc ?_ _)); refine blk_far ?_ NB399_412.out _; (with_reducible repeat (first | refine blk_drewN ?_ _ | refine blk_drew ?_ | refine blk_alloc ?_ _)); exact BK399.out) hb); have n9_ := Aside0.mk (blk_below (g := gb403) (o := .cells #[.slice Ao75 t400.length co75] 41 (0, 0)) (by (with_reducible repeat (first | refine blk_drewN ?_ _ | refine blk_drew ?_ | refine blk_alloc ?_ _)); refine blk_far ?_ NB403_412.out _; (with_reducible repeat (first | refine blk_drewN ?_ _ | refine blk_drew ?_ | refine blk_alloc ?_ _)); exact BK403.out) hb); have n10_ := Aside0.mk (blk_below (g := gb407) (o := .cells #[.slice Ao84 t404.length co84] 41 (0, 0)) (by (with_reducible repeat (first | refine blk_drewN ?_ _ | refine blk_drew ?_ | refine blk_alloc ?_ _)); refine blk_far ?_ NB407_412.out _; (with_reducible repeat (first | refine blk_drewN ?_ _ | refine blk_drew ?_ | refine blk_alloc ?_ _)); exact BK407.out) hb); have n11_ := Aside0.mk (blk_below (g := gb412) (o := .cells #[.slice Ao93 t408.length co93] 41 (0, 0)) (by (with_reducible repeat (first | refine blk_drewN ?_ _ | refine blk_drew ?_ | refine blk_alloc ?_ _)); refine blk_put (cs := #[.slice none 0 0]) ?_ 0 _ rfl; (with_reducible repeat (first | refine blk_drewN ?_ _ | refine blk_drew ?_ | refine blk_alloc ?_ _)); exact BK412.out) hb); have n12_ := Aside0.mk (below_step (bl_ HB.out) hb); clear HO391; clear HO394; clear HO397; clear HO402; clear HO406; clear HO410; clear BK385; clear BK386; clear BK399; clear BK403; clear BK407; clear BK412; clear HB; have HO391 := n0_; have HO394 := n1_; have HO397 := n2_; have HO402 := n3_; have HO406 := n4_; have HO410 := n5_; have BK385 := n6_; have BK386 := n7_; have BK399 := n8_; have BK403 := n9_; have BK407 := n10_; have BK412 := n11_; have HB := n12_; clear n0_ n1_ n2_ n3_ n4_ n5_ n6_ n7_ n8_ n9_ n10_ n11_ n12_; (try clear hb); (try clear hb2); (try clear hk); (try clear hi)))
               have n0_ := Aside0.mk (Kd.R_drew HO391.out)
               have n1_ := Aside0.mk (Kd.R_drew HO394.out)
               have n2_ := Aside0.mk (Kd.R_drew HO397.out)
               have n3_ := Aside0.mk (Kd.R_drew HO402.out)
               have n4_ := Aside0.mk (Kd.R_drew HO406.out)
               have n5_ := Aside0.mk (Kd.R_drew HO410.out)
               have n6_ := Aside0.mk (blk_drew BK385.out)
               have n7_ := Aside0.mk (blk_drew BK386.out)
               have n8_ := Aside0.mk (blk_drew BK399.out)
               have n9_ := Aside0.mk (blk_drew BK403.out)
               have n10_ := Aside0.mk (blk_drew BK407.out)
               have n11_ := Aside0.mk (blk_drew BK412.out)
               have n12_ := Aside0.mk (below_drew1 HB.out)
               clear HO391
               clear HO394
               clear HO397
               clear HO402
               clear HO406
               clear HO410
               clear BK385
               clear BK386
               clear BK399
               clear BK403
               clear BK407
               clear BK412
               clear HB
               have HO391 := n0_
               have HO394 := n1_
               have HO397 := n2_
               have HO402 := n3_
               have HO406 := n4_
               have HO410 := n5_
               have BK385 := n6_
               have BK386 := n7_
               have BK399 := n8_
               have BK403 := n9_
               have BK407 := n10_
               have BK412 := n11_
               have HB := n12_
               clear n0_ n1_ n2_ n3_ n4_ n5_ n6_ n7_ n8_ n9_ n10_ n11_ n12_
               refine start_ (n := 5) (S := fun w' => w'.cell? ⟨gb403, 0, none⟩ = some (.slice Ao75 t400.length co75) ∧ w'.cell? ⟨gb385, 0, none⟩ = some (.slice A0_0 l0_0.length c0_0)) (ds := []) #[f_,f_,f_,f_,f_] (by kernel_rfl) rfl rfl ⟨(blk_cell BK403.out 0).trans rfl, (blk_cell BK385.out 0).trans rfl⟩ (fun hHeld => ?_)
               generalize w101.drew = w102 at HO391 HO394 HO397 HO402 HO406 HO410 BK385 BK386 BK399 BK403 BK407 BK412 HB hHeld ⊢
               refine take_ (i := 0) (N := some 62) (v := ?_) (a' := ?_) #[t_,f_,f_,f_,f_] rfl rfl (by kernel_rfl) (fun _ _ _ h => h) (Or.inl ⟨by rfl, ?_⟩) hHeld ?_ ?_
               rotate_left
               ·rintro w' ⟨s0, s1⟩
                go_simp
                with_reducible rfl
               rotate_left
               ·simp only [Act.put, List.setIfInBounds_toArray, List.set_cons_zero, List.set_cons_succ, i64_w, i32_w]
                rfl
               refine take_ (i := 1) (N := some 63) (v := ?_) (a' := ?_) #[t_,t_,f_,f_,f_] rfl rfl (by kernel_rfl) (fun _ _ _ h => h) (Or.inl ⟨by rfl, ?_⟩) hHeld ?_ ?_
               rotate_left
               ·rintro w' ⟨s0, s1⟩
                go_simp
                with_reducible rfl
               rotate_left
               ·simp only [Act.put, List.setIfInBounds_toArray, List.set_cons_zero, List.set_cons_succ, i64_w, i32_w]
                rfl
               refine one_ (i := 2) (N := some 64) #[t_,t_,t_,f_,f_] rfl rfl (by kernel_rfl) (by decide) (fun K hK => ?_)
               refine goes_ Try.func48 (by kernel_rfl) rfl #[.agg #[.slice A0_0 l0_0.length c0_0]] (by rfl) rfl rfl (by (try simp only [List.map_toArray, List.map_cons, List.map_nil]); first | done | rfl | (simp only [List.length_drop, List.length_take]; rfl)) ?_
               with_reducible refine (laws_toSemigroup.calls k _ _ l0_0 t414 _ ?side1 ?side2 A30.out).mono ?_
               (case side1 => repeat (first | exact (Kd.C_below HR0_0.out HB.out) | exact HR0_0.out | (with_reducible refine Kd.C_alloc ?_ _) | (with_reducible refine Kd.C_drewN ?_ _) | (with_reducible refine Kd.C_drew ?_)))
               (case side2 => exact HC0_0.out)
               rintro e w103 ⟨v415, rfl, ho0, hb⟩
               refine ⟨_, rfl, ?_⟩
               have n0_ := Aside0.mk (Kd.R_elder' (kr_ HO391.out) (Kd.R_base ho0) hb)
               have n1_ := Aside0.mk (Kd.R_elder' (kr_ HO394.out) (Kd.R_base ho0) hb)
               have n2_ := Aside0.mk (Kd.R_elder' (kr_ HO397.out) (Kd.R_base ho0) hb)
               have n3_ := Aside0.mk (Kd.R_elder' (kr_ HO402.out) (Kd.R_base ho0) hb)
               have n4_ := Aside0.mk (Kd.R_elder' (kr_ HO406.out) (Kd.R_base ho0) hb)
               have n5_ := Aside0.mk (Kd.R_elder' (kr_ HO410.out) (Kd.R_base ho0) hb)
               have n6_ := Aside0.mk (Kd.R_lower (Kd.R_new' (Kd.R_new' (Kd.R_new' (Kd.R_new' (Kd.R_new' (Kd.R_new' ho0 (Kd.R_lt (kr_ HO391.out))) (Kd.R_lt (kr_ HO394.out))) (Kd.R_lt (kr_ HO397.out))) (Kd.R_lt (kr_ HO402.out))) (Kd.R_lt (kr_ HO406.out))) (Kd.R_lt (kr_ HO410.out))) (below_size (bl_ HB.out)))
               have n7_ := Aside0.mk (blk_below (bk_ BK385.out) hb)
               have n8_ := Aside0.mk (blk_below (bk_ BK386.out) hb)
               have n9_ := Aside0.mk (blk_below (bk_ BK399.out) hb)
               have n10_ := Aside0.mk (blk_below (bk_ BK403.out) hb)
               have n11_ := Aside0.mk (blk_below (bk_ BK407.out) hb)
               have n12_ := Aside0.mk (blk_below (bk_ BK412.out) hb)
               have n13_ := Aside0.mk (below_step (bl_ HB.out) hb)
               clear HO391
               clear HO394
               clear HO397
               clear HO402
               clear HO406
               clear HO410
               clear BK385
               clear BK386
               clear BK399
               clear BK403
               clear BK407
               clear BK412
               clear HB
               have HO391 := n0_
               have HO394 := n1_
               have HO397 := n2_
               have HO402 := n3_
               have HO406 := n4_
               have HO410 := n5_
               have HO416 := n6_
               have BK385 := n7_
               have BK386 := n8_
               have BK399 := n9_
               have BK403 := n10_
               have BK407 := n11_
               have BK412 := n12_
               have HB := n13_
               clear n0_ n1_ n2_ n3_ n4_ n5_ n6_ n7_ n8_ n9_ n10_ n11_ n12_ n13_
               (try clear hb)
               (try clear hb2)
               (try clear hk)
               (try clear hi)
               (try clear ho0)
               obtain ⟨Ao104, co104, eo104⟩ := Kd.R_slice HO416.out
               (first | subst eo104 | (injection eo104 with f1_ f2_ f3_; have f4_ := f1_.symm; have f5_ := f3_.symm; clear f1_ f2_ f3_; subst f4_; subst f5_))
               refine hK.out _ _ ⟨(blk_cell BK403.out 0).trans rfl, (blk_cell BK385.out 0).trans rfl⟩ (fun hHeld => ?_)
               clear hK K
               refine norm_ (a' := ?_) ?_ ?_
               rotate_left
               ·show Act.put _ (some 64) _ = _
                simp only [Act.put, List.setIfInBounds_toArray, List.set_cons_zero, List.set_cons_succ, i64_w, i32_w]
                rfl
               refine one_ (i := 3) (N := some 65) #[t_,t_,t_,t_,f_] rfl rfl (by kernel_rfl) (by decide) (fun K hK => ?_)
               refine goes_ Try.func50 (by kernel_rfl) rfl #[.agg #[.slice Ao75 t400.length co75], .agg #[.slice Ao104 t414.length co104]] (by rfl) rfl rfl (by (try simp only [List.map_toArray, List.map_cons, List.map_nil]); first | done | rfl | (simp only [List.length_drop, List.length_take]; rfl)) ?_
               with_reducible refine (laws_eqSemigroup.calls k _ _ t400 _ _ t414 true _ ?side1 ?side2 ?side3 ?side4 A31.out).mono ?_
               (case side1 => repeat (first | exact (Kd.R_reads' HO402.out).2.2 | (with_reducible refine Kd.C_alloc ?_ _) | (with_reducible refine Kd.C_drewN ?_ _) | (with_reducible refine Kd.C_drew ?_)))
               (case side2 => exact (Kd.R_reads' HO402.out).2.1)
               (case side3 => repeat (first | exact (Kd.R_reads' HO416.out).2.2 | (with_reducible refine Kd.C_alloc ?_ _) | (with_reducible refine Kd.C_drewN ?_ _) | (with_reducible refine Kd.C_drew ?_)))
               (case side4 => exact (Kd.R_reads' HO416.out).2.1)
               rintro e w105 ⟨rfl, hb⟩
               refine ⟨_, rfl, ?_⟩
               have n0_ := Aside0.mk (Kd.R_below (kr_ HO391.out) hb)
               have n1_ := Aside0.mk (Kd.R_below (kr_ HO394.out) hb)
               have n2_ := Aside0.mk (Kd.R_below (kr_ HO397.out) hb)
               have n3_ := Aside0.mk (Kd.R_below (kr_ HO402.out) hb)
               have n4_ := Aside0.mk (Kd.R_below (kr_ HO406.out) hb)
               have n5_ := Aside0.mk (Kd.R_below (kr_ HO410.out) hb)
               have n6_ := Aside0.mk (Kd.R_below (kr_ HO416.out) hb)
               have n7_ := Aside0.mk (blk_below (bk_ BK385.out) hb)
               have n8_ := Aside0.mk (blk_below (bk_ BK386.out) hb)
               have n9_ := Aside0.mk (blk_below (bk_ BK399.out) hb)
               have n10_ := Aside0.mk (blk_below (bk_ BK403.out) hb)
               have n11_ := Aside0.mk (blk_below (bk_ BK407.out) hb)
               have n12_ := Aside0.mk (blk_below (bk_ BK412.out) hb)
               have n13_ := Aside0.mk (below_step (bl_ HB.out) hb)
               clear HO391
               clear HO394
               clear HO397
               clear HO402
               clear HO406
               clear HO410
               clear HO416
               clear BK385
               clear BK386
               clear BK399
               clear BK403
               clear BK407
               clear BK412
               clear HB
               have HO391 := n0_
               have HO394 := n1_
               have HO397 := n2_
               have HO402 := n3_
               have HO406 := n4_
               have HO410 := n5_
               have HO416 := n6_
               have BK385 := n7_
               have BK386 := n8_
               have BK399 := n9_
               have BK403 := n10_
               have BK407 := n11_
               have BK412 := n12_
               have HB := n13_
               clear n0_ n1_ n2_ n3_ n4_ n5_ n6_ n7_ n8_ n9_ n10_ n11_ n12_ n13_
               (try clear hb)
               (try clear hb2)
               (try clear hk)
               (try clear hi)
               refine hK.out _ _ ⟨(blk_cell BK403.out 0).trans rfl, (blk_cell BK385.out 0).trans rfl⟩ (fun hHeld => ?_)
               clear hK K
               refine norm_ (a' := ?_) ?_ ?_
               rotate_left
               ·show Act.put _ (some 65) _ = _
                simp only [Act.put, List.setIfInBounds_toArray, List.set_cons_zero, List.set_cons_succ, i64_w, i32_w]
                rfl
               refine pure_ (i := 4) (N := some 66) (v := ?_) (a' := ?_) #[t_,t_,t_,t_,t_] rfl rfl (by kernel_rfl) (fun _ _ _ h => h) (Or.inl ⟨by rfl, ?_⟩) ?_ ?_
               rotate_left
               ·intro w'
                go_simp
                with_reducible rfl
               rotate_left
               ·simp only [Act.put, List.setIfInBounds_toArray, List.set_cons_zero, List.set_cons_succ, i64_w, i32_w]
                rfl
               refine done_ (by kernel_rfl) ?_
               try go_wp2
               have n0_ := Aside0.mk (Kd.R_drew HO391.out)
               have n1_ := Aside0.mk (Kd.R_drew HO394.out)
               have n2_ := Aside0.mk (Kd.R_drew HO397.out)
               have n3_ := Aside0.mk (Kd.R_drew HO402.out)
               have n4_ := Aside0.mk (Kd.R_drew HO406.out)
               have n5_ := Aside0.mk (Kd.R_drew HO410.out)
               have n6_ := Aside0.mk (Kd.R_drew HO416.out)
               have n7_ := Aside0.mk (blk_drew BK385.out)
               have n8_ := Aside0.mk (blk_drew BK386.out)
               have n9_ := Aside0.mk (blk_drew BK399.out)
               have n10_ := Aside0.mk (blk_drew BK403.out)
               have n11_ := Aside0.mk (blk_drew BK407.out)
               have n12_ := Aside0.mk (blk_drew BK412.out)
               have n13_ := Aside0.mk (below_drew1 HB.out)
               clear HO391
               clear HO394
               clear HO397
               clear HO402
               clear HO406
               clear HO410
               clear HO416
               clear BK385
               clear BK386
               clear BK399
               clear BK403
               clear BK407
               clear BK412
               clear HB
               have HO391 := n0_
               have HO394 := n1_
               have HO397 := n2_
               have HO402 := n3_
               have HO406 := n4_
               have HO410 := n5_
               have HO416 := n6_
               have BK385 := n7_
               have BK386 := n8_
               have BK399 := n9_
               have BK403 := n10_
               have BK407 := n11_
               have BK412 := n12_
               have HB := n13_
               clear n0_ n1_ n2_ n3_ n4_ n5_ n6_ n7_ n8_ n9_ n10_ n11_ n12_ n13_
               refine start_ (n := 5) (S := fun w' => w'.cell? ⟨gb407, 0, none⟩ = some (.slice Ao84 t404.length co84) ∧ w'.cell? ⟨gb386, 0, none⟩ = some (.slice A1_0 l1_0.length c1_0)) (ds := []) #[f_,f_,f_,f_,f_] (by kernel_rfl) rfl rfl ⟨(blk_cell BK407.out 0).trans rfl, (blk_cell BK386.out 0).trans rfl⟩ (fun hHeld => ?_)
               generalize w105.drew = w106 at HO391 HO394 HO397 HO402 HO406 HO410 HO416 BK385 BK386 BK399 BK403 BK407 BK412 HB hHeld ⊢
               refine take_ (i := 0) (N := some 67) (v := ?_) (a' := ?_) #[t_,f_,f_,f_,f_] rfl rfl (by kernel_rfl) (fun _ _ _ h => h) (Or.inl ⟨by rfl, ?_⟩) hHeld ?_ ?_
               rotate_left
               ·rintro w' ⟨s0, s1⟩
                go_simp
                with_reducible rfl
               rotate_left
               ·simp only [Act.put, List.setIfInBounds_toArray, List.set_cons_zero, List.set_cons_succ, i64_w, i32_w]
                rfl
               refine take_ (i := 1) (N := some 68) (v := ?_) (a' := ?_) #[t_,t_,f_,f_,f_] rfl rfl (by kernel_rfl) (fun _ _ _ h => h) (Or.inl ⟨by rfl, ?_⟩) hHeld ?_ ?_
               rotate_left
               ·rintro w' ⟨s0, s1⟩
                go_simp
                with_reducible rfl
               rotate_left
               ·simp only [Act.put, List.setIfInBounds_toArray, List.set_cons_zero, List.set_cons_succ, i64_w, i32_w]
                rfl
               refine one_ (i := 2) (N := some 69) #[t_,t_,t_,f_,f_] rfl rfl (by kernel_rfl) (by decide) (fun K hK => ?_)
               refine goes_ Try.func48 (by kernel_rfl) rfl #[.agg #[.slice A1_0 l1_0.length c1_0]] (by rfl) rfl rfl (by (try simp only [List.map_toArray, List.map_cons, List.map_nil]); first | done | rfl | (simp only [List.length_drop, List.length_take]; rfl)) ?_
               with_reducible refine (laws_toSemigroup.calls k _ _ l1_0 t418 _ ?side1 ?side2 A33.out).mono ?_
               (case side1 => repeat (first | exact (Kd.C_below HR1_0.out HB.out) | exact HR1_0.out | (with_reducible refine Kd.C_alloc ?_ _) | (with_reducible refine Kd.C_drewN ?_ _) | (with_reducible refine Kd.C_drew ?_)))
               (case side2 => exact HC1_0.out)
               rintro e w107 ⟨v419, rfl, ho0, hb⟩
               refine ⟨_, rfl, ?_⟩
               have n0_ := Aside0.mk (Kd.R_elder' (kr_ HO391.out) (Kd.R_base ho0) hb)
               have n1_ := Aside0.mk (Kd.R_elder' (kr_ HO394.out) (Kd.R_base ho0) hb)
               have n2_ := Aside0.mk (Kd.R_elder' (kr_ HO397.out) (Kd.R_base ho0) hb)
               have n3_ := Aside0.mk (Kd.R_elder' (kr_ HO402.out) (Kd.R_base ho0) hb)
               have n4_ := Aside0.mk (Kd.R_elder' (kr_ HO406.out) (Kd.R_base ho0) hb)
               have n5_ := Aside0.mk (Kd.R_elder' (kr_ HO410.out) (Kd.R_base ho0) hb)
               have n6_ := Aside0.mk (Kd.R_elder' (kr_ HO416.out) (Kd.R_base ho0) hb)
               have n7_ := Aside0.mk (Kd.R_lower (Kd.R_new' (Kd.R_new' (Kd.R_new' (Kd.R_new' (Kd.R_new' (Kd.R_new' (Kd.R_new' ho0 (Kd.R_lt (kr_ HO391.out))) (Kd.R_lt (kr_ HO394.out))) (Kd.R_lt (kr_ HO397.out))) (Kd.R_lt (kr_ HO402.out))) (Kd.R_lt (kr_ HO406.out))) (Kd.R_lt (kr_ HO410.out))) (Kd.R_lt (kr_ HO416.out))) (below_size (bl_ HB.out)))
               have n8_ := Aside0.mk (blk_below (bk_ BK385.out) hb)
               have n9_ := Aside0.mk (blk_below (bk_ BK386.out) hb)
               have n10_ := Aside0.mk (blk_below (bk_ BK399.out) hb)
               have n11_ := Aside0.mk (blk_below (bk_ BK403.out) hb)
               have n12_ := Aside0.mk (blk_below (bk_ BK407.out) hb)
               have n13_ := Aside0.mk (blk_below (bk_ BK412.out) hb)
               have n14_ := Aside0.mk (below_step (bl_ HB.out) hb)
               clear HO391
               clear HO394
               clear HO397
               clear HO402
               clear HO406
               clear HO410
               clear HO416
               clear BK385
               clear BK386
               clear BK399
               clear BK403
               clear BK407
               clear BK412
               clear HB
               have HO391 := n0_
               have HO394 := n1_
               have HO397 := n2_
               have HO402 := n3_
               have HO406 := n4_
               have HO410 := n5_
               have HO416 := n6_
               have HO420 := n7_
               have BK385 := n8_
               have BK386 := n9_
               have BK399 := n10_
               have BK403 := n11_
               have BK407 := n12_
               have BK412 := n13_
               have HB := n14_
               clear n0_ n1_ n2_ n3_ n4_ n5_ n6_ n7_ n8_ n9_ n10_ n11_ n12_ n13_ n14_
               (try clear hb)
               (try clear hb2)
               (try clear hk)
               (try clear hi)
               (try clear ho0)
               obtain ⟨Ao108, co108, eo108⟩ := Kd.R_slice HO420.out
               (first | subst eo108 | (injection eo108 with f1_ f2_ f3_; have f4_ := f1_.symm; have f5_ := f3_.symm; clear f1_ f2_ f3_; subst f4_; subst f5_))
               refine hK.out _ _ ⟨(blk_cell BK407.out 0).trans rfl, (blk_cell BK386.out 0).trans rfl⟩ (fun hHeld => ?_)
               clear hK K
               refine norm_ (a' := ?_) ?_ ?_
               rotate_left
               ·show Act.put _ (some 69) _ = _
                simp only [Act.put, List.setIfInBounds_toArray, List.set_cons_zero, List.set_cons_succ, i64_w, i32_w]
                rfl
               refine one_ (i := 3) (N := some 70) #[t_,t_,t_,t_,f_] rfl rfl (by kernel_rfl) (by decide) (fun K hK => ?_)
               refine goes_ Try.func50 (by kernel_rfl) rfl #[.agg #[.slice Ao84 t404.length co84], .agg #[.slice Ao108 t418.length co108]] (by rfl) rfl rfl (by (try simp only [List.map_toArray, List.map_cons, List.map_nil]); first | done | rfl | (simp only [List.length_drop, List.length_take]; rfl)) ?_
               with_reducible refine (laws_eqSemigroup.calls k _ _ t404 _ _ t418 true _ ?side1 ?side2 ?side3 ?side4 A34.out).mono ?_
               (case side1 => repeat (first | exact (Kd.R_reads' HO406.out).2.2 | (with_reducible refine Kd.C_alloc ?_ _) | (with_reducible refine Kd.C_drewN ?_ _) | (with_reducible refine Kd.C_drew ?_)))
               (case side2 => exact (Kd.R_reads' HO406.out).2.1)
               (case side3 => repeat (first | exact (Kd.R_reads' HO420.out).2.2 | (with_reducible refine Kd.C_alloc ?_ _) | (with_reducible refine Kd.C_drewN ?_ _) | (with_reducible refine Kd.C_drew ?_)))
               (case side4 => exact (Kd.R_reads' HO420.out).2.1)
               rintro e w109 ⟨rfl, hb⟩
               refine ⟨_, rfl, ?_⟩
               have n0_ := Aside0.mk (Kd.R_below (kr_ HO391.out) hb)
               have n1_ := Aside0.mk (Kd.R_below (kr_ HO394.out) hb)
               have n2_ := Aside0.mk (Kd.R_below (kr_ HO397.out) hb)
               have n3_ := Aside0.mk (Kd.R_below (kr_ HO402.out) hb)
               have n4_ := Aside0.mk (Kd.R_below (kr_ HO406.out) hb)
               have n5_ := Aside0.mk (Kd.R_below (kr_ HO410.out) hb)
               have n6_ := Aside0.mk (Kd.R_below (kr_ HO416.out) hb)
               have n7_ := Aside0.mk (Kd.R_below (kr_ HO420.out) hb)
               have n8_ := Aside0.mk (blk_below (bk_ BK385.out) hb)
               have n9_ := Aside0.mk (blk_below (bk_ BK386.out) hb)
               have n10_ := Aside0.mk (blk_below (bk_ BK399.out) hb)
               have n11_ := Aside0.mk (blk_below (bk_ BK403.out) hb)
               have n12_ := Aside0.mk (blk_below (bk_ BK407.out) hb)
               have n13_ := Aside0.mk (blk_below (bk_ BK412.out) hb)
               have n14_ := Aside0.mk (below_step (bl_ HB.out) hb)
               clear HO391
               clear HO394
               clear HO397
               clear HO402
               clear HO406
               clear HO410
               clear HO416
               clear HO420
               clear BK385
               clear BK386
               clear BK399
               clear BK403
               clear BK407
               clear BK412
               clear HB
               have HO391 := n0_
               have HO394 := n1_
               have HO397 := n2_
               have HO402 := n3_
               have HO406 := n4_
               have HO410 := n5_
               have HO416 := n6_
               have HO420 := n7_
               have BK385 := n8_
               have BK386 := n9_
               have BK399 := n10_
               have BK403 := n11_
               have BK407 := n12_
               have BK412 := n13_
               have HB := n14_
               clear n0_ n1_ n2_ n3_ n4_ n5_ n6_ n7_ n8_ n9_ n10_ n11_ n12_ n13_ n14_
               (try clear hb)
               (try clear hb2)
               (try clear hk)
               (try clear hi)
               refine hK.out _ _ ⟨(blk_cell BK407.out 0).trans rfl, (blk_cell BK386.out 0).trans rfl⟩ (fun hHeld => ?_)
               clear hK K
               refine norm_ (a' := ?_) ?_ ?_
               rotate_left
               ·show Act.put _ (some 70) _ = _
                simp only [Act.put, List.setIfInBounds_toArray, List.set_cons_zero, List.set_cons_succ, i64_w, i32_w]
                rfl
               refine pure_ (i := 4) (N := some 71) (v := ?_) (a' := ?_) #[t_,t_,t_,t_,t_] rfl rfl (by kernel_rfl) (fun _ _ _ h => h) (Or.inl ⟨by rfl, ?_⟩) ?_ ?_
               rotate_left
               ·intro w'
                go_simp
                with_reducible rfl
               rotate_left
               ·simp only [Act.put, List.setIfInBounds_toArray, List.set_cons_zero, List.set_cons_succ, i64_w, i32_w]
                rfl
               refine done_ (by kernel_rfl) ?_
               have hcz110_0 : w109.cell? ⟨gb403, 0, none⟩ = some (.slice Ao75 t400.length co75) := (blk_cell BK403.out 0).trans rfl
               have hfz110_0 := blk_frozen BK403.out 0
               try go_wp2_with (first | ((with_reducible refine gate_callee (f := 51) rfl ?_); refine goesL_ (some 74) rfl rfl Try.func51 (by kernel_rfl) rfl #[.agg #[.slice Ao75 t400.length co75], .int .i64 1] rfl (by (try simp only [List.map_toArray, List.map_cons, List.map_nil]); first | done | rfl | (simp only [List.length_drop, List.length_take]; rfl)) ?_; (with_reducible refine (laws_markSemigroup.calls k (fun k_ => some k_ = (.slice Ao75 t400.length co75 : Value).ownBlock) (.slice Ao75 t400.length co75) t400 1 t422 t423 w _ ?side1 ?side2 A36.out).mono ?_); (case side1 => repeat (first | (with_reducible first | exact HB.out | apply below_alloc | apply pw_below_drewN | apply below_drew1 | refine below_set ?_ GE385.out | refine below_set ?_ GE386.out | refine below_set ?_ GE399.out | refine below_set ?_ GE403.out | refine below_set ?_ GE407.out | refine below_set ?_ GE412.out) | exact HB.out)); (case side2 => exact Kd.R_tight rfl HO402.out); rintro e w111 ⟨rfl, hy0, hb, hkp⟩; refine ⟨_, rfl, ?_⟩; have n0_ := Aside0.mk (blk_kept (bk_ BK385.out) hkp (fun hs_ => (fun e_ => (Kd.R_ne HO402.out BK385.out (by decide)) e_) hs_)); have n1_ := Aside0.mk (blk_kept (bk_ BK386.out) hkp (fun hs_ => (fun e_ => (Kd.R_ne HO402.out BK386.out (by decide)) e_) hs_)); have n2_ := Aside0.mk (Kd.R_mono (ok' := fun k_ => some k_ ≠ (v393 : Value).ownBlock ∧ some k_ ≠ (.slice Ao69 t395.length co69 : Value).ownBlock ∧ some k_ ≠ (.slice Ao75 t400.length co75 : Value).ownBlock ∧ some k_ ≠ (.slice Ao84 t404.length co84 : Value).ownBlock ∧ some k_ ≠ (.slice Ao93 t408.length co93 : Value).ownBlock ∧ some k_ ≠ (.slice Ao104 t414.length co104 : Value).ownBlock ∧ some k_ ≠ (.slice Ao108 t418.length co108 : Value).ownBlock) (Kd.R_keptB (HO391.out) hkp (fun k_ hk_ hs_ => (hk_.1.1.1.1.2) hs_)) (fun k_ hk_ => ⟨hk_.1.1.1.1.1.1.1, hk_.1.1.1.1.1.1.2, hk_.1.1.1.1.1.2, hk_.1.1.1.1.2, hk_.1.1.1.2, hk_.1.1.2, hk_.1.2⟩)); have n3_ := Aside0.mk (Kd.R_mono (ok' := fun k_ => some k_ ≠ (v390 : Value).ownBlock ∧ some k_ ≠ (.slice Ao69 t395.length co69 : Value).ownBlock ∧ some k_ ≠ (.slice Ao75 t400.length co75 : Value).ownBlock ∧ some k_ ≠ (.slice Ao84 t404.length co84 : Value).ownBlock ∧ some k_ ≠ (.slice Ao93 t408.length co93 : Value).ownBlock ∧ some k_ ≠ (.slice Ao104 t414.length co104 : Value).ownBlock ∧ some k_ ≠ (.slice Ao108 t418.length co108 : Value).ownBlock) (Kd.R_keptB (HO394.out) hkp (fun k_ hk_ hs_ => (hk_.1.1.1.1.2) hs_)) (fun k_ hk_ => ⟨hk_.1.1.1.1.1.1.1, hk_.1.1.1.1.1.1.2, hk_.1.1.1.1.1.2, hk_.1.1.1.1.2, hk_.1.1.1.2, hk_.1.1.2, hk_.1.2⟩)); have n4_ := Aside0.mk (Kd.R_mono (ok' := fun k_ => some k_ ≠ (v390 : Value).ownBlock ∧ some k_ ≠ (v393 : Value).ownBlock ∧ some k_ ≠ (.slice Ao75 t400.length co75 : Value).ownBlock ∧ some k_ ≠ (.slice Ao84 t404.length co84 : Value).ownBlock ∧ some k_ ≠ (.slice Ao93 t408.length co93 : Value).ownBlock ∧ some k_ ≠ (.slice Ao104 t414.length co104 : Value).ownBlock ∧ some k_ ≠ (.slice Ao108 t418.length co108 : Value).ownBlock) (Kd.R_keptB (HO397.out) hkp (fun k_ hk_ hs_ => (hk_.1.1.1.1.2) hs_)) (fun k_ hk_ => ⟨hk_.1.1.1.1.1.1.1, hk_.1.1.1.1.1.1.2, hk_.1.1.1.1.1.2, hk_.1.1.1.1.2, hk_.1.1.1.2, hk_.1.1.2, hk_.1.2⟩)); have n5_ := Aside0.mk (blk_kept (bk_ BK399.out) hkp (fun hs_ => (fun e_ => (Kd.R_ne HO402.out BK399.out (by decide)) e_) hs_)); have n6_ := Aside0.mk (Kd.R_reok rfl hy0 (fun k_ e_ => HO402.out.1 k_ e_)); have n7_ := Aside0.mk (blk_kept (bk_ BK403.out) hkp (fun hs_ => (fun e_ => (Kd.R_ne HO402.out BK403.out (by decide)) e_) hs_)); have n8_ := Aside0.mk (Kd.R_mono (ok' := fun k_ => some k_ ≠ (v390 : Value).ownBlock ∧ some k_ ≠ (v393 : Value).ownBlock ∧ some k_ ≠ (.slice Ao69 t395.length co69 : Value).ownBlock ∧ some k_ ≠ (.slice Ao75 t400.length co75 : Value).ownBlock ∧ some k_ ≠ (.slice Ao93 t408.length co93 : Value).ownBlock ∧ some k_ ≠ (.slice Ao104 t414.length co104 : Value).ownBlock ∧ some k_ ≠ (.slice Ao108 t418.length co108 : Value).ownBlock) (Kd.R_keptB (HO406.out) hkp (fun k_ hk_ hs_ => (hk_.1.1.1.2) hs_)) (fun k_ hk_ => ⟨hk_.1.1.1.1.1.1.1.2, hk_.1.1.1.1.1.1.2, hk_.1.1.1.1.1.2, hk_.1.1.1.1.2, hk_.1.1.1.2, hk_.1.1.2, hk_.1.2⟩)); have n9_ := Aside0.mk (blk_kept (bk_ BK407.out) hkp (fun hs_ => (fun e_ => (Kd.R_ne HO402.out BK407.out (by decide)) e_) hs_)); have n10_ := Aside0.mk (Kd.R_mono (ok' := fun k_ => some k_ ≠ (v390 : Value).ownBlock ∧ some k_ ≠ (v393 : Value).ownBlock ∧ some k_ ≠ (.slice Ao69 t395.length co69 : Value).ownBlock ∧ some k_ ≠ (.slice Ao75 t400.length co75 : Value).ownBlock ∧ some k_ ≠ (.slice Ao84 t404.length co84 : Value).ownBlock ∧ some k_ ≠ (.slice Ao104 t414.length co104 : Value).ownBlock ∧ some k_ ≠ (.slice Ao108 t418.length co108 : Value).ownBlock) (Kd.R_keptB (HO410.out) hkp (fun k_ hk_ hs_ => (hk_.1.1.1.2) hs_)) (fun k_ hk_ => ⟨hk_.1.1.1.1.1.1.1.2, hk_.1.1.1.1.1.1.2, hk_.1.1.1.1.1.2, hk_.1.1.1.1.2, hk_.1.1.1.2, hk_.1.1.2, hk_.1.2⟩)); have n11_ := Aside0.mk (blk_kept (bk_ BK412.out) hkp (fun hs_ => (fun e_ => (Kd.R_ne HO402.out BK412.out (by decide)) e_) hs_)); have n12_ := Aside0.mk (Kd.R_mono (ok' := fun k_ => some k_ ≠ (v390 : Value).ownBlock ∧ some k_ ≠ (v393 : Value).ownBlock ∧ some k_ ≠ (.slice Ao69 t395.length co69 : Value).ownBlock ∧ some k_ ≠ (.slice Ao75 t400.length co75 : Value).ownBlock ∧ some k_ ≠ (.slice Ao84 t404.length co84 : Value).ownBlock ∧ some k_ ≠ (.slice Ao93 t408.length co93 : Value).ownBlock ∧ some k_ ≠ (.slice Ao108 t418.length co108 : Value).ownBlock) (Kd.R_keptB (HO416.out) hkp (fun k_ hk_ hs_ => (hk_.1.1.1.2) hs_)) (fun k_ hk_ => ⟨hk_.1.1.1.1.1.1.1.2, hk_.1.1.1.1.1.1.2, hk_.1.1.1.1.1.2, hk_.1.1.1.1.2, hk_.1.1.1.2, hk_.1.1.2, hk_.1.2⟩)); have n13_ := Aside0.mk (Kd.R_mono (ok' := fun k_ => some k_ ≠ (v390 : Value).ownBlock ∧ some k_ ≠ (v393 : Value).ownBlock ∧ some k_ ≠ (.slice Ao69 t395.length co69 : Value).ownBlock ∧ some k_ ≠ (.slice Ao75 t400.length co75 : Value).ownBlock ∧ some k_ ≠ (.slice Ao84 t404.length co84 : Value).ownBlock ∧ some k_ ≠ (.slice Ao93 t408.length co93 : Value).ownBlock ∧ some k_ ≠ (.slice Ao104 t414.length co104 : Value).ownBlock) (Kd.R_keptB (HO420.out) hkp (fun k_ hk_ hs_ => (hk_.1.1.1.2) hs_)) (fun k_ hk_ => ⟨hk_.1.1.1.1.1.1.1.2, hk_.1.1.1.1.1.1.2, hk_.1.1.1.1.1.2, hk_.1.1.1.1.2, hk_.1.1.1.2, hk_.1.1.2, hk_.1.2⟩)); have n14_ := Aside0.mk (hb); clear BK385; clear BK386; clear HO391; clear HO394; clear HO397; clear BK399; clear HO402; clear BK403; clear HO406; clear BK407; clear HO410; clear BK412; clear HO416; clear HO420; clear HB; have BK385 := n0_; have BK386 := n1_; have HO391 := n2_; have HO394 := n3_; have HO397 := n4_; have BK399 := n5_; have HO402 := n6_; have BK403 := n7_; have HO406 := n8_; have BK407 := n9_; have HO410 := n10_; have BK412 := n11_; have HO416 := n12_; have HO420 := n13_; have HB := n14_; clear n0_ n1_ n2_ n3_ n4_ n5_ n6_ n7_ n8_ n9_ n10_ n11_ n12_ n13_ n14_; (try clear hb); (try clear hkp); (try clear hy0); have hcz112_0 : w111.cell? ⟨gb407, 0, none⟩ = some (.slice Ao84 t404.length co84) := (blk_cell BK407.out 0).trans rfl; have hfz112_0 := blk_frozen BK407.out 0) | ((with_reducible refine gate_callee (f := 51) rfl ?_); refine goesL_ (some 77) rfl rfl Try.func51 (by kernel_rfl) rfl #[.agg #[.slice Ao84 t404.length co84], .int .i64 t422] rfl (by (try simp only [List.map_toArray, List.map_cons, List.map_nil]); first | done | rfl | (simp only [List.length_drop, List.length_take]; rfl)) ?_; (with_reducible refine (laws_markSemigroup.calls k (fun k_ => some k_ = (.slice Ao84 t404.length co84 : Value).ownBlock) (.slice Ao84 t404.length co84) t404 t422 t424 t425 w _ ?side1 ?side2 A37.out).mono ?_); (case side1 => repeat (first | (with_reducible first | exact HB.out | apply below_alloc | apply pw_below_drewN | apply below_drew1 | refine below_set ?_ GE385.out | refine below_set ?_ GE386.out | refine below_set ?_ GE399.out | refine below_set ?_ GE403.out | refine below_set ?_ GE407.out | refine below_set ?_ GE412.out) | exact HB.out)); (case side2 => exact Kd.R_tight rfl HO406.out); rintro e w113 ⟨rfl, hy0, hb, hkp⟩; refine ⟨_, rfl, ?_⟩; have n0_ := Aside0.mk (blk_kept (bk_ BK385.out) hkp (fun hs_ => (fun e_ => (Kd.R_ne HO406.out BK385.out (by decide)) e_) hs_)); have n1_ := Aside0.mk (blk_kept (bk_ BK386.out) hkp (fun hs_ => (fun e_ => (Kd.R_ne HO406.out BK386.out (by decide)) e_) hs_)); have n2_ := Aside0.mk (Kd.R_mono (ok' := fun k_ => some k_ ≠ (v393 : Value).ownBlock ∧ some k_ ≠ (.slice Ao69 t395.length co69 : Value).ownBlock ∧ some k_ ≠ (.slice Ao75 t400.length co75 : Value).ownBlock ∧ some k_ ≠ (.slice Ao84 t404.length co84 : Value).ownBlock ∧ some k_ ≠ (.slice Ao93 t408.length co93 : Value).ownBlock ∧ some k_ ≠ (.slice Ao104 t414.length co104 : Value).ownBlock ∧ some k_ ≠ (.slice Ao108 t418.length co108 : Value).ownBlock) (Kd.R_keptB (HO391.out) hkp (fun k_ hk_ hs_ => (hk_.2.2.2.1) hs_)) (fun k_ hk_ => ⟨hk_.1.1, hk_.1.2.1, hk_.1.2.2.1, hk_.1.2.2.2.1, hk_.1.2.2.2.2.1, hk_.1.2.2.2.2.2.1, hk_.1.2.2.2.2.2.2⟩)); have n3_ := Aside0.mk (Kd.R_mono (ok' := fun k_ => some k_ ≠ (v390 : Value).ownBlock ∧ some k_ ≠ (.slice Ao69 t395.length co69 : Value).ownBlock ∧ some k_ ≠ (.slice Ao75 t400.length co75 : Value).ownBlock ∧ some k_ ≠ (.slice Ao84 t404.length co84 : Value).ownBlock ∧ some k_ ≠ (.slice Ao93 t408.length co93 : Value).ownBlock ∧ some k_ ≠ (.slice Ao104 t414.length co104 : Value).ownBlock ∧ some k_ ≠ (.slice Ao108 t418.length co108 : Value).ownBlock) (Kd.R_keptB (HO394.out) hkp (fun k_ hk_ hs_ => (hk_.2.2.2.1) hs_)) (fun k_ hk_ => ⟨hk_.1.1, hk_.1.2.1, hk_.1.2.2.1, hk_.1.2.2.2.1, hk_.1.2.2.2.2.1, hk_.1.2.2.2.2.2.1, hk_.1.2.2.2.2.2.2⟩)); have n4_ := Aside0.mk (Kd.R_mono (ok' := fun k_ => some k_ ≠ (v390 : Value).ownBlock ∧ some k_ ≠ (v393 : Value).ownBlock ∧ some k_ ≠ (.slice Ao75 t400.length co75 : Value).ownBlock ∧ some k_ ≠ (.slice Ao84 t404.length co84 : Value).ownBlock ∧ some k_ ≠ (.slice Ao93 t408.length co93 : Value).ownBlock ∧ some k_ ≠ (.slice Ao104 t414.length co104 : Value).ownBlock ∧ some k_ ≠ (.slice Ao108 t418.length co108 : Value).ownBlock) (Kd.R_keptB (HO397.out) hkp (fun k_ hk_ hs_ => (hk_.2.2.2.1) hs_)) (fun k_ hk_ => ⟨hk_.1.1, hk_.1.2.1, hk_.1.2.2.1, hk_.1.2.2.2.1, hk_.1.2.2.2.2.1, hk_.1.2.2.2.2.2.1, hk_.1.2.2.2.2.2.2⟩)); have n5_ := Aside0.mk (blk_kept (bk_ BK399.out) hkp (fun hs_ => (fun e_ => (Kd.R_ne HO406.out BK399.out (by decide)) e_) hs_)); have n6_ := Aside0.mk (Kd.R_mono (ok' := fun k_ => some k_ ≠ (v390 : Value).ownBlock ∧ some k_ ≠ (v393 : Value).ownBlock ∧ some k_ ≠ (.slice Ao69 t395.length co69 : Value).ownBlock ∧ some k_ ≠ (.slice Ao84 t404.length co84 : Value).ownBlock ∧ some k_ ≠ (.slice Ao93 t408.length co93 : Value).ownBlock ∧ some k_ ≠ (.slice Ao104 t414.length co104 : Value).ownBlock ∧ some k_ ≠ (.slice Ao108 t418.length co108 : Value).ownBlock) (Kd.R_keptB (HO402.out) hkp (fun k_ hk_ hs_ => (hk_.1.1.1.2) hs_)) (fun k_ hk_ => ⟨hk_.1.1.1.1.1.1.1.2, hk_.1.1.1.1.1.1.2, hk_.1.1.1.1.1.2, hk_.1.1.1.1.2, hk_.1.1.1.2, hk_.1.1.2, hk_.1.2⟩)); have n7_ := Aside0.mk (blk_kept (bk_ BK403.out) hkp (fun hs_ => (fun e_ => (Kd.R_ne HO406.out BK403.out (by decide)) e_) hs_)); have n8_ := Aside0.mk (Kd.R_reok rfl hy0 (fun k_ e_ => HO406.out.1 k_ e_)); have n9_ := Aside0.mk (blk_kept (bk_ BK407.out) hkp (fun hs_ => (fun e_ => (Kd.R_ne HO406.out BK407.out (by decide)) e_) hs_)); have n10_ := Aside0.mk (Kd.R_mono (ok' := fun k_ => some k_ ≠ (v390 : Value).ownBlock ∧ some k_ ≠ (v393 : Value).ownBlock ∧ some k_ ≠ (.slice Ao69 t395.length co69 : Value).ownBlock ∧ some k_ ≠ (.slice Ao75 t400.length co75 : Value).ownBlock ∧ some k_ ≠ (.slice Ao84 t404.length co84 : Value).ownBlock ∧ some k_ ≠ (.slice Ao104 t414.length co104 : Value).ownBlock ∧ some k_ ≠ (.slice Ao108 t418.length co108 : Value).ownBlock) (Kd.R_keptB (HO410.out) hkp (fun k_ hk_ hs_ => (hk_.2.2.2.2.1) hs_)) (fun k_ hk_ => ⟨hk_.1.1, hk_.1.2.1, hk_.1.2.2.1, hk_.1.2.2.2.1, hk_.1.2.2.2.2.1, hk_.1.2.2.2.2.2.1, hk_.1.2.2.2.2.2.2⟩)); have n11_ := Aside0.mk (blk_kept (bk_ BK412.out) hkp (fun hs_ => (fun e_ => (Kd.R_ne HO406.out BK412.out (by decide)) e_) hs_)); have n12_ := Aside0.mk (Kd.R_mono (ok' := fun k_ => some k_ ≠ (v390 : Value).ownBlock ∧ some k_ ≠ (v393 : Value).ownBlock ∧ some k_ ≠ (.slice Ao69 t395.length co69 : Value).ownBlock ∧ some k_ ≠ (.slice Ao75 t400.length co75 : Value).ownBlock ∧ some k_ ≠ (.slice Ao84 t404.length co84 : Value).ownBlock ∧ some k_ ≠ (.slice Ao93 t408.length co93 : Value).ownBlock ∧ some k_ ≠ (.slice Ao108 t418.length co108 : Value).ownBlock) (Kd.R_keptB (HO416.out) hkp (fun k_ hk_ hs_ => (hk_.2.2.2.2.1) hs_)) (fun k_ hk_ => ⟨hk_.1.1, hk_.1.2.1, hk_.1.2.2.1, hk_.1.2.2.2.1, hk_.1.2.2.2.2.1, hk_.1.2.2.2.2.2.1, hk_.1.2.2.2.2.2.2⟩)); have n13_ := Aside0.mk (Kd.R_mono (ok' := fun k_ => some k_ ≠ (v390 : Value).ownBlock ∧ some k_ ≠ (v393 : Value).ownBlock ∧ some k_ ≠ (.slice Ao69 t395.length co69 : Value).ownBlock ∧ some k_ ≠ (.slice Ao75 t400.length co75 : Value).ownBlock ∧ some k_ ≠ (.slice Ao84 t404.length co84 : Value).ownBlock ∧ some k_ ≠ (.slice Ao93 t408.length co93 : Value).ownBlock ∧ some k_ ≠ (.slice Ao104 t414.length co104 : Value).ownBlock) (Kd.R_keptB (HO420.out) hkp (fun k_ hk_ hs_ => (hk_.2.2.2.2.1) hs_)) (fun k_ hk_ => ⟨hk_.1.1, hk_.1.2.1, hk_.1.2.2.1, hk_.1.2.2.2.1, hk_.1.2.2.2.2.1, hk_.1.2.2.2.2.2.1, hk_.1.2.2.2.2.2.2⟩)); have n14_ := Aside0.mk (hb); clear BK385; clear BK386; clear HO391; clear HO394; clear HO397; clear BK399; clear HO402; clear BK403; clear HO406; clear BK407; clear HO410; clear BK412; clear HO416; clear HO420; clear HB; have BK385 := n0_; have BK386 := n1_; have HO391 := n2_; have HO394 := n3_; have HO397 := n4_; have BK399 := n5_; have HO402 := n6_; have BK403 := n7_; have HO406 := n8_; have BK407 := n9_; have HO410 := n10_; have BK412 := n11_; have HO416 := n12_; have HO420 := n13_; have HB := n14_; clear n0_ n1_ n2_ n3_ n4_ n5_ n6_ n7_ n8_ n9_ n10_ n11_ n12_ n13_ n14_; (try clear hb); (try clear hkp); (try clear hy0); have hcz114_0 : w113.cell? ⟨gb412, 0, none⟩ = some (.slice Ao93 t408.length co93) := (blk_cell BK412.out 0).trans rfl; have hfz114_0 := blk_frozen BK412.out 0; have hcz115_0 : w113.cell? ⟨gb399, 0, none⟩ = some (.slice Ao69 t395.length co69) := (blk_cell BK399.out 0).trans rfl; have hfz115_0 := blk_frozen BK399.out 0) | (go_at_call 50; (with_reducible refine (laws_eqSemigroup.calls k _ _ t408 _ _ t395 true _ ?side1 ?side2 ?side3 ?side4 A39.out).mono ?_); (case side1 => repeat (first | exact (Kd.R_reads' HO410.out).2.2 | (with_reducible refine Kd.C_alloc ?_ _) | (with_reducible refine Kd.C_drewN ?_ _) | (with_reducible refine Kd.C_drew ?_))); (case side2 => exact (Kd.R_reads' HO410.out).2.1); (case side3 => repeat (first | exact (Kd.R_reads' HO397.out).2.2 | (with_reducible refine Kd.C_alloc ?_ _) | (with_reducible refine Kd.C_drewN ?_ _) | (with_reducible refine Kd.C_drew ?_))); (case side4 => exact (Kd.R_reads' HO397.out).2.1); rintro e w116 ⟨rfl, hb⟩; have n0_ := Aside0.mk (Kd.R_below (kr_ HO391.out) hb); have n1_ := Aside0.mk (Kd.R_below (kr_ HO394.out) hb); have n2_ := Aside0.mk (Kd.R_below (kr_ HO397.out) hb); have n3_ := Aside0.mk (Kd.R_below (kr_ HO402.out) hb); have n4_ := Aside0.mk (Kd.R_below (kr_ HO406.out) hb); have n5_ := Aside0.mk (Kd.R_below (kr_ HO410.out) hb); have n6_ := Aside0.mk (Kd.R_below (kr_ HO416.out) hb); have n7_ := Aside0.mk (Kd.R_below (kr_ HO420.out) hb); have n8_ := Aside0.mk (blk_below (bk_ BK385.out) hb); have n9_ := Aside0.mk (blk_below (bk_ BK386.out) hb); have n10_ := Aside0.mk (blk_below (bk_ BK399.out) hb); have n11_ := Aside0.mk (blk_below (bk_ BK403.out) hb); have n12_ := Aside0.mk (blk_below (bk_ BK407.out) hb); have n13_ := Aside0.mk (blk_below (bk_ BK412.out) hb); have n14_ := Aside0.mk (below_step (bl_ HB.out) hb); clear HO391; clear HO394; clear HO397; clear HO402; clear HO406; clear HO410; clear HO416; clear HO420; clear BK385; clear BK386; clear BK399; clear BK403; clear BK407; clear BK412; clear HB; have HO391 := n0_; have HO394 := n1_; have HO397 := n2_; have HO402 := n3_; have HO406 := n4_; have HO410 := n5_; have HO416 := n6_; have HO420 := n7_; have BK385 := n8_; have BK386 := n9_; have BK399 := n10_; have BK403 := n11_; have BK407 := n12_; have BK412 := n13_; have HB := n14_; clear n0_ n1_ n2_ n3_ n4_ n5_ n6_ n7_ n8_ n9_ n10_ n11_ n12_ n13_ n14_; (try clear hb); (try clear hb2); (try clear hk); (try clear hi); have hcz117_0 : w116.cell? ⟨gb412, 0, none⟩ = some (.slice Ao93 t408.length co93) := (blk_cell BK412.out 0).trans rfl; have hfz117_0 := blk_frozen BK412.out 0) | ((with_reducible refine gate_callee (f := 51) rfl ?_); refine goesL_ (some 93) rfl rfl Try.func51 (by kernel_rfl) rfl #[.agg #[.slice Ao93 t408.length co93], .int .i64 1] rfl (by (try simp only [List.map_toArray, List.map_cons, List.map_nil]); first | done | rfl | (simp only [List.length_drop, List.length_take]; rfl)) ?_; (with_reducible refine (laws_markSemigroup.calls k (fun k_ => some k_ = (.slice Ao93 t408.length co93 : Value).ownBlock) (.slice Ao93 t408.length co93) t408 1 t427 t428 w _ ?side1 ?side2 A41.out).mono ?_); (case side1 => repeat (first | (with_reducible first | exact HB.out | apply below_alloc | apply pw_below_drewN | apply below_drew1 | refine below_set ?_ GE385.out | refine below_set ?_ GE386.out | refine below_set ?_ GE399.out | refine below_set ?_ GE403.out | refine below_set ?_ GE407.out | refine below_set ?_ GE412.out) | exact HB.out)); (case side2 => exact Kd.R_tight rfl HO410.out); rintro e w118 ⟨rfl, hy0, hb, hkp⟩; refine ⟨_, rfl, ?_⟩; have n0_ := Aside0.mk (blk_kept (bk_ BK385.out) hkp (fun hs_ => (fun e_ => (Kd.R_ne HO410.out BK385.out (by decide)) e_) hs_)); have n1_ := Aside0.mk (blk_kept (bk_ BK386.out) hkp (fun hs_ => (fun e_ => (Kd.R_ne HO410.out BK386.out (by decide)) e_) hs_)); have n2_ := Aside0.mk (Kd.R_mono (ok' := fun k_ => some k_ ≠ (v393 : Value).ownBlock ∧ some k_ ≠ (.slice Ao69 t395.length co69 : Value).ownBlock ∧ some k_ ≠ (.slice Ao75 t400.length co75 : Value).ownBlock ∧ some k_ ≠ (.slice Ao84 t404.length co84 : Value).ownBlock ∧ some k_ ≠ (.slice Ao93 t408.length co93 : Value).ownBlock ∧ some k_ ≠ (.slice Ao104 t414.length co104 : Value).ownBlock ∧ some k_ ≠ (.slice Ao108 t418.length co108 : Value).ownBlock) (Kd.R_keptB (HO391.out) hkp (fun k_ hk_ hs_ => (hk_.2.2.2.2.1) hs_)) (fun k_ hk_ => ⟨hk_.1.1, hk_.1.2.1, hk_.1.2.2.1, hk_.1.2.2.2.1, hk_.1.2.2.2.2.1, hk_.1.2.2.2.2.2.1, hk_.1.2.2.2.2.2.2⟩)); have n3_ := Aside0.mk (Kd.R_mono (ok' := fun k_ => some k_ ≠ (v390 : Value).ownBlock ∧ some k_ ≠ (.slice Ao69 t395.length co69 : Value).ownBlock ∧ some k_ ≠ (.slice Ao75 t400.length co75 : Value).ownBlock ∧ some k_ ≠ (.slice Ao84 t404.length co84 : Value).ownBlock ∧ some k_ ≠ (.slice Ao93 t408.length co93 : Value).ownBlock ∧ some k_ ≠ (.slice Ao104 t414.length co104 : Value).ownBlock ∧ some k_ ≠ (.slice Ao108 t418.length co108 : Value).ownBlock) (Kd.R_keptB (HO394.out) hkp (fun k_ hk_ hs_ => (hk_.2.2.2.2.1) hs_)) (fun k_ hk_ => ⟨hk_.1.1, hk_.1.2.1, hk_.1.2.2.1, hk_.1.2.2.2.1, hk_.1.2.2.2.2.1, hk_.1.2.2.2.2.2.1, hk_.1.2.2.2.2.2.2⟩)); have n4_ := Aside0.mk (Kd.R_mono (ok' := fun k_ => some k_ ≠ (v390 : Value).ownBlock ∧ some k_ ≠ (v393 : Value).ownBlock ∧ some k_ ≠ (.slice Ao75 t400.length co75 : Value).ownBlock ∧ some k_ ≠ (.slice Ao84 t404.length co84 : Value).ownBlock ∧ some k_ ≠ (.slice Ao93 t408.length co93 : Value).ownBlock ∧ some k_ ≠ (.slice Ao104 t414.length co104 : Value).ownBlock ∧ some k_ ≠ (.slice Ao108 t418.length co108 : Value).ownBlock) (Kd.R_keptB (HO397.out) hkp (fun k_ hk_ hs_ => (hk_.2.2.2.2.1) hs_)) (fun k_ hk_ => ⟨hk_.1.1, hk_.1.2.1, hk_.1.2.2.1, hk_.1.2.2.2.1, hk_.1.2.2.2.2.1, hk_.1.2.2.2.2.2.1, hk_.1.2.2.2.2.2.2⟩)); have n5_ := Aside0.mk (blk_kept (bk_ BK399.out) hkp (fun hs_ => (fun e_ => (Kd.R_ne HO410.out BK399.out (by decide)) e_) hs_)); have n6_ := Aside0.mk (Kd.R_mono (ok' := fun k_ => some k_ ≠ (v390 : Value).ownBlock ∧ some k_ ≠ (v393 : Value).ownBlock ∧ some k_ ≠ (.slice Ao69 t395.length co69 : Value).ownBlock ∧ some k_ ≠ (.slice Ao84 t404.length co84 : Value).ownBlock ∧ some k_ ≠ (.slice Ao93 t408.length co93 : Value).ownBlock ∧ some k_ ≠ (.slice Ao104 t414.length co104 : Value).ownBlock ∧ some k_ ≠ (.slice Ao108 t418.length co108 : Value).ownBlock) (Kd.R_keptB (HO402.out) hkp (fun k_ hk_ hs_ => (hk_.2.2.2.2.1) hs_)) (fun k_ hk_ => ⟨hk_.1.1, hk_.1.2.1, hk_.1.2.2.1, hk_.1.2.2.2.1, hk_.1.2.2.2.2.1, hk_.1.2.2.2.2.2.1, hk_.1.2.2.2.2.2.2⟩)); have n7_ := Aside0.mk (blk_kept (bk_ BK403.out) hkp (fun hs_ => (fun e_ => (Kd.R_ne HO410.out BK403.out (by decide)) e_) hs_)); have n8_ := Aside0.mk (Kd.R_mono (ok' := fun k_ => some k_ ≠ (v390 : Value).ownBlock ∧ some k_ ≠ (v393 : Value).ownBlock ∧ some k_ ≠ (.slice Ao69 t395.length co69 : Value).ownBlock ∧ some k_ ≠ (.slice Ao75 t400.length co75 : Value).ownBlock ∧ some k_ ≠ (.slice Ao93 t408.length co93 : Value).ownBlock ∧ some k_ ≠ (.slice Ao104 t414.length co104 : Value).ownBlock ∧ some k_ ≠ (.slice Ao108 t418.length co108 : Value).ownBlock) (Kd.R_keptB (HO406.out) hkp (fun k_ hk_ hs_ => (hk_.2.2.2.2.1) hs_)) (fun k_ hk_ => ⟨hk_.1.1, hk_.1.2.1, hk_.1.2.2.1, hk_.1.2.2.2.1, hk_.1.2.2.2.2.1, hk_.1.2.2.2.2.2.1, hk_.1.2.2.2.2.2.2⟩)); have n9_ := Aside0.mk (blk_kept (bk_ BK407.out) hkp (fun hs_ => (fun e_ => (Kd.R_ne HO410.out BK407.out (by decide)) e_) hs_)); have n10_ := Aside0.mk (Kd.R_reok rfl hy0 (fun k_ e_ => HO410.out.1 k_ e_)); have n11_ := Aside0.mk (blk_kept (bk_ BK412.out) hkp (fun hs_ => (fun e_ => (Kd.R_ne HO410.out BK412.out (by decide)) e_) hs_)); have n12_ := Aside0.mk (Kd.R_mono (ok' := fun k_ => some k_ ≠ (v390 : Value).ownBlock ∧ some k_ ≠ (v393 : Value).ownBlock ∧ some k_ ≠ (.slice Ao69 t395.length co69 : Value).ownBlock ∧ some k_ ≠ (.slice Ao75 t400.length co75 : Value).ownBlock ∧ some k_ ≠ (.slice Ao84 t404.length co84 : Value).ownBlock ∧ some k_ ≠ (.slice Ao93 t408.length co93 : Value).ownBlock ∧ some k_ ≠ (.slice Ao108 t418.length co108 : Value).ownBlock) (Kd.R_keptB (HO416.out) hkp (fun k_ hk_ hs_ => (hk_.2.2.2.2.2.1) hs_)) (fun k_ hk_ => ⟨hk_.1.1, hk_.1.2.1, hk_.1.2.2.1, hk_.1.2.2.2.1, hk_.1.2.2.2.2.1, hk_.1.2.2.2.2.2.1, hk_.1.2.2.2.2.2.2⟩)); have n13_ := Aside0.mk (Kd.R_mono (ok' := fun k_ => some k_ ≠ (v390 : Value).ownBlock ∧ some k_ ≠ (v393 : Value).ownBlock ∧ some k_ ≠ (.slice Ao69 t395.length co69 : Value).ownBlock ∧ some k_ ≠ (.slice Ao75 t400.length co75 : Value).ownBlock ∧ some k_ ≠ (.slice Ao84 t404.length co84 : Value).ownBlock ∧ some k_ ≠ (.slice Ao93 t408.length co93 : Value).ownBlock ∧ some k_ ≠ (.slice Ao104 t414.length co104 : Value).ownBlock) (Kd.R_keptB (HO420.out) hkp (fun k_ hk_ hs_ => (hk_.2.2.2.2.2.1) hs_)) (fun k_ hk_ => ⟨hk_.1.1, hk_.1.2.1, hk_.1.2.2.1, hk_.1.2.2.2.1, hk_.1.2.2.2.2.1, hk_.1.2.2.2.2.2.1, hk_.1.2.2.2.2.2.2⟩)); have n14_ := Aside0.mk (hb); clear BK385; clear BK386; clear HO391; clear HO394; clear HO397; clear BK399; clear HO402; clear BK403; clear HO406; clear BK407; clear HO410; clear BK412; clear HO416; clear HO420; clear HB; have BK385 := n0_; have BK386 := n1_; have HO391 := n2_; have HO394 := n3_; have HO397 := n4_; have BK399 := n5_; have HO402 := n6_; have BK403 := n7_; have HO406 := n8_; have BK407 := n9_; have HO410 := n10_; have BK412 := n11_; have HO416 := n12_; have HO420 := n13_; have HB := n14_; clear n0_ n1_ n2_ n3_ n4_ n5_ n6_ n7_ n8_ n9_ n10_ n11_ n12_ n13_ n14_; (try clear hb); (try clear hkp); (try clear hy0); have hcz119_0 : w118.cell? ⟨gb412, 0, none⟩ = some (.slice Ao93 t408.length co93) := (blk_cell BK412.out 0).trans rfl; have hfz119_0 := blk_frozen BK412.out 0) | ((with_reducible refine gate_callee (f := 52) rfl ?_); refine goesL_ (some 96) rfl rfl Try.func52 (by kernel_rfl) rfl #[.agg #[.slice Ao93 t428.length co93], .int .i64 1] rfl (by (try simp only [List.map_toArray, List.map_cons, List.map_nil]); first | done | (rw [show t428.length = t408.length from (Kd.R_reads' HO410.out).1.symm] <;> rfl) | rfl | (simp only [List.length_drop, List.length_take]; rfl)) ?_; (with_reducible refine (laws_heldSemigroup.calls k _ _ t428 1 t429 _ ?side1 ?side2 A42.out).mono ?_); (case side1 => repeat (first | exact (Kd.R_reads' HO410.out).2.2 | (with_reducible refine Kd.C_alloc ?_ _) | (with_reducible refine Kd.C_drewN ?_ _) | (with_reducible refine Kd.C_drew ?_))); (case side2 => rw [show t428.length = t408.length from (Kd.R_reads' HO410.out).1.symm]; exact (Kd.R_reads' HO410.out).2.1); rintro e w120 ⟨rfl, hb⟩; refine ⟨_, rfl, ?_⟩; have n0_ := Aside0.mk (Kd.R_below (kr_ HO391.out) hb); have n1_ := Aside0.mk (Kd.R_below (kr_ HO394.out) hb); have n2_ := Aside0.mk (Kd.R_below (kr_ HO397.out) hb); have n3_ := Aside0.mk (Kd.R_below (kr_ HO402.out) hb); have n4_ := Aside0.mk (Kd.R_below (kr_ HO406.out) hb); have n5_ := Aside0.mk (Kd.R_below (kr_ HO410.out) hb); have n6_ := Aside0.mk (Kd.R_below (kr_ HO416.out) hb); have n7_ := Aside0.mk (Kd.R_below (kr_ HO420.out) hb); have n8_ := Aside0.mk (blk_below (bk_ BK385.out) hb); have n9_ := Aside0.mk (blk_below (bk_ BK386.out) hb); have n10_ := Aside0.mk (blk_below (bk_ BK399.out) hb); have n11_ := Aside0.mk (blk_below (bk_ BK403.out) hb); have n12_ := Aside0.mk (blk_below (bk_ BK407.out) hb); have n13_ := Aside0.mk (blk_below (bk_ BK412.out) hb); have n14_ := Aside0.mk (below_step (bl_ HB.out) hb); clear HO391; clear HO394; clear HO397; clear HO402; clear HO406; clear HO410; clear HO416; clear HO420; clear BK385; clear BK386; clear BK399; clear BK403; clear BK407; clear BK412; clear HB; have HO391 := n0_; have HO394 := n1_; have HO397 := n2_; have HO402 := n3_; have HO406 := n4_; have HO410 := n5_; have HO416 := n6_; have HO420 := n7_; have BK385 := n8_; have BK386 := n9_; have BK399 := n10_; have BK403 := n11_; have BK407 := n12_; have BK412 := n13_; have HB := n14_; clear n0_ n1_ n2_ n3_ n4_ n5_ n6_ n7_ n8_ n9_ n10_ n11_ n12_ n13_ n14_; (try clear hb); (try clear hb2); (try clear hk); (try clear hi)))
               have n0_ := Aside0.mk (Kd.R_drew HO391.out)
               have n1_ := Aside0.mk (Kd.R_drew HO394.out)
               have n2_ := Aside0.mk (Kd.R_drew HO397.out)
               have n3_ := Aside0.mk (Kd.R_drew HO402.out)
               have n4_ := Aside0.mk (Kd.R_drew HO406.out)
               have n5_ := Aside0.mk (Kd.R_drew HO410.out)
               have n6_ := Aside0.mk (Kd.R_drew HO416.out)
               have n7_ := Aside0.mk (Kd.R_drew HO420.out)
               have n8_ := Aside0.mk (blk_drew BK385.out)
               have n9_ := Aside0.mk (blk_drew BK386.out)
               have n10_ := Aside0.mk (blk_drew BK399.out)
               have n11_ := Aside0.mk (blk_drew BK403.out)
               have n12_ := Aside0.mk (blk_drew BK407.out)
               have n13_ := Aside0.mk (blk_drew BK412.out)
               have n14_ := Aside0.mk (below_drew1 HB.out)
               clear HO391
               clear HO394
               clear HO397
               clear HO402
               clear HO406
               clear HO410
               clear HO416
               clear HO420
               clear BK385
               clear BK386
               clear BK399
               clear BK403
               clear BK407
               clear BK412
               clear HB
               have HO391 := n0_
               have HO394 := n1_
               have HO397 := n2_
               have HO402 := n3_
               have HO406 := n4_
               have HO410 := n5_
               have HO416 := n6_
               have HO420 := n7_
               have BK385 := n8_
               have BK386 := n9_
               have BK399 := n10_
               have BK403 := n11_
               have BK407 := n12_
               have BK412 := n13_
               have HB := n14_
               clear n0_ n1_ n2_ n3_ n4_ n5_ n6_ n7_ n8_ n9_ n10_ n11_ n12_ n13_ n14_
               refine start_ (n := 13) (S := fun w' => w'.cell? ⟨gb385, 0, none⟩ = some (.slice A0_0 l0_0.length c0_0) ∧ w'.cell? ⟨gb386, 0, none⟩ = some (.slice A1_0 l1_0.length c1_0)) (ds := []) #[f_,f_,f_,f_,f_,f_,f_,f_,f_,f_,f_,f_,f_] (by kernel_rfl) rfl rfl ⟨(blk_cell BK385.out 0).trans rfl, (blk_cell BK386.out 0).trans rfl⟩ (fun hHeld => ?_); refine with_tabW laws_FnExactGlueOf.tab31 laws_FnExactGlueOf.bits31 (fun HT_ HW_ => ?_)
               generalize w120.drew = w121 at HO391 HO394 HO397 HO402 HO406 HO410 HO416 HO420 BK385 BK386 BK399 BK403 BK407 BK412 HB hHeld ⊢
               refine pure_ (i := 4) (N := some 107) (v := ?_) (a' := ?_) #[f_,f_,f_,f_,t_,f_,f_,f_,f_,f_,f_,f_,f_] rfl rfl (any_of HT_.out (by kernel_rfl)) (fun _ _ _ h => h) (Or.inl ⟨by rfl, ?_⟩) ?_ ?_
               rotate_left
               ·intro w'
                go_simp
                with_reducible rfl
               rotate_left
               ·simp only [Act.put, List.setIfInBounds_toArray, List.set_cons_zero, List.set_cons_succ, i64_w, i32_w]
                rfl
               refine pure_ (i := 5) (N := some 108) (v := ?_) (a' := ?_) #[f_,f_,f_,f_,t_,t_,f_,f_,f_,f_,f_,f_,f_] rfl rfl (any_of HT_.out (by kernel_rfl)) (fun _ _ _ h => h) (Or.inl ⟨by rfl, ?_⟩) ?_ ?_
               rotate_left
               ·intro w'
                go_simp
                with_reducible rfl
               rotate_left
               ·simp only [Act.put, List.setIfInBounds_toArray, List.set_cons_zero, List.set_cons_succ, i64_w, i32_w]
                rfl
               refine take_ (i := 0) (N := some 103) (v := ?_) (a' := ?_) #[t_,f_,f_,f_,t_,t_,f_,f_,f_,f_,f_,f_,f_] rfl rfl (take_ofW HT_.out HW_.out (by kernel_rfl)) (fun _ _ _ h => h) (Or.inl ⟨by rfl, ?_⟩) hHeld ?_ ?_
               rotate_left
               ·rintro w' ⟨s0, s1⟩
                go_simp
                with_reducible rfl
               rotate_left
               ·simp only [Act.put, List.setIfInBounds_toArray, List.set_cons_zero, List.set_cons_succ, i64_w, i32_w]
                rfl
               refine take_ (i := 2) (N := some 105) (v := ?_) (a' := ?_) #[t_,f_,t_,f_,t_,t_,f_,f_,f_,f_,f_,f_,f_] rfl rfl (take_ofW HT_.out HW_.out (by kernel_rfl)) (fun _ _ _ h => h) (Or.inl ⟨by rfl, ?_⟩) hHeld ?_ ?_
               rotate_left
               ·rintro w' ⟨s0, s1⟩
                go_simp
                with_reducible rfl
               rotate_left
               ·simp only [Act.put, List.setIfInBounds_toArray, List.set_cons_zero, List.set_cons_succ, i64_w, i32_w]
                rfl
               refine join_ (σ := Value × Value × Value × Nat) 2 #[t_,t_,t_,t_,t_,t_,t_,t_,t_,t_,t_,f_,f_] (fun s_ => [(104, .agg #[s_.1]), (106, .agg #[s_.2.1]), (109, .tuple #[.agg #[s_.2.2.1], .bool t439]), (19, .pointer (some ⟨s_.2.2.2, 0, none⟩)), (102, .tuple #[.agg #[s_.2.2.1], .bool t439]), (110, .agg #[s_.2.2.1]), (111, .bool t439)]) (fun s_ w' => (w'.cell? ⟨gb385, 0, none⟩ = some (.slice A0_0 l0_0.length c0_0) ∧ w'.cell? ⟨gb386, 0, none⟩ = some (.slice A1_0 l1_0.length c1_0)) ∧ (Kd.R (Kd.int .i64) 3 w' w.heap.size (fun k_ => some k_ ≠ (v393 : Value).ownBlock ∧ some k_ ≠ (.slice Ao69 t395.length co69 : Value).ownBlock ∧ some k_ ≠ (.slice Ao75 t400.length co75 : Value).ownBlock ∧ some k_ ≠ (.slice Ao84 t404.length co84 : Value).ownBlock ∧ some k_ ≠ (.slice Ao93 t408.length co93 : Value).ownBlock ∧ some k_ ≠ (.slice Ao104 t414.length co104 : Value).ownBlock ∧ some k_ ≠ (.slice Ao108 t418.length co108 : Value).ownBlock ∧ some k_ ≠ (s_.1 : Value).ownBlock ∧ some k_ ≠ (s_.2.1 : Value).ownBlock ∧ some k_ ≠ (s_.2.2.1 : Value).ownBlock) v390 t389) ∧ (Kd.R (Kd.int .i64) 3 w' w.heap.size (fun k_ => some k_ ≠ (v390 : Value).ownBlock ∧ some k_ ≠ (.slice Ao69 t395.length co69 : Value).ownBlock ∧ some k_ ≠ (.slice Ao75 t400.length co75 : Value).ownBlock ∧ some k_ ≠ (.slice Ao84 t404.length co84 : Value).ownBlock ∧ some k_ ≠ (.slice Ao93 t408.length co93 : Value).ownBlock ∧ some k_ ≠ (.slice Ao104 t414.length co104 : Value).ownBlock ∧ some k_ ≠ (.slice Ao108 t418.length co108 : Value).ownBlock ∧ some k_ ≠ (s_.1 : Value).ownBlock ∧ some k_ ≠ (s_.2.1 : Value).ownBlock ∧ some k_ ≠ (s_.2.2.1 : Value).ownBlock) v393 t392) ∧ (Kd.R (Kd.int .i64) 3 w' w.heap.size (fun k_ => some k_ ≠ (v390 : Value).ownBlock ∧ some k_ ≠ (v393 : Value).ownBlock ∧ some k_ ≠ (.slice Ao75 t400.length co75 : Value).ownBlock ∧ some k_ ≠ (.slice Ao84 t404.length co84 : Value).ownBlock ∧ some k_ ≠ (.slice Ao93 t408.length co93 : Value).ownBlock ∧ some k_ ≠ (.slice Ao104 t414.length co104 : Value).ownBlock ∧ some k_ ≠ (.slice Ao108 t418.length co108 : Value).ownBlock ∧ some k_ ≠ (s_.1 : Value).ownBlock ∧ some k_ ≠ (s_.2.1 : Value).ownBlock ∧ some k_ ≠ (s_.2.2.1 : Value).ownBlock) (.slice Ao69 t395.length co69) t395) ∧ (Kd.R (Kd.int .i64) 3 w' w.heap.size (fun k_ => some k_ ≠ (v390 : Value).ownBlock ∧ some k_ ≠ (v393 : Value).ownBlock ∧ some k_ ≠ (.slice Ao69 t395.length co69 : Value).ownBlock ∧ some k_ ≠ (.slice Ao84 t404.length co84 : Value).ownBlock ∧ some k_ ≠ (.slice Ao93 t408.length co93 : Value).ownBlock ∧ some k_ ≠ (.slice Ao104 t414.length co104 : Value).ownBlock ∧ some k_ ≠ (.slice Ao108 t418.length co108 : Value).ownBlock ∧ some k_ ≠ (s_.1 : Value).ownBlock ∧ some k_ ≠ (s_.2.1 : Value).ownBlock ∧ some k_ ≠ (s_.2.2.1 : Value).ownBlock) (.slice Ao75 t400.length co75) t423) ∧ (Kd.R (Kd.int .i64) 3 w' w.heap.size (fun k_ => some k_ ≠ (v390 : Value).ownBlock ∧ some k_ ≠ (v393 : Value).ownBlock ∧ some k_ ≠ (.slice Ao69 t395.length co69 : Value).ownBlock ∧ some k_ ≠ (.slice Ao75 t400.length co75 : Value).ownBlock ∧ some k_ ≠ (.slice Ao93 t408.length co93 : Value).ownBlock ∧ some k_ ≠ (.slice Ao104 t414.length co104 : Value).ownBlock ∧ some k_ ≠ (.slice Ao108 t418.length co108 : Value).ownBlock ∧ some k_ ≠ (s_.1 : Value).ownBlock ∧ some k_ ≠ (s_.2.1 : Value).ownBlock ∧ some k_ ≠ (s_.2.2.1 : Value).ownBlock) (.slice Ao84 t404.length co84) t425) ∧ (Kd.R (Kd.int .i64) 3 w' w.heap.size (fun k_ => some k_ ≠ (v390 : Value).ownBlock ∧ some k_ ≠ (v393 : Value).ownBlock ∧ some k_ ≠ (.slice Ao69 t395.length co69 : Value).ownBlock ∧ some k_ ≠ (.slice Ao75 t400.length co75 : Value).ownBlock ∧ some k_ ≠ (.slice Ao84 t404.length co84 : Value).ownBlock ∧ some k_ ≠ (.slice Ao104 t414.length co104 : Value).ownBlock ∧ some k_ ≠ (.slice Ao108 t418.length co108 : Value).ownBlock ∧ some k_ ≠ (s_.1 : Value).ownBlock ∧ some k_ ≠ (s_.2.1 : Value).ownBlock ∧ some k_ ≠ (s_.2.2.1 : Value).ownBlock) (.slice Ao93 t408.length co93) t428) ∧ (Kd.R (Kd.int .i64) 3 w' w.heap.size (fun k_ => some k_ ≠ (v390 : Value).ownBlock ∧ some k_ ≠ (v393 : Value).ownBlock ∧ some k_ ≠ (.slice Ao69 t395.length co69 : Value).ownBlock ∧ some k_ ≠ (.slice Ao75 t400.length co75 : Value).ownBlock ∧ some k_ ≠ (.slice Ao84 t404.length co84 : Value).ownBlock ∧ some k_ ≠ (.slice Ao93 t408.length co93 : Value).ownBlock ∧ some k_ ≠ (.slice Ao108 t418.length co108 : Value).ownBlock ∧ some k_ ≠ (s_.1 : Value).ownBlock ∧ some k_ ≠ (s_.2.1 : Value).ownBlock ∧ some k_ ≠ (s_.2.2.1 : Value).ownBlock) (.slice Ao104 t414.length co104) t414) ∧ (Kd.R (Kd.int .i64) 3 w' w.heap.size (fun k_ => some k_ ≠ (v390 : Value).ownBlock ∧ some k_ ≠ (v393 : Value).ownBlock ∧ some k_ ≠ (.slice Ao69 t395.length co69 : Value).ownBlock ∧ some k_ ≠ (.slice Ao75 t400.length co75 : Value).ownBlock ∧ some k_ ≠ (.slice Ao84 t404.length co84 : Value).ownBlock ∧ some k_ ≠ (.slice Ao93 t408.length co93 : Value).ownBlock ∧ some k_ ≠ (.slice Ao104 t414.length co104 : Value).ownBlock ∧ some k_ ≠ (s_.1 : Value).ownBlock ∧ some k_ ≠ (s_.2.1 : Value).ownBlock ∧ some k_ ≠ (s_.2.2.1 : Value).ownBlock) (.slice Ao108 t418.length co108) t418) ∧ (Kd.R (Kd.int .i64) 3 w' w.heap.size (fun k_ => some k_ ≠ (v390 : Value).ownBlock ∧ some k_ ≠ (v393 : Value).ownBlock ∧ some k_ ≠ (.slice Ao69 t395.length co69 : Value).ownBlock ∧ some k_ ≠ (.slice Ao75 t400.length co75 : Value).ownBlock ∧ some k_ ≠ (.slice Ao84 t404.length co84 : Value).ownBlock ∧ some k_ ≠ (.slice Ao93 t408.length co93 : Value).ownBlock ∧ some k_ ≠ (.slice Ao104 t414.length co104 : Value).ownBlock ∧ some k_ ≠ (.slice Ao108 t418.length co108 : Value).ownBlock ∧ some k_ ≠ (s_.2.1 : Value).ownBlock ∧ some k_ ≠ (s_.2.2.1 : Value).ownBlock) s_.1 t430) ∧ (Kd.R (Kd.int .i64) 3 w' w.heap.size (fun k_ => some k_ ≠ (v390 : Value).ownBlock ∧ some k_ ≠ (v393 : Value).ownBlock ∧ some k_ ≠ (.slice Ao69 t395.length co69 : Value).ownBlock ∧ some k_ ≠ (.slice Ao75 t400.length co75 : Value).ownBlock ∧ some k_ ≠ (.slice Ao84 t404.length co84 : Value).ownBlock ∧ some k_ ≠ (.slice Ao93 t408.length co93 : Value).ownBlock ∧ some k_ ≠ (.slice Ao104 t414.length co104 : Value).ownBlock ∧ some k_ ≠ (.slice Ao108 t418.length co108 : Value).ownBlock ∧ some k_ ≠ (s_.1 : Value).ownBlock ∧ some k_ ≠ (s_.2.2.1 : Value).ownBlock) s_.2.1 t433) ∧ (Kd.R (Kd.int .i64) 3 w' w.heap.size (fun k_ => some k_ ≠ (v390 : Value).ownBlock ∧ some k_ ≠ (v393 : Value).ownBlock ∧ some k_ ≠ (.slice Ao69 t395.length co69 : Value).ownBlock ∧ some k_ ≠ (.slice Ao75 t400.length co75 : Value).ownBlock ∧ some k_ ≠ (.slice Ao84 t404.length co84 : Value).ownBlock ∧ some k_ ≠ (.slice Ao93 t408.length co93 : Value).ownBlock ∧ some k_ ≠ (.slice Ao104 t414.length co104 : Value).ownBlock ∧ some k_ ≠ (.slice Ao108 t418.length co108 : Value).ownBlock ∧ some k_ ≠ (s_.1 : Value).ownBlock ∧ some k_ ≠ (s_.2.1 : Value).ownBlock) s_.2.2.1 t436) ∧ (w'.heap[gb385]? = some (.cells #[.slice A0_0 l0_0.length c0_0] 46 (0, 0))) ∧ (w'.heap[gb386]? = some (.cells #[.slice A1_0 l1_0.length c1_0] 46 (0, 0))) ∧ (w'.heap[gb399]? = some (.cells #[.slice Ao69 t395.length co69] 41 (0, 0))) ∧ (w'.heap[gb403]? = some (.cells #[.slice Ao75 t400.length co75] 41 (0, 0))) ∧ (w'.heap[gb407]? = some (.cells #[.slice Ao84 t404.length co84] 41 (0, 0))) ∧ (w'.heap[gb412]? = some (.cells #[.slice Ao93 t408.length co93] 41 (0, 0))) ∧ (w'.heap[s_.2.2.2]? = some (.cells #[.slice none 0 0] 41 (0, 0))) ∧ (w.heap.size ≤ s_.2.2.2) ∧ (w.heap.size ≤ s_.2.2.2) ∧ (gb385 ≠ s_.2.2.2) ∧ (s_.2.2.2 ≠ gb385) ∧ (gb386 ≠ s_.2.2.2) ∧ (s_.2.2.2 ≠ gb386) ∧ (gb399 ≠ s_.2.2.2) ∧ (s_.2.2.2 ≠ gb399) ∧ (gb403 ≠ s_.2.2.2) ∧ (s_.2.2.2 ≠ gb403) ∧ (gb407 ≠ s_.2.2.2) ∧ (s_.2.2.2 ≠ gb407) ∧ (gb412 ≠ s_.2.2.2) ∧ (s_.2.2.2 ≠ gb412) ∧ (Below w.heap.size w w')) ?_ ?_
               rotate_left
               ·intro hCont
                refine two_ (i := 1) (j := 10) (Ni := some 104) (Nj := some 19) #[t_,t_,t_,f_,t_,t_,f_,f_,f_,f_,f_,f_,f_] #[t_,f_,t_,f_,t_,t_,f_,f_,f_,f_,t_,f_,f_] rfl rfl rfl rfl (two_of HT_.out (by kernel_rfl)) (by decide) (by decide) (fun K hK => ?_) (fun K hK => ?_)
                ·skip
                 refine goes_ Try.func48 (by kernel_rfl) rfl #[.agg #[.slice A0_0 l0_0.length c0_0]] (by rfl) rfl rfl (by (try simp only [List.map_toArray, List.map_cons, List.map_nil]); first | done | rfl | (simp only [List.length_drop, List.length_take]; rfl)) ?_
                 with_reducible refine (laws_toSemigroup.calls k _ _ l0_0 t430 _ ?side1 ?side2 A45.out).mono ?_
                 (case side1 => repeat (first | exact (Kd.C_below HR0_0.out HB.out) | exact HR0_0.out | (with_reducible refine Kd.C_alloc ?_ _) | (with_reducible refine Kd.C_drewN ?_ _) | (with_reducible refine Kd.C_drew ?_)))
                 (case side2 => exact HC0_0.out)
                 rintro e w122 ⟨v431, rfl, ho0, hb⟩
                 refine ⟨_, rfl, ?_⟩
                 have n0_ := Aside0.mk (Kd.R_elder' (kr_ HO391.out) (Kd.R_base ho0) hb)
                 have n1_ := Aside0.mk (Kd.R_elder' (kr_ HO394.out) (Kd.R_base ho0) hb)
                 have n2_ := Aside0.mk (Kd.R_elder' (kr_ HO397.out) (Kd.R_base ho0) hb)
                 have n3_ := Aside0.mk (Kd.R_elder' (kr_ HO402.out) (Kd.R_base ho0) hb)
                 have n4_ := Aside0.mk (Kd.R_elder' (kr_ HO406.out) (Kd.R_base ho0) hb)
                 have n5_ := Aside0.mk (Kd.R_elder' (kr_ HO410.out) (Kd.R_base ho0) hb)
                 have n6_ := Aside0.mk (Kd.R_elder' (kr_ HO416.out) (Kd.R_base ho0) hb)
                 have n7_ := Aside0.mk (Kd.R_elder' (kr_ HO420.out) (Kd.R_base ho0) hb)
                 have n8_ := Aside0.mk (Kd.R_lower (Kd.R_new' (Kd.R_new' (Kd.R_new' (Kd.R_new' (Kd.R_new' (Kd.R_new' (Kd.R_new' (Kd.R_new' ho0 (Kd.R_lt (kr_ HO391.out))) (Kd.R_lt (kr_ HO394.out))) (Kd.R_lt (kr_ HO397.out))) (Kd.R_lt (kr_ HO402.out))) (Kd.R_lt (kr_ HO406.out))) (Kd.R_lt (kr_ HO410.out))) (Kd.R_lt (kr_ HO416.out))) (Kd.R_lt (kr_ HO420.out))) (below_size (bl_ HB.out)))
                 have n9_ := Aside0.mk (blk_below (bk_ BK385.out) hb)
                 have n10_ := Aside0.mk (blk_below (bk_ BK386.out) hb)
                 have n11_ := Aside0.mk (blk_below (bk_ BK399.out) hb)
                 have n12_ := Aside0.mk (blk_below (bk_ BK403.out) hb)
                 have n13_ := Aside0.mk (blk_below (bk_ BK407.out) hb)
                 have n14_ := Aside0.mk (blk_below (bk_ BK412.out) hb)
                 have n15_ := Aside0.mk (below_step (bl_ HB.out) hb)
                 clear HO391
                 clear HO394
                 clear HO397
                 clear HO402
                 clear HO406
                 clear HO410
                 clear HO416
                 clear HO420
                 clear BK385
                 clear BK386
                 clear BK399
                 clear BK403
                 clear BK407
                 clear BK412
                 clear HB
                 have HO391 := n0_
                 have HO394 := n1_
                 have HO397 := n2_
                 have HO402 := n3_
                 have HO406 := n4_
                 have HO410 := n5_
                 have HO416 := n6_
                 have HO420 := n7_
                 have HO432 := n8_
                 have BK385 := n9_
                 have BK386 := n10_
                 have BK399 := n11_
                 have BK403 := n12_
                 have BK407 := n13_
                 have BK412 := n14_
                 have HB := n15_
                 clear n0_ n1_ n2_ n3_ n4_ n5_ n6_ n7_ n8_ n9_ n10_ n11_ n12_ n13_ n14_ n15_
                 (try clear hb)
                 (try clear hb2)
                 (try clear hk)
                 (try clear hi)
                 (try clear ho0)
                 refine hK.out _ _ ⟨(blk_cell BK385.out 0).trans rfl, (blk_cell BK386.out 0).trans rfl⟩ (fun hHeld => ?_)
                 clear hK K
                 refine norm_ (a' := ?_) ?_ ?_
                 rotate_left
                 ·show Act.put _ (some 104) _ = _
                  simp only [Act.put, List.setIfInBounds_toArray, List.set_cons_zero, List.set_cons_succ, i64_w, i32_w]
                  rfl
                 refine two_ (i := 3) (j := 10) (Ni := some 106) (Nj := some 19) #[t_,t_,t_,t_,t_,t_,f_,f_,f_,f_,f_,f_,f_] #[t_,t_,t_,f_,t_,t_,f_,f_,f_,f_,t_,f_,f_] rfl rfl rfl rfl (two_of HT_.out (by kernel_rfl)) (by decide) (by decide) (fun K hK => ?_) (fun K hK => ?_)
                 ·skip
                  refine goes_ Try.func48 (by kernel_rfl) rfl #[.agg #[.slice A1_0 l1_0.length c1_0]] (by rfl) rfl rfl (by (try simp only [List.map_toArray, List.map_cons, List.map_nil]); first | done | rfl | (simp only [List.length_drop, List.length_take]; rfl)) ?_
                  with_reducible refine (laws_toSemigroup.calls k _ _ l1_0 t433 _ ?side1 ?side2 A46.out).mono ?_
                  (case side1 => repeat (first | exact (Kd.C_below HR1_0.out HB.out) | exact HR1_0.out | (with_reducible refine Kd.C_alloc ?_ _) | (with_reducible refine Kd.C_drewN ?_ _) | (with_reducible refine Kd.C_drew ?_)))
                  (case side2 => exact HC1_0.out)
                  rintro e w123 ⟨v434, rfl, ho0, hb⟩
                  refine ⟨_, rfl, ?_⟩
                  have n0_ := Aside0.mk (Kd.R_elder' (kr_ HO391.out) (Kd.R_base ho0) hb)
                  have n1_ := Aside0.mk (Kd.R_elder' (kr_ HO394.out) (Kd.R_base ho0) hb)
                  have n2_ := Aside0.mk (Kd.R_elder' (kr_ HO397.out) (Kd.R_base ho0) hb)
                  have n3_ := Aside0.mk (Kd.R_elder' (kr_ HO402.out) (Kd.R_base ho0) hb)
                  have n4_ := Aside0.mk (Kd.R_elder' (kr_ HO406.out) (Kd.R_base ho0) hb)
                  have n5_ := Aside0.mk (Kd.R_elder' (kr_ HO410.out) (Kd.R_base ho0) hb)
                  have n6_ := Aside0.mk (Kd.R_elder' (kr_ HO416.out) (Kd.R_base ho0) hb)
                  have n7_ := Aside0.mk (Kd.R_elder' (kr_ HO420.out) (Kd.R_base ho0) hb)
                  have n8_ := Aside0.mk (Kd.R_elder' (kr_ HO432.out) (Kd.R_base ho0) hb)
                  have n9_ := Aside0.mk (Kd.R_lower (Kd.R_new' (Kd.R_new' (Kd.R_new' (Kd.R_new' (Kd.R_new' (Kd.R_new' (Kd.R_new' (Kd.R_new' (Kd.R_new' ho0 (Kd.R_lt (kr_ HO391.out))) (Kd.R_lt (kr_ HO394.out))) (Kd.R_lt (kr_ HO397.out))) (Kd.R_lt (kr_ HO402.out))) (Kd.R_lt (kr_ HO406.out))) (Kd.R_lt (kr_ HO410.out))) (Kd.R_lt (kr_ HO416.out))) (Kd.R_lt (kr_ HO420.out))) (Kd.R_lt (kr_ HO432.out))) (below_size (bl_ HB.out)))
                  have n10_ := Aside0.mk (blk_below (bk_ BK385.out) hb)
                  have n11_ := Aside0.mk (blk_below (bk_ BK386.out) hb)
                  have n12_ := Aside0.mk (blk_below (bk_ BK399.out) hb)
                  have n13_ := Aside0.mk (blk_below (bk_ BK403.out) hb)
                  have n14_ := Aside0.mk (blk_below (bk_ BK407.out) hb)
                  have n15_ := Aside0.mk (blk_below (bk_ BK412.out) hb)
                  have n16_ := Aside0.mk (below_step (bl_ HB.out) hb)
                  clear HO391
                  clear HO394
                  clear HO397
                  clear HO402
                  clear HO406
                  clear HO410
                  clear HO416
                  clear HO420
                  clear HO432
                  clear BK385
                  clear BK386
                  clear BK399
                  clear BK403
                  clear BK407
                  clear BK412
                  clear HB
                  have HO391 := n0_
                  have HO394 := n1_
                  have HO397 := n2_
                  have HO402 := n3_
                  have HO406 := n4_
                  have HO410 := n5_
                  have HO416 := n6_
                  have HO420 := n7_
                  have HO432 := n8_
                  have HO435 := n9_
                  have BK385 := n10_
                  have BK386 := n11_
                  have BK399 := n12_
                  have BK403 := n13_
                  have BK407 := n14_
                  have BK412 := n15_
                  have HB := n16_
                  clear n0_ n1_ n2_ n3_ n4_ n5_ n6_ n7_ n8_ n9_ n10_ n11_ n12_ n13_ n14_ n15_ n16_
                  (try clear hb)
                  (try clear hb2)
                  (try clear hk)
                  (try clear hi)
                  (try clear ho0)
                  obtain ⟨Ao124, co124, eo124⟩ := Kd.R_slice HO432.out
                  (first | subst eo124 | (injection eo124 with f1_ f2_ f3_; have f4_ := f1_.symm; have f5_ := f3_.symm; clear f1_ f2_ f3_; subst f4_; subst f5_))
                  obtain ⟨Ao125, co125, eo125⟩ := Kd.R_slice HO435.out
                  (first | subst eo125 | (injection eo125 with f1_ f2_ f3_; have f4_ := f1_.symm; have f5_ := f3_.symm; clear f1_ f2_ f3_; subst f4_; subst f5_))
                  refine hK.out _ _ ⟨(blk_cell BK385.out 0).trans rfl, (blk_cell BK386.out 0).trans rfl⟩ (fun hHeld => ?_)
                  clear hK K
                  refine norm_ (a' := ?_) ?_ ?_
                  rotate_left
                  ·show Act.put _ (some 106) _ = _
                   simp only [Act.put, List.setIfInBounds_toArray, List.set_cons_zero, List.set_cons_succ, i64_w, i32_w]
                   rfl
                  refine two_ (i := 6) (j := 10) (Ni := some 109) (Nj := some 19) #[t_,t_,t_,t_,t_,t_,t_,f_,f_,f_,f_,f_,f_] #[t_,t_,t_,t_,t_,t_,f_,f_,f_,f_,t_,f_,f_] rfl rfl rfl rfl (two_of HT_.out (by kernel_rfl)) (by decide) (by decide) (fun K hK => ?_) (fun K hK => ?_)
                  ·skip
                   refine goes_ Try.func56 (by kernel_rfl) rfl #[.agg #[.slice Ao124 t430.length co124], .agg #[.slice Ao125 t433.length co125], .int .i64 a2, .int .i64 a3] (by rfl) rfl rfl (by (try simp only [List.map_toArray, List.map_cons, List.map_nil]); first | done | rfl | (simp only [List.length_drop, List.length_take]; rfl)) ?_
                   with_reducible refine (impl_GlueOf.calls k _ _ t430 _ _ t433 a2 a3 t436 t439 _ ?side1 ?side2 ?side3 ?side4 A47.out).mono ?_
                   (case side1 => repeat (first | exact (Kd.R_reads' HO432.out).2.2 | (with_reducible refine Kd.C_alloc ?_ _) | (with_reducible refine Kd.C_drewN ?_ _) | (with_reducible refine Kd.C_drew ?_)))
                   (case side2 => exact (Kd.R_reads' HO432.out).2.1)
                   (case side3 => repeat (first | exact (Kd.R_reads' HO435.out).2.2 | (with_reducible refine Kd.C_alloc ?_ _) | (with_reducible refine Kd.C_drewN ?_ _) | (with_reducible refine Kd.C_drew ?_)))
                   (case side4 => exact (Kd.R_reads' HO435.out).2.1)
                   rintro e w126 ⟨v437, rfl, ho0, hb⟩
                   refine ⟨_, rfl, ?_⟩
                   have n0_ := Aside0.mk (Kd.R_elder' (kr_ HO391.out) (Kd.R_base ho0) hb)
                   have n1_ := Aside0.mk (Kd.R_elder' (kr_ HO394.out) (Kd.R_base ho0) hb)
                   have n2_ := Aside0.mk (Kd.R_elder' (kr_ HO397.out) (Kd.R_base ho0) hb)
                   have n3_ := Aside0.mk (Kd.R_elder' (kr_ HO402.out) (Kd.R_base ho0) hb)
                   have n4_ := Aside0.mk (Kd.R_elder' (kr_ HO406.out) (Kd.R_base ho0) hb)
                   have n5_ := Aside0.mk (Kd.R_elder' (kr_ HO410.out) (Kd.R_base ho0) hb)
                   have n6_ := Aside0.mk (Kd.R_elder' (kr_ HO416.out) (Kd.R_base ho0) hb)
                   have n7_ := Aside0.mk (Kd.R_elder' (kr_ HO420.out) (Kd.R_base ho0) hb)
                   have n8_ := Aside0.mk (Kd.R_elder' (kr_ HO432.out) (Kd.R_base ho0) hb)
                   have n9_ := Aside0.mk (Kd.R_elder' (kr_ HO435.out) (Kd.R_base ho0) hb)
                   have n10_ := Aside0.mk (Kd.R_lower (Kd.R_new' (Kd.R_new' (Kd.R_new' (Kd.R_new' (Kd.R_new' (Kd.R_new' (Kd.R_new' (Kd.R_new' (Kd.R_new' (Kd.R_new' ho0 (Kd.R_lt (kr_ HO391.out))) (Kd.R_lt (kr_ HO394.out))) (Kd.R_lt (kr_ HO397.out))) (Kd.R_lt (kr_ HO402.out))) (Kd.R_lt (kr_ HO406.out))) (Kd.R_lt (kr_ HO410.out))) (Kd.R_lt (kr_ HO416.out))) (Kd.R_lt (kr_ HO420.out))) (Kd.R_lt (kr_ HO432.out))) (Kd.R_lt (kr_ HO435.out))) (below_size (bl_ HB.out)))
                   have n11_ := Aside0.mk (blk_below (bk_ BK385.out) hb)
                   have n12_ := Aside0.mk (blk_below (bk_ BK386.out) hb)
                   have n13_ := Aside0.mk (blk_below (bk_ BK399.out) hb)
                   have n14_ := Aside0.mk (blk_below (bk_ BK403.out) hb)
                   have n15_ := Aside0.mk (blk_below (bk_ BK407.out) hb)
                   have n16_ := Aside0.mk (blk_below (bk_ BK412.out) hb)
                   have n17_ := Aside0.mk (below_step (bl_ HB.out) hb)
                   clear HO391
                   clear HO394
                   clear HO397
                   clear HO402
                   clear HO406
                   clear HO410
                   clear HO416
                   clear HO420
                   clear HO432
                   clear HO435
                   clear BK385
                   clear BK386
                   clear BK399
                   clear BK403
                   clear BK407
                   clear BK412
                   clear HB
                   have HO391 := n0_
                   have HO394 := n1_
                   have HO397 := n2_
                   have HO402 := n3_
                   have HO406 := n4_
                   have HO410 := n5_
                   have HO416 := n6_
                   have HO420 := n7_
                   have HO432 := n8_
                   have HO435 := n9_
                   have HO438 := n10_
                   have BK385 := n11_
                   have BK386 := n12_
                   have BK399 := n13_
                   have BK403 := n14_
                   have BK407 := n15_
                   have BK412 := n16_
                   have HB := n17_
                   clear n0_ n1_ n2_ n3_ n4_ n5_ n6_ n7_ n8_ n9_ n10_ n11_ n12_ n13_ n14_ n15_ n16_ n17_
                   (try clear hb)
                   (try clear hb2)
                   (try clear hk)
                   (try clear hi)
                   (try clear ho0)
                   refine hK.out _ _ ⟨(blk_cell BK385.out 0).trans rfl, (blk_cell BK386.out 0).trans rfl⟩ (fun hHeld => ?_)
                   clear hK K
                   refine norm_ (a' := ?_) ?_ ?_
                   rotate_left
                   ·show Act.put _ (some 109) _ = _
                    simp only [Act.put, List.setIfInBounds_toArray, List.set_cons_zero, List.set_cons_succ, i64_w, i32_w]
                    rfl
                   refine pure_ (i := 7) (N := some 102) (v := ?_) (a' := ?_) #[t_,t_,t_,t_,t_,t_,t_,t_,f_,f_,f_,f_,f_] rfl rfl (any_of HT_.out (by kernel_rfl)) (fun _ _ _ h => h) (Or.inl ⟨by rfl, ?_⟩) ?_ ?_
                   rotate_left
                   ·intro w'
                    go_simp
                    with_reducible rfl
                   rotate_left
                   ·simp only [Act.put, List.setIfInBounds_toArray, List.set_cons_zero, List.set_cons_succ, i64_w, i32_w]
                    rfl
                   refine pure_ (i := 8) (N := some 110) (v := ?_) (a' := ?_) #[t_,t_,t_,t_,t_,t_,t_,t_,t_,f_,f_,f_,f_] rfl rfl (any_of HT_.out (by kernel_rfl)) (fun _ _ _ h => h) (Or.inl ⟨by rfl, ?_⟩) ?_ ?_
                   rotate_left
                   ·intro w'
                    go_simp
                    with_reducible rfl
                   rotate_left
                   ·simp only [Act.put, List.setIfInBounds_toArray, List.set_cons_zero, List.set_cons_succ, i64_w, i32_w]
                    rfl
                   refine pure_ (i := 9) (N := some 111) (v := ?_) (a' := ?_) #[t_,t_,t_,t_,t_,t_,t_,t_,t_,t_,f_,f_,f_] rfl rfl (any_of HT_.out (by kernel_rfl)) (fun _ _ _ h => h) (Or.inl ⟨by rfl, ?_⟩) ?_ ?_
                   rotate_left
                   ·intro w'
                    go_simp
                    with_reducible rfl
                   rotate_left
                   ·simp only [Act.put, List.setIfInBounds_toArray, List.set_cons_zero, List.set_cons_succ, i64_w, i32_w]
                    rfl
                   refine one_ (i := 10) (N := some 19) #[t_,t_,t_,t_,t_,t_,t_,t_,t_,t_,t_,f_,f_] rfl rfl (one_of HT_.out (by kernel_rfl)) (by decide) (fun K hK => ?_)
                   refine box_step ?hg (N := 19) ?hd (cs := #[.slice none 0 0]) (t := 41) ?hr ?_; (case hd => rfl); (case hg => rfl); (case hr => first | (go_simp; done) | (go_simp; rfl))
                   intro gb440 hg w127 hbox hb
                   have n0_ := Aside0.mk (Kd.R_below (kr_ HO391.out) hb)
                   have n1_ := Aside0.mk (Kd.R_below (kr_ HO394.out) hb)
                   have n2_ := Aside0.mk (Kd.R_below (kr_ HO397.out) hb)
                   have n3_ := Aside0.mk (Kd.R_below (kr_ HO402.out) hb)
                   have n4_ := Aside0.mk (Kd.R_below (kr_ HO406.out) hb)
                   have n5_ := Aside0.mk (Kd.R_below (kr_ HO410.out) hb)
                   have n6_ := Aside0.mk (Kd.R_below (kr_ HO416.out) hb)
                   have n7_ := Aside0.mk (Kd.R_below (kr_ HO420.out) hb)
                   have n8_ := Aside0.mk (Kd.R_below (kr_ HO432.out) hb)
                   have n9_ := Aside0.mk (Kd.R_below (kr_ HO435.out) hb)
                   have n10_ := Aside0.mk (Kd.R_below (kr_ HO438.out) hb)
                   have n11_ := Aside0.mk (blk_below (bk_ BK385.out) hb)
                   have n12_ := Aside0.mk (blk_below (bk_ BK386.out) hb)
                   have n13_ := Aside0.mk (blk_below (bk_ BK399.out) hb)
                   have n14_ := Aside0.mk (blk_below (bk_ BK403.out) hb)
                   have n15_ := Aside0.mk (blk_below (bk_ BK407.out) hb)
                   have n16_ := Aside0.mk (blk_below (bk_ BK412.out) hb)
                   have n17_ := Aside0.mk (below_step (bl_ HB.out) hb)
                   have n18_ := Aside0.mk (hbox)
                   have n19_ := Aside0.mk ((by rw [hg]; exact (below_size (bl_ HB.out)) : w.heap.size ≤ gb440))
                   have n20_ := Aside0.mk ((by rw [hg]; exact (below_size (bl_ HB.out)) : w.heap.size ≤ gb440))
                   have n21_ := Aside0.mk ((by rw [hg]; exact Nat.ne_of_lt (blk_lt (bk_ BK385.out)) : gb385 ≠ gb440))
                   have n22_ := Aside0.mk ((by rw [hg]; exact Nat.ne_of_gt (blk_lt (bk_ BK385.out)) : gb440 ≠ gb385))
                   have n23_ := Aside0.mk ((by rw [hg]; exact Nat.ne_of_lt (blk_lt (bk_ BK386.out)) : gb386 ≠ gb440))
                   have n24_ := Aside0.mk ((by rw [hg]; exact Nat.ne_of_gt (blk_lt (bk_ BK386.out)) : gb440 ≠ gb386))
                   have n25_ := Aside0.mk ((by rw [hg]; exact Nat.ne_of_lt (blk_lt (bk_ BK399.out)) : gb399 ≠ gb440))
                   have n26_ := Aside0.mk ((by rw [hg]; exact Nat.ne_of_gt (blk_lt (bk_ BK399.out)) : gb440 ≠ gb399))
                   have n27_ := Aside0.mk ((by rw [hg]; exact Nat.ne_of_lt (blk_lt (bk_ BK403.out)) : gb403 ≠ gb440))
                   have n28_ := Aside0.mk ((by rw [hg]; exact Nat.ne_of_gt (blk_lt (bk_ BK403.out)) : gb440 ≠ gb403))
                   have n29_ := Aside0.mk ((by rw [hg]; exact Nat.ne_of_lt (blk_lt (bk_ BK407.out)) : gb407 ≠ gb440))
                   have n30_ := Aside0.mk ((by rw [hg]; exact Nat.ne_of_gt (blk_lt (bk_ BK407.out)) : gb440 ≠ gb407))
                   have n31_ := Aside0.mk ((by rw [hg]; exact Nat.ne_of_lt (blk_lt (bk_ BK412.out)) : gb412 ≠ gb440))
                   have n32_ := Aside0.mk ((by rw [hg]; exact Nat.ne_of_gt (blk_lt (bk_ BK412.out)) : gb440 ≠ gb412))
                   clear HO391
                   clear HO394
                   clear HO397
                   clear HO402
                   clear HO406
                   clear HO410
                   clear HO416
                   clear HO420
                   clear HO432
                   clear HO435
                   clear HO438
                   clear BK385
                   clear BK386
                   clear BK399
                   clear BK403
                   clear BK407
                   clear BK412
                   clear HB
                   have HO391 := n0_
                   have HO394 := n1_
                   have HO397 := n2_
                   have HO402 := n3_
                   have HO406 := n4_
                   have HO410 := n5_
                   have HO416 := n6_
                   have HO420 := n7_
                   have HO432 := n8_
                   have HO435 := n9_
                   have HO438 := n10_
                   have BK385 := n11_
                   have BK386 := n12_
                   have BK399 := n13_
                   have BK403 := n14_
                   have BK407 := n15_
                   have BK412 := n16_
                   have HB := n17_
                   have BK440 := n18_
                   have GW440 := n19_
                   have GE440 := n20_
                   have NB385_440 := n21_
                   have NB440_385 := n22_
                   have NB386_440 := n23_
                   have NB440_386 := n24_
                   have NB399_440 := n25_
                   have NB440_399 := n26_
                   have NB403_440 := n27_
                   have NB440_403 := n28_
                   have NB407_440 := n29_
                   have NB440_407 := n30_
                   have NB412_440 := n31_
                   have NB440_412 := n32_
                   clear n0_ n1_ n2_ n3_ n4_ n5_ n6_ n7_ n8_ n9_ n10_ n11_ n12_ n13_ n14_ n15_ n16_ n17_ n18_ n19_ n20_ n21_ n22_ n23_ n24_ n25_ n26_ n27_ n28_ n29_ n30_ n31_ n32_
                   clear hb hbox hg
                   refine hK.out _ _ ⟨(blk_cell BK385.out 0).trans rfl, (blk_cell BK386.out 0).trans rfl⟩ (fun hHeld => ?_)
                   clear hK K
                   refine norm_ (a' := ?_) ?_ ?_
                   rotate_left
                   ·show Act.put _ (some 19) _ = _
                    simp only [Act.put, List.setIfInBounds_toArray, List.set_cons_zero, List.set_cons_succ, i64_w, i32_w]
                    rfl
                   exact norm_ (by simp only [putAll, Act.put, List.setIfInBounds_toArray, List.set_cons_zero, List.set_cons_succ]) (hCont (.slice Ao124 t430.length co124, .slice Ao125 t433.length co125, v437, gb440) _ ⟨hHeld, (by (with_reducible repeat (first | apply Kd.R_alloc | apply Kd.R_drewN | apply Kd.R_drew)); exact Kd.R_mono HO391.out (fun _ hk => ⟨hk.1.1.1.1, ⟨hk.1.1.1.2.1, ⟨hk.1.1.1.2.2.1, ⟨hk.1.1.1.2.2.2.1, ⟨hk.1.1.1.2.2.2.2.1, ⟨hk.1.1.1.2.2.2.2.2.1, ⟨hk.1.1.1.2.2.2.2.2.2, ⟨hk.1.1.2, ⟨hk.1.2, hk.2⟩⟩⟩⟩⟩⟩⟩⟩⟩)), (by (with_reducible repeat (first | apply Kd.R_alloc | apply Kd.R_drewN | apply Kd.R_drew)); exact Kd.R_mono HO394.out (fun _ hk => ⟨hk.1.1.1.1, ⟨hk.1.1.1.2.1, ⟨hk.1.1.1.2.2.1, ⟨hk.1.1.1.2.2.2.1, ⟨hk.1.1.1.2.2.2.2.1, ⟨hk.1.1.1.2.2.2.2.2.1, ⟨hk.1.1.1.2.2.2.2.2.2, ⟨hk.1.1.2, ⟨hk.1.2, hk.2⟩⟩⟩⟩⟩⟩⟩⟩⟩)), (by (with_reducible repeat (first | apply Kd.R_alloc | apply Kd.R_drewN | apply Kd.R_drew)); exact Kd.R_mono HO397.out (fun _ hk => ⟨hk.1.1.1.1, ⟨hk.1.1.1.2.1, ⟨hk.1.1.1.2.2.1, ⟨hk.1.1.1.2.2.2.1, ⟨hk.1.1.1.2.2.2.2.1, ⟨hk.1.1.1.2.2.2.2.2.1, ⟨hk.1.1.1.2.2.2.2.2.2, ⟨hk.1.1.2, ⟨hk.1.2, hk.2⟩⟩⟩⟩⟩⟩⟩⟩⟩)), (by (with_reducible repeat (first | apply Kd.R_alloc | apply Kd.R_drewN | apply Kd.R_drew)); exact Kd.R_mono HO402.out (fun _ hk => ⟨hk.1.1.1.1, ⟨hk.1.1.1.2.1, ⟨hk.1.1.1.2.2.1, ⟨hk.1.1.1.2.2.2.1, ⟨hk.1.1.1.2.2.2.2.1, ⟨hk.1.1.1.2.2.2.2.2.1, ⟨hk.1.1.1.2.2.2.2.2.2, ⟨hk.1.1.2, ⟨hk.1.2, hk.2⟩⟩⟩⟩⟩⟩⟩⟩⟩)), (by (with_reducible repeat (first | apply Kd.R_alloc | apply Kd.R_drewN | apply Kd.R_drew)); exact Kd.R_mono HO406.out (fun _ hk => ⟨hk.1.1.1.1, ⟨hk.1.1.1.2.1, ⟨hk.1.1.1.2.2.1, ⟨hk.1.1.1.2.2.2.1, ⟨hk.1.1.1.2.2.2.2.1, ⟨hk.1.1.1.2.2.2.2.2.1, ⟨hk.1.1.1.2.2.2.2.2.2, ⟨hk.1.1.2, ⟨hk.1.2, hk.2⟩⟩⟩⟩⟩⟩⟩⟩⟩)), (by (with_reducible repeat (first | apply Kd.R_alloc | apply Kd.R_drewN | apply Kd.R_drew)); exact Kd.R_mono HO410.out (fun _ hk => ⟨hk.1.1.1.1, ⟨hk.1.1.1.2.1, ⟨hk.1.1.1.2.2.1, ⟨hk.1.1.1.2.2.2.1, ⟨hk.1.1.1.2.2.2.2.1, ⟨hk.1.1.1.2.2.2.2.2.1, ⟨hk.1.1.1.2.2.2.2.2.2, ⟨hk.1.1.2, ⟨hk.1.2, hk.2⟩⟩⟩⟩⟩⟩⟩⟩⟩)), (by (with_reducible repeat (first | apply Kd.R_alloc | apply Kd.R_drewN | apply Kd.R_drew)); exact Kd.R_mono HO416.out (fun _ hk => ⟨hk.1.1.1.1, ⟨hk.1.1.1.2.1, ⟨hk.1.1.1.2.2.1, ⟨hk.1.1.1.2.2.2.1, ⟨hk.1.1.1.2.2.2.2.1, ⟨hk.1.1.1.2.2.2.2.2.1, ⟨hk.1.1.1.2.2.2.2.2.2, ⟨hk.1.1.2, ⟨hk.1.2, hk.2⟩⟩⟩⟩⟩⟩⟩⟩⟩)), (by (with_reducible repeat (first | apply Kd.R_alloc | apply Kd.R_drewN | apply Kd.R_drew)); exact Kd.R_mono HO420.out (fun _ hk => ⟨hk.1.1.1.1, ⟨hk.1.1.1.2.1, ⟨hk.1.1.1.2.2.1, ⟨hk.1.1.1.2.2.2.1, ⟨hk.1.1.1.2.2.2.2.1, ⟨hk.1.1.1.2.2.2.2.2.1, ⟨hk.1.1.1.2.2.2.2.2.2, ⟨hk.1.1.2, ⟨hk.1.2, hk.2⟩⟩⟩⟩⟩⟩⟩⟩⟩)), (by (with_reducible repeat (first | apply Kd.R_alloc | apply Kd.R_drewN | apply Kd.R_drew)); exact Kd.R_mono HO432.out (fun _ hk => ⟨hk.1.1.1.1.1.1.1.1.1.2, ⟨hk.1.1.1.1.1.1.1.1.2, ⟨hk.1.1.1.1.1.1.1.2, ⟨hk.1.1.1.1.1.1.2, ⟨hk.1.1.1.1.1.2, ⟨hk.1.1.1.1.2, ⟨hk.1.1.1.2, ⟨hk.1.1.2, ⟨hk.1.2, hk.2⟩⟩⟩⟩⟩⟩⟩⟩⟩)), (by (with_reducible repeat (first | apply Kd.R_alloc | apply Kd.R_drewN | apply Kd.R_drew)); exact Kd.R_mono HO435.out (fun _ hk => ⟨hk.1.1.1.1.1.1.1.1.1.2, ⟨hk.1.1.1.1.1.1.1.1.2, ⟨hk.1.1.1.1.1.1.1.2, ⟨hk.1.1.1.1.1.1.2, ⟨hk.1.1.1.1.1.2, ⟨hk.1.1.1.1.2, ⟨hk.1.1.1.2, ⟨hk.1.1.2, ⟨hk.1.2, hk.2⟩⟩⟩⟩⟩⟩⟩⟩⟩)), (by (with_reducible repeat (first | apply Kd.R_alloc | apply Kd.R_drewN | apply Kd.R_drew)); exact Kd.R_mono HO438.out (fun _ hk => ⟨hk.1.1.1.1.1.1.1.1.1.2, ⟨hk.1.1.1.1.1.1.1.1.2, ⟨hk.1.1.1.1.1.1.1.2, ⟨hk.1.1.1.1.1.1.2, ⟨hk.1.1.1.1.1.2, ⟨hk.1.1.1.1.2, ⟨hk.1.1.1.2, ⟨hk.1.1.2, ⟨hk.1.2, hk.2⟩⟩⟩⟩⟩⟩⟩⟩⟩)), (bk_ BK385.out), (bk_ BK386.out), (bk_ BK399.out), (bk_ BK403.out), (bk_ BK407.out), (bk_ BK412.out), (bk_ BK440.out), GW440.out, GE440.out, NB385_440.out, NB440_385.out, NB386_440.out, NB440_386.out, NB399_440.out, NB440_399.out, NB403_440.out, NB440_403.out, NB407_440.out, NB440_407.out, NB412_440.out, NB440_412.out, (bl_ HB.out)⟩)
                  ·skip
                   refine box_step ?hg (N := 19) ?hd (cs := #[.slice none 0 0]) (t := 41) ?hr ?_; (case hd => rfl); (case hg => rfl); (case hr => first | (go_simp; done) | (go_simp; rfl))
                   intro gb440 hg w124 hbox hb
                   have n0_ := Aside0.mk (Kd.R_below (kr_ HO391.out) hb)
                   have n1_ := Aside0.mk (Kd.R_below (kr_ HO394.out) hb)
                   have n2_ := Aside0.mk (Kd.R_below (kr_ HO397.out) hb)
                   have n3_ := Aside0.mk (Kd.R_below (kr_ HO402.out) hb)
                   have n4_ := Aside0.mk (Kd.R_below (kr_ HO406.out) hb)
                   have n5_ := Aside0.mk (Kd.R_below (kr_ HO410.out) hb)
                   have n6_ := Aside0.mk (Kd.R_below (kr_ HO416.out) hb)
                   have n7_ := Aside0.mk (Kd.R_below (kr_ HO420.out) hb)
                   have n8_ := Aside0.mk (Kd.R_below (kr_ HO432.out) hb)
                   have n9_ := Aside0.mk (Kd.R_below (kr_ HO435.out) hb)
                   have n10_ := Aside0.mk (blk_below (bk_ BK385.out) hb)
                   have n11_ := Aside0.mk (blk_below (bk_ BK386.out) hb)
                   have n12_ := Aside0.mk (blk_below (bk_ BK399.out) hb)
                   have n13_ := Aside0.mk (blk_below (bk_ BK403.out) hb)
                   have n14_ := Aside0.mk (blk_below (bk_ BK407.out) hb)
                   have n15_ := Aside0.mk (blk_below (bk_ BK412.out) hb)
                   have n16_ := Aside0.mk (below_step (bl_ HB.out) hb)
                   have n17_ := Aside0.mk (hbox)
                   have n18_ := Aside0.mk ((by rw [hg]; exact (below_size (bl_ HB.out)) : w.heap.size ≤ gb440))
                   have n19_ := Aside0.mk ((by rw [hg]; exact (below_size (bl_ HB.out)) : w.heap.size ≤ gb440))
                   have n20_ := Aside0.mk ((by rw [hg]; exact Nat.ne_of_lt (blk_lt (bk_ BK385.out)) : gb385 ≠ gb440))
                   have n21_ := Aside0.mk ((by rw [hg]; exact Nat.ne_of_gt (blk_lt (bk_ BK385.out)) : gb440 ≠ gb385))
                   have n22_ := Aside0.mk ((by rw [hg]; exact Nat.ne_of_lt (blk_lt (bk_ BK386.out)) : gb386 ≠ gb440))
                   have n23_ := Aside0.mk ((by rw [hg]; exact Nat.ne_of_gt (blk_lt (bk_ BK386.out)) : gb440 ≠ gb386))
                   have n24_ := Aside0.mk ((by rw [hg]; exact Nat.ne_of_lt (blk_lt (bk_ BK399.out)) : gb399 ≠ gb440))
                   have n25_ := Aside0.mk ((by rw [hg]; exact Nat.ne_of_gt (blk_lt (bk_ BK399.out)) : gb440 ≠ gb399))
                   have n26_ := Aside0.mk ((by rw [hg]; exact Nat.ne_of_lt (blk_lt (bk_ BK403.out)) : gb403 ≠ gb440))
                   have n27_ := Aside0.mk ((by rw [hg]; exact Nat.ne_of_gt (blk_lt (bk_ BK403.out)) : gb440 ≠ gb403))
                   have n28_ := Aside0.mk ((by rw [hg]; exact Nat.ne_of_lt (blk_lt (bk_ BK407.out)) : gb407 ≠ gb440))
                   have n29_ := Aside0.mk ((by rw [hg]; exact Nat.ne_of_gt (blk_lt (bk_ BK407.out)) : gb440 ≠ gb407))
                   have n30_ := Aside0.mk ((by rw [hg]; exact Nat.ne_of_lt (blk_lt (bk_ BK412.out)) : gb412 ≠ gb440))
                   have n31_ := Aside0.mk ((by rw [hg]; exact Nat.ne_of_gt (blk_lt (bk_ BK412.out)) : gb440 ≠ gb412))
                   clear HO391
                   clear HO394
                   clear HO397
                   clear HO402
                   clear HO406
                   clear HO410
                   clear HO416
                   clear HO420
                   clear HO432
                   clear HO435
                   clear BK385
                   clear BK386
                   clear BK399
                   clear BK403
                   clear BK407
                   clear BK412
                   clear HB
                   have HO391 := n0_
                   have HO394 := n1_
                   have HO397 := n2_
                   have HO402 := n3_
                   have HO406 := n4_
                   have HO410 := n5_
                   have HO416 := n6_
                   have HO420 := n7_
                   have HO432 := n8_
                   have HO435 := n9_
                   have BK385 := n10_
                   have BK386 := n11_
                   have BK399 := n12_
                   have BK403 := n13_
                   have BK407 := n14_
                   have BK412 := n15_
                   have HB := n16_
                   have BK440 := n17_
                   have GW440 := n18_
                   have GE440 := n19_
                   have NB385_440 := n20_
                   have NB440_385 := n21_
                   have NB386_440 := n22_
                   have NB440_386 := n23_
                   have NB399_440 := n24_
                   have NB440_399 := n25_
                   have NB403_440 := n26_
                   have NB440_403 := n27_
                   have NB407_440 := n28_
                   have NB440_407 := n29_
                   have NB412_440 := n30_
                   have NB440_412 := n31_
                   clear n0_ n1_ n2_ n3_ n4_ n5_ n6_ n7_ n8_ n9_ n10_ n11_ n12_ n13_ n14_ n15_ n16_ n17_ n18_ n19_ n20_ n21_ n22_ n23_ n24_ n25_ n26_ n27_ n28_ n29_ n30_ n31_
                   clear hb hbox hg
                   obtain ⟨Ao125, co125, eo125⟩ := Kd.R_slice HO432.out
                   (first | subst eo125 | (injection eo125 with f1_ f2_ f3_; have f4_ := f1_.symm; have f5_ := f3_.symm; clear f1_ f2_ f3_; subst f4_; subst f5_))
                   obtain ⟨Ao126, co126, eo126⟩ := Kd.R_slice HO435.out
                   (first | subst eo126 | (injection eo126 with f1_ f2_ f3_; have f4_ := f1_.symm; have f5_ := f3_.symm; clear f1_ f2_ f3_; subst f4_; subst f5_))
                   refine hK.out _ _ ⟨(blk_cell BK385.out 0).trans rfl, (blk_cell BK386.out 0).trans rfl⟩ (fun hHeld => ?_)
                   clear hK K
                   refine norm_ (a' := ?_) ?_ ?_
                   rotate_left
                   ·show Act.put _ (some 19) _ = _
                    simp only [Act.put, List.setIfInBounds_toArray, List.set_cons_zero, List.set_cons_succ, i64_w, i32_w]
                    rfl
                   refine one_ (i := 6) (N := some 109) #[t_,t_,t_,t_,t_,t_,t_,f_,f_,f_,t_,f_,f_] rfl rfl (one_of HT_.out (by kernel_rfl)) (by decide) (fun K hK => ?_)
                   refine goes_ Try.func56 (by kernel_rfl) rfl #[.agg #[.slice Ao125 t430.length co125], .agg #[.slice Ao126 t433.length co126], .int .i64 a2, .int .i64 a3] (by rfl) rfl rfl (by (try simp only [List.map_toArray, List.map_cons, List.map_nil]); first | done | rfl | (simp only [List.length_drop, List.length_take]; rfl)) ?_
                   with_reducible refine (impl_GlueOf.calls k _ _ t430 _ _ t433 a2 a3 t436 t439 _ ?side1 ?side2 ?side3 ?side4 A47.out).mono ?_
                   (case side1 => repeat (first | exact (Kd.R_reads' HO432.out).2.2 | (with_reducible refine Kd.C_alloc ?_ _) | (with_reducible refine Kd.C_drewN ?_ _) | (with_reducible refine Kd.C_drew ?_)))
                   (case side2 => exact (Kd.R_reads' HO432.out).2.1)
                   (case side3 => repeat (first | exact (Kd.R_reads' HO435.out).2.2 | (with_reducible refine Kd.C_alloc ?_ _) | (with_reducible refine Kd.C_drewN ?_ _) | (with_reducible refine Kd.C_drew ?_)))
                   (case side4 => exact (Kd.R_reads' HO435.out).2.1)
                   rintro e w127 ⟨v437, rfl, ho0, hb⟩
                   refine ⟨_, rfl, ?_⟩
                   have n0_ := Aside0.mk (Kd.R_elder' (kr_ HO391.out) (Kd.R_base ho0) hb)
                   have n1_ := Aside0.mk (Kd.R_elder' (kr_ HO394.out) (Kd.R_base ho0) hb)
                   have n2_ := Aside0.mk (Kd.R_elder' (kr_ HO397.out) (Kd.R_base ho0) hb)
                   have n3_ := Aside0.mk (Kd.R_elder' (kr_ HO402.out) (Kd.R_base ho0) hb)
                   have n4_ := Aside0.mk (Kd.R_elder' (kr_ HO406.out) (Kd.R_base ho0) hb)
                   have n5_ := Aside0.mk (Kd.R_elder' (kr_ HO410.out) (Kd.R_base ho0) hb)
                   have n6_ := Aside0.mk (Kd.R_elder' (kr_ HO416.out) (Kd.R_base ho0) hb)
                   have n7_ := Aside0.mk (Kd.R_elder' (kr_ HO420.out) (Kd.R_base ho0) hb)
                   have n8_ := Aside0.mk (Kd.R_elder' (kr_ HO432.out) (Kd.R_base ho0) hb)
                   have n9_ := Aside0.mk (Kd.R_elder' (kr_ HO435.out) (Kd.R_base ho0) hb)
                   have n10_ := Aside0.mk (Kd.R_lower (Kd.R_new' (Kd.R_new' (Kd.R_new' (Kd.R_new' (Kd.R_new' (Kd.R_new' (Kd.R_new' (Kd.R_new' (Kd.R_new' (Kd.R_new' ho0 (Kd.R_lt (kr_ HO391.out))) (Kd.R_lt (kr_ HO394.out))) (Kd.R_lt (kr_ HO397.out))) (Kd.R_lt (kr_ HO402.out))) (Kd.R_lt (kr_ HO406.out))) (Kd.R_lt (kr_ HO410.out))) (Kd.R_lt (kr_ HO416.out))) (Kd.R_lt (kr_ HO420.out))) (Kd.R_lt (kr_ HO432.out))) (Kd.R_lt (kr_ HO435.out))) (below_size (bl_ HB.out)))
                   have n11_ := Aside0.mk (blk_below (bk_ BK385.out) hb)
                   have n12_ := Aside0.mk (blk_below (bk_ BK386.out) hb)
                   have n13_ := Aside0.mk (blk_below (bk_ BK399.out) hb)
                   have n14_ := Aside0.mk (blk_below (bk_ BK403.out) hb)
                   have n15_ := Aside0.mk (blk_below (bk_ BK407.out) hb)
                   have n16_ := Aside0.mk (blk_below (bk_ BK412.out) hb)
                   have n17_ := Aside0.mk (blk_below (bk_ BK440.out) hb)
                   have n18_ := Aside0.mk (below_step (bl_ HB.out) hb)
                   clear HO391
                   clear HO394
                   clear HO397
                   clear HO402
                   clear HO406
                   clear HO410
                   clear HO416
                   clear HO420
                   clear HO432
                   clear HO435
                   clear BK385
                   clear BK386
                   clear BK399
                   clear BK403
                   clear BK407
                   clear BK412
                   clear BK440
                   clear HB
                   have HO391 := n0_
                   have HO394 := n1_
                   have HO397 := n2_
                   have HO402 := n3_
                   have HO406 := n4_
                   have HO410 := n5_
                   have HO416 := n6_
                   have HO420 := n7_
                   have HO432 := n8_
                   have HO435 := n9_
                   have HO438 := n10_
                   have BK385 := n11_
                   have BK386 := n12_
                   have BK399 := n13_
                   have BK403 := n14_
                   have BK407 := n15_
                   have BK412 := n16_
                   have BK440 := n17_
                   have HB := n18_
                   clear n0_ n1_ n2_ n3_ n4_ n5_ n6_ n7_ n8_ n9_ n10_ n11_ n12_ n13_ n14_ n15_ n16_ n17_ n18_
                   (try clear hb)
                   (try clear hb2)
                   (try clear hk)
                   (try clear hi)
                   (try clear ho0)
                   refine hK.out _ _ ⟨(blk_cell BK385.out 0).trans rfl, (blk_cell BK386.out 0).trans rfl⟩ (fun hHeld => ?_)
                   clear hK K
                   refine norm_ (a' := ?_) ?_ ?_
                   rotate_left
                   ·show Act.put _ (some 109) _ = _
                    simp only [Act.put, List.setIfInBounds_toArray, List.set_cons_zero, List.set_cons_succ, i64_w, i32_w]
                    rfl
                   refine pure_ (i := 7) (N := some 102) (v := ?_) (a' := ?_) #[t_,t_,t_,t_,t_,t_,t_,t_,f_,f_,t_,f_,f_] rfl rfl (any_of HT_.out (by kernel_rfl)) (fun _ _ _ h => h) (Or.inl ⟨by rfl, ?_⟩) ?_ ?_
                   rotate_left
                   ·intro w'
                    go_simp
                    with_reducible rfl
                   rotate_left
                   ·simp only [Act.put, List.setIfInBounds_toArray, List.set_cons_zero, List.set_cons_succ, i64_w, i32_w]
                    rfl
                   refine pure_ (i := 8) (N := some 110) (v := ?_) (a' := ?_) #[t_,t_,t_,t_,t_,t_,t_,t_,t_,f_,t_,f_,f_] rfl rfl (any_of HT_.out (by kernel_rfl)) (fun _ _ _ h => h) (Or.inl ⟨by rfl, ?_⟩) ?_ ?_
                   rotate_left
                   ·intro w'
                    go_simp
                    with_reducible rfl
                   rotate_left
                   ·simp only [Act.put, List.setIfInBounds_toArray, List.set_cons_zero, List.set_cons_succ, i64_w, i32_w]
                    rfl
                   refine pure_ (i := 9) (N := some 111) (v := ?_) (a' := ?_) #[t_,t_,t_,t_,t_,t_,t_,t_,t_,t_,t_,f_,f_] rfl rfl (any_of HT_.out (by kernel_rfl)) (fun _ _ _ h => h) (Or.inl ⟨by rfl, ?_⟩) ?_ ?_
                   rotate_left
                   ·intro w'
                    go_simp
                    with_reducible rfl
                   rotate_left
                   ·simp only [Act.put, List.setIfInBounds_toArray, List.set_cons_zero, List.set_cons_succ, i64_w, i32_w]
                    rfl
                   exact norm_ (by simp only [putAll, Act.put, List.setIfInBounds_toArray, List.set_cons_zero, List.set_cons_succ]) (hCont (.slice Ao125 t430.length co125, .slice Ao126 t433.length co126, v437, gb440) _ ⟨hHeld, (by (with_reducible repeat (first | apply Kd.R_alloc | apply Kd.R_drewN | apply Kd.R_drew)); exact Kd.R_mono HO391.out (fun _ hk => ⟨hk.1.1.1.1, ⟨hk.1.1.1.2.1, ⟨hk.1.1.1.2.2.1, ⟨hk.1.1.1.2.2.2.1, ⟨hk.1.1.1.2.2.2.2.1, ⟨hk.1.1.1.2.2.2.2.2.1, ⟨hk.1.1.1.2.2.2.2.2.2, ⟨hk.1.1.2, ⟨hk.1.2, hk.2⟩⟩⟩⟩⟩⟩⟩⟩⟩)), (by (with_reducible repeat (first | apply Kd.R_alloc | apply Kd.R_drewN | apply Kd.R_drew)); exact Kd.R_mono HO394.out (fun _ hk => ⟨hk.1.1.1.1, ⟨hk.1.1.1.2.1, ⟨hk.1.1.1.2.2.1, ⟨hk.1.1.1.2.2.2.1, ⟨hk.1.1.1.2.2.2.2.1, ⟨hk.1.1.1.2.2.2.2.2.1, ⟨hk.1.1.1.2.2.2.2.2.2, ⟨hk.1.1.2, ⟨hk.1.2, hk.2⟩⟩⟩⟩⟩⟩⟩⟩⟩)), (by (with_reducible repeat (first | apply Kd.R_alloc | apply Kd.R_drewN | apply Kd.R_drew)); exact Kd.R_mono HO397.out (fun _ hk => ⟨hk.1.1.1.1, ⟨hk.1.1.1.2.1, ⟨hk.1.1.1.2.2.1, ⟨hk.1.1.1.2.2.2.1, ⟨hk.1.1.1.2.2.2.2.1, ⟨hk.1.1.1.2.2.2.2.2.1, ⟨hk.1.1.1.2.2.2.2.2.2, ⟨hk.1.1.2, ⟨hk.1.2, hk.2⟩⟩⟩⟩⟩⟩⟩⟩⟩)), (by (with_reducible repeat (first | apply Kd.R_alloc | apply Kd.R_drewN | apply Kd.R_drew)); exact Kd.R_mono HO402.out (fun _ hk => ⟨hk.1.1.1.1, ⟨hk.1.1.1.2.1, ⟨hk.1.1.1.2.2.1, ⟨hk.1.1.1.2.2.2.1, ⟨hk.1.1.1.2.2.2.2.1, ⟨hk.1.1.1.2.2.2.2.2.1, ⟨hk.1.1.1.2.2.2.2.2.2, ⟨hk.1.1.2, ⟨hk.1.2, hk.2⟩⟩⟩⟩⟩⟩⟩⟩⟩)), (by (with_reducible repeat (first | apply Kd.R_alloc | apply Kd.R_drewN | apply Kd.R_drew)); exact Kd.R_mono HO406.out (fun _ hk => ⟨hk.1.1.1.1, ⟨hk.1.1.1.2.1, ⟨hk.1.1.1.2.2.1, ⟨hk.1.1.1.2.2.2.1, ⟨hk.1.1.1.2.2.2.2.1, ⟨hk.1.1.1.2.2.2.2.2.1, ⟨hk.1.1.1.2.2.2.2.2.2, ⟨hk.1.1.2, ⟨hk.1.2, hk.2⟩⟩⟩⟩⟩⟩⟩⟩⟩)), (by (with_reducible repeat (first | apply Kd.R_alloc | apply Kd.R_drewN | apply Kd.R_drew)); exact Kd.R_mono HO410.out (fun _ hk => ⟨hk.1.1.1.1, ⟨hk.1.1.1.2.1, ⟨hk.1.1.1.2.2.1, ⟨hk.1.1.1.2.2.2.1, ⟨hk.1.1.1.2.2.2.2.1, ⟨hk.1.1.1.2.2.2.2.2.1, ⟨hk.1.1.1.2.2.2.2.2.2, ⟨hk.1.1.2, ⟨hk.1.2, hk.2⟩⟩⟩⟩⟩⟩⟩⟩⟩)), (by (with_reducible repeat (first | apply Kd.R_alloc | apply Kd.R_drewN | apply Kd.R_drew)); exact Kd.R_mono HO416.out (fun _ hk => ⟨hk.1.1.1.1, ⟨hk.1.1.1.2.1, ⟨hk.1.1.1.2.2.1, ⟨hk.1.1.1.2.2.2.1, ⟨hk.1.1.1.2.2.2.2.1, ⟨hk.1.1.1.2.2.2.2.2.1, ⟨hk.1.1.1.2.2.2.2.2.2, ⟨hk.1.1.2, ⟨hk.1.2, hk.2⟩⟩⟩⟩⟩⟩⟩⟩⟩)), (by (with_reducible repeat (first | apply Kd.R_alloc | apply Kd.R_drewN | apply Kd.R_drew)); exact Kd.R_mono HO420.out (fun _ hk => ⟨hk.1.1.1.1, ⟨hk.1.1.1.2.1, ⟨hk.1.1.1.2.2.1, ⟨hk.1.1.1.2.2.2.1, ⟨hk.1.1.1.2.2.2.2.1, ⟨hk.1.1.1.2.2.2.2.2.1, ⟨hk.1.1.1.2.2.2.2.2.2, ⟨hk.1.1.2, ⟨hk.1.2, hk.2⟩⟩⟩⟩⟩⟩⟩⟩⟩)), (by (with_reducible repeat (first | apply Kd.R_alloc | apply Kd.R_drewN | apply Kd.R_drew)); exact Kd.R_mono HO432.out (fun _ hk => ⟨hk.1.1.1.1.1.1.1.1.1.2, ⟨hk.1.1.1.1.1.1.1.1.2, ⟨hk.1.1.1.1.1.1.1.2, ⟨hk.1.1.1.1.1.1.2, ⟨hk.1.1.1.1.1.2, ⟨hk.1.1.1.1.2, ⟨hk.1.1.1.2, ⟨hk.1.1.2, ⟨hk.1.2, hk.2⟩⟩⟩⟩⟩⟩⟩⟩⟩)), (by (with_reducible repeat (first | apply Kd.R_alloc | apply Kd.R_drewN | apply Kd.R_drew)); exact Kd.R_mono HO435.out (fun _ hk => ⟨hk.1.1.1.1.1.1.1.1.1.2, ⟨hk.1.1.1.1.1.1.1.1.2, ⟨hk.1.1.1.1.1.1.1.2, ⟨hk.1.1.1.1.1.1.2, ⟨hk.1.1.1.1.1.2, ⟨hk.1.1.1.1.2, ⟨hk.1.1.1.2, ⟨hk.1.1.2, ⟨hk.1.2, hk.2⟩⟩⟩⟩⟩⟩⟩⟩⟩)), (by (with_reducible repeat (first | apply Kd.R_alloc | apply Kd.R_drewN | apply Kd.R_drew)); exact Kd.R_mono HO438.out (fun _ hk => ⟨hk.1.1.1.1.1.1.1.1.1.2, ⟨hk.1.1.1.1.1.1.1.1.2, ⟨hk.1.1.1.1.1.1.1.2, ⟨hk.1.1.1.1.1.1.2, ⟨hk.1.1.1.1.1.2, ⟨hk.1.1.1.1.2, ⟨hk.1.1.1.2, ⟨hk.1.1.2, ⟨hk.1.2, hk.2⟩⟩⟩⟩⟩⟩⟩⟩⟩)), (bk_ BK385.out), (bk_ BK386.out), (bk_ BK399.out), (bk_ BK403.out), (bk_ BK407.out), (bk_ BK412.out), (bk_ BK440.out), GW440.out, GE440.out, NB385_440.out, NB440_385.out, NB386_440.out, NB440_386.out, NB399_440.out, NB440_399.out, NB403_440.out, NB440_403.out, NB407_440.out, NB440_407.out, NB412_440.out, NB440_412.out, (bl_ HB.out)⟩)
                 ·skip
                  refine box_step ?hg (N := 19) ?hd (cs := #[.slice none 0 0]) (t := 41) ?hr ?_; (case hd => rfl); (case hg => rfl); (case hr => first | (go_simp; done) | (go_simp; rfl))
                  intro gb440 hg w123 hbox hb
                  have n0_ := Aside0.mk (Kd.R_below (kr_ HO391.out) hb)
                  have n1_ := Aside0.mk (Kd.R_below (kr_ HO394.out) hb)
                  have n2_ := Aside0.mk (Kd.R_below (kr_ HO397.out) hb)
                  have n3_ := Aside0.mk (Kd.R_below (kr_ HO402.out) hb)
                  have n4_ := Aside0.mk (Kd.R_below (kr_ HO406.out) hb)
                  have n5_ := Aside0.mk (Kd.R_below (kr_ HO410.out) hb)
                  have n6_ := Aside0.mk (Kd.R_below (kr_ HO416.out) hb)
                  have n7_ := Aside0.mk (Kd.R_below (kr_ HO420.out) hb)
                  have n8_ := Aside0.mk (Kd.R_below (kr_ HO432.out) hb)
                  have n9_ := Aside0.mk (blk_below (bk_ BK385.out) hb)
                  have n10_ := Aside0.mk (blk_below (bk_ BK386.out) hb)
                  have n11_ := Aside0.mk (blk_below (bk_ BK399.out) hb)
                  have n12_ := Aside0.mk (blk_below (bk_ BK403.out) hb)
                  have n13_ := Aside0.mk (blk_below (bk_ BK407.out) hb)
                  have n14_ := Aside0.mk (blk_below (bk_ BK412.out) hb)
                  have n15_ := Aside0.mk (below_step (bl_ HB.out) hb)
                  have n16_ := Aside0.mk (hbox)
                  have n17_ := Aside0.mk ((by rw [hg]; exact (below_size (bl_ HB.out)) : w.heap.size ≤ gb440))
                  have n18_ := Aside0.mk ((by rw [hg]; exact (below_size (bl_ HB.out)) : w.heap.size ≤ gb440))
                  have n19_ := Aside0.mk ((by rw [hg]; exact Nat.ne_of_lt (blk_lt (bk_ BK385.out)) : gb385 ≠ gb440))
                  have n20_ := Aside0.mk ((by rw [hg]; exact Nat.ne_of_gt (blk_lt (bk_ BK385.out)) : gb440 ≠ gb385))
                  have n21_ := Aside0.mk ((by rw [hg]; exact Nat.ne_of_lt (blk_lt (bk_ BK386.out)) : gb386 ≠ gb440))
                  have n22_ := Aside0.mk ((by rw [hg]; exact Nat.ne_of_gt (blk_lt (bk_ BK386.out)) : gb440 ≠ gb386))
                  have n23_ := Aside0.mk ((by rw [hg]; exact Nat.ne_of_lt (blk_lt (bk_ BK399.out)) : gb399 ≠ gb440))
                  have n24_ := Aside0.mk ((by rw [hg]; exact Nat.ne_of_gt (blk_lt (bk_ BK399.out)) : gb440 ≠ gb399))
                  have n25_ := Aside0.mk ((by rw [hg]; exact Nat.ne_of_lt (blk_lt (bk_ BK403.out)) : gb403 ≠ gb440))
                  have n26_ := Aside0.mk ((by rw [hg]; exact Nat.ne_of_gt (blk_lt (bk_ BK403.out)) : gb440 ≠ gb403))
                  have n27_ := Aside0.mk ((by rw [hg]; exact Nat.ne_of_lt (blk_lt (bk_ BK407.out)) : gb407 ≠ gb440))
                  have n28_ := Aside0.mk ((by rw [hg]; exact Nat.ne_of_gt (blk_lt (bk_ BK407.out)) : gb440 ≠ gb407))
                  have n29_ := Aside0.mk ((by rw [hg]; exact Nat.ne_of_lt (blk_lt (bk_ BK412.out)) : gb412 ≠ gb440))
                  have n30_ := Aside0.mk ((by rw [hg]; exact Nat.ne_of_gt (blk_lt (bk_ BK412.out)) : gb440 ≠ gb412))
                  clear HO391
                  clear HO394
                  clear HO397
                  clear HO402
                  clear HO406
                  clear HO410
                  clear HO416
                  clear HO420
                  clear HO432
                  clear BK385
                  clear BK386
                  clear BK399
                  clear BK403
                  clear BK407
                  clear BK412
                  clear HB
                  have HO391 := n0_
                  have HO394 := n1_
                  have HO397 := n2_
                  have HO402 := n3_
                  have HO406 := n4_
                  have HO410 := n5_
                  have HO416 := n6_
                  have HO420 := n7_
                  have HO432 := n8_
                  have BK385 := n9_
                  have BK386 := n10_
                  have BK399 := n11_
                  have BK403 := n12_
                  have BK407 := n13_
                  have BK412 := n14_
                  have HB := n15_
                  have BK440 := n16_
                  have GW440 := n17_
                  have GE440 := n18_
                  have NB385_440 := n19_
                  have NB440_385 := n20_
                  have NB386_440 := n21_
                  have NB440_386 := n22_
                  have NB399_440 := n23_
                  have NB440_399 := n24_
                  have NB403_440 := n25_
                  have NB440_403 := n26_
                  have NB407_440 := n27_
                  have NB440_407 := n28_
                  have NB412_440 := n29_
                  have NB440_412 := n30_
                  clear n0_ n1_ n2_ n3_ n4_ n5_ n6_ n7_ n8_ n9_ n10_ n11_ n12_ n13_ n14_ n15_ n16_ n17_ n18_ n19_ n20_ n21_ n22_ n23_ n24_ n25_ n26_ n27_ n28_ n29_ n30_
                  clear hb hbox hg
                  refine hK.out _ _ ⟨(blk_cell BK385.out 0).trans rfl, (blk_cell BK386.out 0).trans rfl⟩ (fun hHeld => ?_)
                  clear hK K
                  refine norm_ (a' := ?_) ?_ ?_
                  rotate_left
                  ·show Act.put _ (some 19) _ = _
                   simp only [Act.put, List.setIfInBounds_toArray, List.set_cons_zero, List.set_cons_succ, i64_w, i32_w]
                   rfl
                  refine one_ (i := 3) (N := some 106) #[t_,t_,t_,t_,t_,t_,f_,f_,f_,f_,t_,f_,f_] rfl rfl (one_of HT_.out (by kernel_rfl)) (by decide) (fun K hK => ?_)
                  refine goes_ Try.func48 (by kernel_rfl) rfl #[.agg #[.slice A1_0 l1_0.length c1_0]] (by rfl) rfl rfl (by (try simp only [List.map_toArray, List.map_cons, List.map_nil]); first | done | rfl | (simp only [List.length_drop, List.length_take]; rfl)) ?_
                  with_reducible refine (laws_toSemigroup.calls k _ _ l1_0 t433 _ ?side1 ?side2 A46.out).mono ?_
                  (case side1 => repeat (first | exact (Kd.C_below HR1_0.out HB.out) | exact HR1_0.out | (with_reducible refine Kd.C_alloc ?_ _) | (with_reducible refine Kd.C_drewN ?_ _) | (with_reducible refine Kd.C_drew ?_)))
                  (case side2 => exact HC1_0.out)
                  rintro e w124 ⟨v434, rfl, ho0, hb⟩
                  refine ⟨_, rfl, ?_⟩
                  have n0_ := Aside0.mk (Kd.R_elder' (kr_ HO391.out) (Kd.R_base ho0) hb)
                  have n1_ := Aside0.mk (Kd.R_elder' (kr_ HO394.out) (Kd.R_base ho0) hb)
                  have n2_ := Aside0.mk (Kd.R_elder' (kr_ HO397.out) (Kd.R_base ho0) hb)
                  have n3_ := Aside0.mk (Kd.R_elder' (kr_ HO402.out) (Kd.R_base ho0) hb)
                  have n4_ := Aside0.mk (Kd.R_elder' (kr_ HO406.out) (Kd.R_base ho0) hb)
                  have n5_ := Aside0.mk (Kd.R_elder' (kr_ HO410.out) (Kd.R_base ho0) hb)
                  have n6_ := Aside0.mk (Kd.R_elder' (kr_ HO416.out) (Kd.R_base ho0) hb)
                  have n7_ := Aside0.mk (Kd.R_elder' (kr_ HO420.out) (Kd.R_base ho0) hb)
                  have n8_ := Aside0.mk (Kd.R_elder' (kr_ HO432.out) (Kd.R_base ho0) hb)
                  have n9_ := Aside0.mk (Kd.R_lower (Kd.R_new' (Kd.R_new' (Kd.R_new' (Kd.R_new' (Kd.R_new' (Kd.R_new' (Kd.R_new' (Kd.R_new' (Kd.R_new' ho0 (Kd.R_lt (kr_ HO391.out))) (Kd.R_lt (kr_ HO394.out))) (Kd.R_lt (kr_ HO397.out))) (Kd.R_lt (kr_ HO402.out))) (Kd.R_lt (kr_ HO406.out))) (Kd.R_lt (kr_ HO410.out))) (Kd.R_lt (kr_ HO416.out))) (Kd.R_lt (kr_ HO420.out))) (Kd.R_lt (kr_ HO432.out))) (below_size (bl_ HB.out)))
                  have n10_ := Aside0.mk (blk_below (bk_ BK385.out) hb)
                  have n11_ := Aside0.mk (blk_below (bk_ BK386.out) hb)
                  have n12_ := Aside0.mk (blk_below (bk_ BK399.out) hb)
                  have n13_ := Aside0.mk (blk_below (bk_ BK403.out) hb)
                  have n14_ := Aside0.mk (blk_below (bk_ BK407.out) hb)
                  have n15_ := Aside0.mk (blk_below (bk_ BK412.out) hb)
                  have n16_ := Aside0.mk (blk_below (bk_ BK440.out) hb)
                  have n17_ := Aside0.mk (below_step (bl_ HB.out) hb)
                  clear HO391
                  clear HO394
                  clear HO397
                  clear HO402
                  clear HO406
                  clear HO410
                  clear HO416
                  clear HO420
                  clear HO432
                  clear BK385
                  clear BK386
                  clear BK399
                  clear BK403
                  clear BK407
                  clear BK412
                  clear BK440
                  clear HB
                  have HO391 := n0_
                  have HO394 := n1_
                  have HO397 := n2_
                  have HO402 := n3_
                  have HO406 := n4_
                  have HO410 := n5_
                  have HO416 := n6_
                  have HO420 := n7_
                  have HO432 := n8_
                  have HO435 := n9_
                  have BK385 := n10_
                  have BK386 := n11_
                  have BK399 := n12_
                  have BK403 := n13_
                  have BK407 := n14_
                  have BK412 := n15_
                  have BK440 := n16_
                  have HB := n17_
                  clear n0_ n1_ n2_ n3_ n4_ n5_ n6_ n7_ n8_ n9_ n10_ n11_ n12_ n13_ n14_ n15_ n16_ n17_
                  (try clear hb)
                  (try clear hb2)
                  (try clear hk)
                  (try clear hi)
                  (try clear ho0)
                  obtain ⟨Ao125, co125, eo125⟩ := Kd.R_slice HO432.out
                  (first | subst eo125 | (injection eo125 with f1_ f2_ f3_; have f4_ := f1_.symm; have f5_ := f3_.symm; clear f1_ f2_ f3_; subst f4_; subst f5_))
                  obtain ⟨Ao126, co126, eo126⟩ := Kd.R_slice HO435.out
                  (first | subst eo126 | (injection eo126 with f1_ f2_ f3_; have f4_ := f1_.symm; have f5_ := f3_.symm; clear f1_ f2_ f3_; subst f4_; subst f5_))
                  refine hK.out _ _ ⟨(blk_cell BK385.out 0).trans rfl, (blk_cell BK386.out 0).trans rfl⟩ (fun hHeld => ?_)
                  clear hK K
                  refine norm_ (a' := ?_) ?_ ?_
                  rotate_left
                  ·show Act.put _ (some 106) _ = _
                   simp only [Act.put, List.setIfInBounds_toArray, List.set_cons_zero, List.set_cons_succ, i64_w, i32_w]
                   rfl
                  refine one_ (i := 6) (N := some 109) #[t_,t_,t_,t_,t_,t_,t_,f_,f_,f_,t_,f_,f_] rfl rfl (one_of HT_.out (by kernel_rfl)) (by decide) (fun K hK => ?_)
                  refine goes_ Try.func56 (by kernel_rfl) rfl #[.agg #[.slice Ao125 t430.length co125], .agg #[.slice Ao126 t433.length co126], .int .i64 a2, .int .i64 a3] (by rfl) rfl rfl (by (try simp only [List.map_toArray, List.map_cons, List.map_nil]); first | done | rfl | (simp only [List.length_drop, List.length_take]; rfl)) ?_
                  with_reducible refine (impl_GlueOf.calls k _ _ t430 _ _ t433 a2 a3 t436 t439 _ ?side1 ?side2 ?side3 ?side4 A47.out).mono ?_
                  (case side1 => repeat (first | exact (Kd.R_reads' HO432.out).2.2 | (with_reducible refine Kd.C_alloc ?_ _) | (with_reducible refine Kd.C_drewN ?_ _) | (with_reducible refine Kd.C_drew ?_)))
                  (case side2 => exact (Kd.R_reads' HO432.out).2.1)
                  (case side3 => repeat (first | exact (Kd.R_reads' HO435.out).2.2 | (with_reducible refine Kd.C_alloc ?_ _) | (with_reducible refine Kd.C_drewN ?_ _) | (with_reducible refine Kd.C_drew ?_)))
                  (case side4 => exact (Kd.R_reads' HO435.out).2.1)
                  rintro e w127 ⟨v437, rfl, ho0, hb⟩
                  refine ⟨_, rfl, ?_⟩
                  have n0_ := Aside0.mk (Kd.R_elder' (kr_ HO391.out) (Kd.R_base ho0) hb)
                  have n1_ := Aside0.mk (Kd.R_elder' (kr_ HO394.out) (Kd.R_base ho0) hb)
                  have n2_ := Aside0.mk (Kd.R_elder' (kr_ HO397.out) (Kd.R_base ho0) hb)
                  have n3_ := Aside0.mk (Kd.R_elder' (kr_ HO402.out) (Kd.R_base ho0) hb)
                  have n4_ := Aside0.mk (Kd.R_elder' (kr_ HO406.out) (Kd.R_base ho0) hb)
                  have n5_ := Aside0.mk (Kd.R_elder' (kr_ HO410.out) (Kd.R_base ho0) hb)
                  have n6_ := Aside0.mk (Kd.R_elder' (kr_ HO416.out) (Kd.R_base ho0) hb)
                  have n7_ := Aside0.mk (Kd.R_elder' (kr_ HO420.out) (Kd.R_base ho0) hb)
                  have n8_ := Aside0.mk (Kd.R_elder' (kr_ HO432.out) (Kd.R_base ho0) hb)
                  have n9_ := Aside0.mk (Kd.R_elder' (kr_ HO435.out) (Kd.R_base ho0) hb)
                  have n10_ := Aside0.mk (Kd.R_lower (Kd.R_new' (Kd.R_new' (Kd.R_new' (Kd.R_new' (Kd.R_new' (Kd.R_new' (Kd.R_new' (Kd.R_new' (Kd.R_new' (Kd.R_new' ho0 (Kd.R_lt (kr_ HO391.out))) (Kd.R_lt (kr_ HO394.out))) (Kd.R_lt (kr_ HO397.out))) (Kd.R_lt (kr_ HO402.out))) (Kd.R_lt (kr_ HO406.out))) (Kd.R_lt (kr_ HO410.out))) (Kd.R_lt (kr_ HO416.out))) (Kd.R_lt (kr_ HO420.out))) (Kd.R_lt (kr_ HO432.out))) (Kd.R_lt (kr_ HO435.out))) (below_size (bl_ HB.out)))
                  have n11_ := Aside0.mk (blk_below (bk_ BK385.out) hb)
                  have n12_ := Aside0.mk (blk_below (bk_ BK386.out) hb)
                  have n13_ := Aside0.mk (blk_below (bk_ BK399.out) hb)
                  have n14_ := Aside0.mk (blk_below (bk_ BK403.out) hb)
                  have n15_ := Aside0.mk (blk_below (bk_ BK407.out) hb)
                  have n16_ := Aside0.mk (blk_below (bk_ BK412.out) hb)
                  have n17_ := Aside0.mk (blk_below (bk_ BK440.out) hb)
                  have n18_ := Aside0.mk (below_step (bl_ HB.out) hb)
                  clear HO391
                  clear HO394
                  clear HO397
                  clear HO402
                  clear HO406
                  clear HO410
                  clear HO416
                  clear HO420
                  clear HO432
                  clear HO435
                  clear BK385
                  clear BK386
                  clear BK399
                  clear BK403
                  clear BK407
                  clear BK412
                  clear BK440
                  clear HB
                  have HO391 := n0_
                  have HO394 := n1_
                  have HO397 := n2_
                  have HO402 := n3_
                  have HO406 := n4_
                  have HO410 := n5_
                  have HO416 := n6_
                  have HO420 := n7_
                  have HO432 := n8_
                  have HO435 := n9_
                  have HO438 := n10_
                  have BK385 := n11_
                  have BK386 := n12_
                  have BK399 := n13_
                  have BK403 := n14_
                  have BK407 := n15_
                  have BK412 := n16_
                  have BK440 := n17_
                  have HB := n18_
                  clear n0_ n1_ n2_ n3_ n4_ n5_ n6_ n7_ n8_ n9_ n10_ n11_ n12_ n13_ n14_ n15_ n16_ n17_ n18_
                  (try clear hb)
                  (try clear hb2)
                  (try clear hk)
                  (try clear hi)
                  (try clear ho0)
                  refine hK.out _ _ ⟨(blk_cell BK385.out 0).trans rfl, (blk_cell BK386.out 0).trans rfl⟩ (fun hHeld => ?_)
                  clear hK K
                  refine norm_ (a' := ?_) ?_ ?_
                  rotate_left
                  ·show Act.put _ (some 109) _ = _
                   simp only [Act.put, List.setIfInBounds_toArray, List.set_cons_zero, List.set_cons_succ, i64_w, i32_w]
                   rfl
                  refine pure_ (i := 7) (N := some 102) (v := ?_) (a' := ?_) #[t_,t_,t_,t_,t_,t_,t_,t_,f_,f_,t_,f_,f_] rfl rfl (any_of HT_.out (by kernel_rfl)) (fun _ _ _ h => h) (Or.inl ⟨by rfl, ?_⟩) ?_ ?_
                  rotate_left
                  ·intro w'
                   go_simp
                   with_reducible rfl
                  rotate_left
                  ·simp only [Act.put, List.setIfInBounds_toArray, List.set_cons_zero, List.set_cons_succ, i64_w, i32_w]
                   rfl
                  refine pure_ (i := 8) (N := some 110) (v := ?_) (a' := ?_) #[t_,t_,t_,t_,t_,t_,t_,t_,t_,f_,t_,f_,f_] rfl rfl (any_of HT_.out (by kernel_rfl)) (fun _ _ _ h => h) (Or.inl ⟨by rfl, ?_⟩) ?_ ?_
                  rotate_left
                  ·intro w'
                   go_simp
                   with_reducible rfl
                  rotate_left
                  ·simp only [Act.put, List.setIfInBounds_toArray, List.set_cons_zero, List.set_cons_succ, i64_w, i32_w]
                   rfl
                  refine pure_ (i := 9) (N := some 111) (v := ?_) (a' := ?_) #[t_,t_,t_,t_,t_,t_,t_,t_,t_,t_,t_,f_,f_] rfl rfl (any_of HT_.out (by kernel_rfl)) (fun _ _ _ h => h) (Or.inl ⟨by rfl, ?_⟩) ?_ ?_
                  rotate_left
                  ·intro w'
                   go_simp
                   with_reducible rfl
                  rotate_left
                  ·simp only [Act.put, List.setIfInBounds_toArray, List.set_cons_zero, List.set_cons_succ, i64_w, i32_w]
                   rfl
                  exact norm_ (by simp only [putAll, Act.put, List.setIfInBounds_toArray, List.set_cons_zero, List.set_cons_succ]) (hCont (.slice Ao125 t430.length co125, .slice Ao126 t433.length co126, v437, gb440) _ ⟨hHeld, (by (with_reducible repeat (first | apply Kd.R_alloc | apply Kd.R_drewN | apply Kd.R_drew)); exact Kd.R_mono HO391.out (fun _ hk => ⟨hk.1.1.1.1, ⟨hk.1.1.1.2.1, ⟨hk.1.1.1.2.2.1, ⟨hk.1.1.1.2.2.2.1, ⟨hk.1.1.1.2.2.2.2.1, ⟨hk.1.1.1.2.2.2.2.2.1, ⟨hk.1.1.1.2.2.2.2.2.2, ⟨hk.1.1.2, ⟨hk.1.2, hk.2⟩⟩⟩⟩⟩⟩⟩⟩⟩)), (by (with_reducible repeat (first | apply Kd.R_alloc | apply Kd.R_drewN | apply Kd.R_drew)); exact Kd.R_mono HO394.out (fun _ hk => ⟨hk.1.1.1.1, ⟨hk.1.1.1.2.1, ⟨hk.1.1.1.2.2.1, ⟨hk.1.1.1.2.2.2.1, ⟨hk.1.1.1.2.2.2.2.1, ⟨hk.1.1.1.2.2.2.2.2.1, ⟨hk.1.1.1.2.2.2.2.2.2, ⟨hk.1.1.2, ⟨hk.1.2, hk.2⟩⟩⟩⟩⟩⟩⟩⟩⟩)), (by (with_reducible repeat (first | apply Kd.R_alloc | apply Kd.R_drewN | apply Kd.R_drew)); exact Kd.R_mono HO397.out (fun _ hk => ⟨hk.1.1.1.1, ⟨hk.1.1.1.2.1, ⟨hk.1.1.1.2.2.1, ⟨hk.1.1.1.2.2.2.1, ⟨hk.1.1.1.2.2.2.2.1, ⟨hk.1.1.1.2.2.2.2.2.1, ⟨hk.1.1.1.2.2.2.2.2.2, ⟨hk.1.1.2, ⟨hk.1.2, hk.2⟩⟩⟩⟩⟩⟩⟩⟩⟩)), (by (with_reducible repeat (first | apply Kd.R_alloc | apply Kd.R_drewN | apply Kd.R_drew)); exact Kd.R_mono HO402.out (fun _ hk => ⟨hk.1.1.1.1, ⟨hk.1.1.1.2.1, ⟨hk.1.1.1.2.2.1, ⟨hk.1.1.1.2.2.2.1, ⟨hk.1.1.1.2.2.2.2.1, ⟨hk.1.1.1.2.2.2.2.2.1, ⟨hk.1.1.1.2.2.2.2.2.2, ⟨hk.1.1.2, ⟨hk.1.2, hk.2⟩⟩⟩⟩⟩⟩⟩⟩⟩)), (by (with_reducible repeat (first | apply Kd.R_alloc | apply Kd.R_drewN | apply Kd.R_drew)); exact Kd.R_mono HO406.out (fun _ hk => ⟨hk.1.1.1.1, ⟨hk.1.1.1.2.1, ⟨hk.1.1.1.2.2.1, ⟨hk.1.1.1.2.2.2.1, ⟨hk.1.1.1.2.2.2.2.1, ⟨hk.1.1.1.2.2.2.2.2.1, ⟨hk.1.1.1.2.2.2.2.2.2, ⟨hk.1.1.2, ⟨hk.1.2, hk.2⟩⟩⟩⟩⟩⟩⟩⟩⟩)), (by (with_reducible repeat (first | apply Kd.R_alloc | apply Kd.R_drewN | apply Kd.R_drew)); exact Kd.R_mono HO410.out (fun _ hk => ⟨hk.1.1.1.1, ⟨hk.1.1.1.2.1, ⟨hk.1.1.1.2.2.1, ⟨hk.1.1.1.2.2.2.1, ⟨hk.1.1.1.2.2.2.2.1, ⟨hk.1.1.1.2.2.2.2.2.1, ⟨hk.1.1.1.2.2.2.2.2.2, ⟨hk.1.1.2, ⟨hk.1.2, hk.2⟩⟩⟩⟩⟩⟩⟩⟩⟩)), (by (with_reducible repeat (first | apply Kd.R_alloc | apply Kd.R_drewN | apply Kd.R_drew)); exact Kd.R_mono HO416.out (fun _ hk => ⟨hk.1.1.1.1, ⟨hk.1.1.1.2.1, ⟨hk.1.1.1.2.2.1, ⟨hk.1.1.1.2.2.2.1, ⟨hk.1.1.1.2.2.2.2.1, ⟨hk.1.1.1.2.2.2.2.2.1, ⟨hk.1.1.1.2.2.2.2.2.2, ⟨hk.1.1.2, ⟨hk.1.2, hk.2⟩⟩⟩⟩⟩⟩⟩⟩⟩)), (by (with_reducible repeat (first | apply Kd.R_alloc | apply Kd.R_drewN | apply Kd.R_drew)); exact Kd.R_mono HO420.out (fun _ hk => ⟨hk.1.1.1.1, ⟨hk.1.1.1.2.1, ⟨hk.1.1.1.2.2.1, ⟨hk.1.1.1.2.2.2.1, ⟨hk.1.1.1.2.2.2.2.1, ⟨hk.1.1.1.2.2.2.2.2.1, ⟨hk.1.1.1.2.2.2.2.2.2, ⟨hk.1.1.2, ⟨hk.1.2, hk.2⟩⟩⟩⟩⟩⟩⟩⟩⟩)), (by (with_reducible repeat (first | apply Kd.R_alloc | apply Kd.R_drewN | apply Kd.R_drew)); exact Kd.R_mono HO432.out (fun _ hk => ⟨hk.1.1.1.1.1.1.1.1.1.2, ⟨hk.1.1.1.1.1.1.1.1.2, ⟨hk.1.1.1.1.1.1.1.2, ⟨hk.1.1.1.1.1.1.2, ⟨hk.1.1.1.1.1.2, ⟨hk.1.1.1.1.2, ⟨hk.1.1.1.2, ⟨hk.1.1.2, ⟨hk.1.2, hk.2⟩⟩⟩⟩⟩⟩⟩⟩⟩)), (by (with_reducible repeat (first | apply Kd.R_alloc | apply Kd.R_drewN | apply Kd.R_drew)); exact Kd.R_mono HO435.out (fun _ hk => ⟨hk.1.1.1.1.1.1.1.1.1.2, ⟨hk.1.1.1.1.1.1.1.1.2, ⟨hk.1.1.1.1.1.1.1.2, ⟨hk.1.1.1.1.1.1.2, ⟨hk.1.1.1.1.1.2, ⟨hk.1.1.1.1.2, ⟨hk.1.1.1.2, ⟨hk.1.1.2, ⟨hk.1.2, hk.2⟩⟩⟩⟩⟩⟩⟩⟩⟩)), (by (with_reducible repeat (first | apply Kd.R_alloc | apply Kd.R_drewN | apply Kd.R_drew)); exact Kd.R_mono HO438.out (fun _ hk => ⟨hk.1.1.1.1.1.1.1.1.1.2, ⟨hk.1.1.1.1.1.1.1.1.2, ⟨hk.1.1.1.1.1.1.1.2, ⟨hk.1.1.1.1.1.1.2, ⟨hk.1.1.1.1.1.2, ⟨hk.1.1.1.1.2, ⟨hk.1.1.1.2, ⟨hk.1.1.2, ⟨hk.1.2, hk.2⟩⟩⟩⟩⟩⟩⟩⟩⟩)), (bk_ BK385.out), (bk_ BK386.out), (bk_ BK399.out), (bk_ BK403.out), (bk_ BK407.out), (bk_ BK412.out), (bk_ BK440.out), GW440.out, GE440.out, NB385_440.out, NB440_385.out, NB386_440.out, NB440_386.out, NB399_440.out, NB440_399.out, NB403_440.out, NB440_403.out, NB407_440.out, NB440_407.out, NB412_440.out, NB440_412.out, (bl_ HB.out)⟩)
                ·skip
                 refine box_step ?hg (N := 19) ?hd (cs := #[.slice none 0 0]) (t := 41) ?hr ?_; (case hd => rfl); (case hg => rfl); (case hr => first | (go_simp; done) | (go_simp; rfl))
                 intro gb440 hg w122 hbox hb
                 have n0_ := Aside0.mk (Kd.R_below (kr_ HO391.out) hb)
                 have n1_ := Aside0.mk (Kd.R_below (kr_ HO394.out) hb)
                 have n2_ := Aside0.mk (Kd.R_below (kr_ HO397.out) hb)
                 have n3_ := Aside0.mk (Kd.R_below (kr_ HO402.out) hb)
                 have n4_ := Aside0.mk (Kd.R_below (kr_ HO406.out) hb)
                 have n5_ := Aside0.mk (Kd.R_below (kr_ HO410.out) hb)
                 have n6_ := Aside0.mk (Kd.R_below (kr_ HO416.out) hb)
                 have n7_ := Aside0.mk (Kd.R_below (kr_ HO420.out) hb)
                 have n8_ := Aside0.mk (blk_below (bk_ BK385.out) hb)
                 have n9_ := Aside0.mk (blk_below (bk_ BK386.out) hb)
                 have n10_ := Aside0.mk (blk_below (bk_ BK399.out) hb)
                 have n11_ := Aside0.mk (blk_below (bk_ BK403.out) hb)
                 have n12_ := Aside0.mk (blk_below (bk_ BK407.out) hb)
                 have n13_ := Aside0.mk (blk_below (bk_ BK412.out) hb)
                 have n14_ := Aside0.mk (below_step (bl_ HB.out) hb)
                 have n15_ := Aside0.mk (hbox)
                 have n16_ := Aside0.mk ((by rw [hg]; exact (below_size (bl_ HB.out)) : w.heap.size ≤ gb440))
                 have n17_ := Aside0.mk ((by rw [hg]; exact (below_size (bl_ HB.out)) : w.heap.size ≤ gb440))
                 have n18_ := Aside0.mk ((by rw [hg]; exact Nat.ne_of_lt (blk_lt (bk_ BK385.out)) : gb385 ≠ gb440))
                 have n19_ := Aside0.mk ((by rw [hg]; exact Nat.ne_of_gt (blk_lt (bk_ BK385.out)) : gb440 ≠ gb385))
                 have n20_ := Aside0.mk ((by rw [hg]; exact Nat.ne_of_lt (blk_lt (bk_ BK386.out)) : gb386 ≠ gb440))
                 have n21_ := Aside0.mk ((by rw [hg]; exact Nat.ne_of_gt (blk_lt (bk_ BK386.out)) : gb440 ≠ gb386))
                 have n22_ := Aside0.mk ((by rw [hg]; exact Nat.ne_of_lt (blk_lt (bk_ BK399.out)) : gb399 ≠ gb440))
                 have n23_ := Aside0.mk ((by rw [hg]; exact Nat.ne_of_gt (blk_lt (bk_ BK399.out)) : gb440 ≠ gb399))
                 have n24_ := Aside0.mk ((by rw [hg]; exact Nat.ne_of_lt (blk_lt (bk_ BK403.out)) : gb403 ≠ gb440))
                 have n25_ := Aside0.mk ((by rw [hg]; exact Nat.ne_of_gt (blk_lt (bk_ BK403.out)) : gb440 ≠ gb403))
                 have n26_ := Aside0.mk ((by rw [hg]; exact Nat.ne_of_lt (blk_lt (bk_ BK407.out)) : gb407 ≠ gb440))
                 have n27_ := Aside0.mk ((by rw [hg]; exact Nat.ne_of_gt (blk_lt (bk_ BK407.out)) : gb440 ≠ gb407))
                 have n28_ := Aside0.mk ((by rw [hg]; exact Nat.ne_of_lt (blk_lt (bk_ BK412.out)) : gb412 ≠ gb440))
                 have n29_ := Aside0.mk ((by rw [hg]; exact Nat.ne_of_gt (blk_lt (bk_ BK412.out)) : gb440 ≠ gb412))
                 clear HO391
                 clear HO394
                 clear HO397
                 clear HO402
                 clear HO406
                 clear HO410
                 clear HO416
                 clear HO420
                 clear BK385
                 clear BK386
                 clear BK399
                 clear BK403
                 clear BK407
                 clear BK412
                 clear HB
                 have HO391 := n0_
                 have HO394 := n1_
                 have HO397 := n2_
                 have HO402 := n3_
                 have HO406 := n4_
                 have HO410 := n5_
                 have HO416 := n6_
                 have HO420 := n7_
                 have BK385 := n8_
                 have BK386 := n9_
                 have BK399 := n10_
                 have BK403 := n11_
                 have BK407 := n12_
                 have BK412 := n13_
                 have HB := n14_
                 have BK440 := n15_
                 have GW440 := n16_
                 have GE440 := n17_
                 have NB385_440 := n18_
                 have NB440_385 := n19_
                 have NB386_440 := n20_
                 have NB440_386 := n21_
                 have NB399_440 := n22_
                 have NB440_399 := n23_
                 have NB403_440 := n24_
                 have NB440_403 := n25_
                 have NB407_440 := n26_
                 have NB440_407 := n27_
                 have NB412_440 := n28_
                 have NB440_412 := n29_
                 clear n0_ n1_ n2_ n3_ n4_ n5_ n6_ n7_ n8_ n9_ n10_ n11_ n12_ n13_ n14_ n15_ n16_ n17_ n18_ n19_ n20_ n21_ n22_ n23_ n24_ n25_ n26_ n27_ n28_ n29_
                 clear hb hbox hg
                 refine hK.out _ _ ⟨(blk_cell BK385.out 0).trans rfl, (blk_cell BK386.out 0).trans rfl⟩ (fun hHeld => ?_)
                 clear hK K
                 refine norm_ (a' := ?_) ?_ ?_
                 rotate_left
                 ·show Act.put _ (some 19) _ = _
                  simp only [Act.put, List.setIfInBounds_toArray, List.set_cons_zero, List.set_cons_succ, i64_w, i32_w]
                  rfl
                 refine one_ (i := 1) (N := some 104) #[t_,t_,t_,f_,t_,t_,f_,f_,f_,f_,t_,f_,f_] rfl rfl (one_of HT_.out (by kernel_rfl)) (by decide) (fun K hK => ?_)
                 refine goes_ Try.func48 (by kernel_rfl) rfl #[.agg #[.slice A0_0 l0_0.length c0_0]] (by rfl) rfl rfl (by (try simp only [List.map_toArray, List.map_cons, List.map_nil]); first | done | rfl | (simp only [List.length_drop, List.length_take]; rfl)) ?_
                 with_reducible refine (laws_toSemigroup.calls k _ _ l0_0 t430 _ ?side1 ?side2 A45.out).mono ?_
                 (case side1 => repeat (first | exact (Kd.C_below HR0_0.out HB.out) | exact HR0_0.out | (with_reducible refine Kd.C_alloc ?_ _) | (with_reducible refine Kd.C_drewN ?_ _) | (with_reducible refine Kd.C_drew ?_)))
                 (case side2 => exact HC0_0.out)
                 rintro e w123 ⟨v431, rfl, ho0, hb⟩
                 refine ⟨_, rfl, ?_⟩
                 have n0_ := Aside0.mk (Kd.R_elder' (kr_ HO391.out) (Kd.R_base ho0) hb)
                 have n1_ := Aside0.mk (Kd.R_elder' (kr_ HO394.out) (Kd.R_base ho0) hb)
                 have n2_ := Aside0.mk (Kd.R_elder' (kr_ HO397.out) (Kd.R_base ho0) hb)
                 have n3_ := Aside0.mk (Kd.R_elder' (kr_ HO402.out) (Kd.R_base ho0) hb)
                 have n4_ := Aside0.mk (Kd.R_elder' (kr_ HO406.out) (Kd.R_base ho0) hb)
                 have n5_ := Aside0.mk (Kd.R_elder' (kr_ HO410.out) (Kd.R_base ho0) hb)
                 have n6_ := Aside0.mk (Kd.R_elder' (kr_ HO416.out) (Kd.R_base ho0) hb)
                 have n7_ := Aside0.mk (Kd.R_elder' (kr_ HO420.out) (Kd.R_base ho0) hb)
                 have n8_ := Aside0.mk (Kd.R_lower (Kd.R_new' (Kd.R_new' (Kd.R_new' (Kd.R_new' (Kd.R_new' (Kd.R_new' (Kd.R_new' (Kd.R_new' ho0 (Kd.R_lt (kr_ HO391.out))) (Kd.R_lt (kr_ HO394.out))) (Kd.R_lt (kr_ HO397.out))) (Kd.R_lt (kr_ HO402.out))) (Kd.R_lt (kr_ HO406.out))) (Kd.R_lt (kr_ HO410.out))) (Kd.R_lt (kr_ HO416.out))) (Kd.R_lt (kr_ HO420.out))) (below_size (bl_ HB.out)))
                 have n9_ := Aside0.mk (blk_below (bk_ BK385.out) hb)
                 have n10_ := Aside0.mk (blk_below (bk_ BK386.out) hb)
                 have n11_ := Aside0.mk (blk_below (bk_ BK399.out) hb)
                 have n12_ := Aside0.mk (blk_below (bk_ BK403.out) hb)
                 have n13_ := Aside0.mk (blk_below (bk_ BK407.out) hb)
                 have n14_ := Aside0.mk (blk_below (bk_ BK412.out) hb)
                 have n15_ := Aside0.mk (blk_below (bk_ BK440.out) hb)
                 have n16_ := Aside0.mk (below_step (bl_ HB.out) hb)
                 clear HO391
                 clear HO394
                 clear HO397
                 clear HO402
                 clear HO406
                 clear HO410
                 clear HO416
                 clear HO420
                 clear BK385
                 clear BK386
                 clear BK399
                 clear BK403
                 clear BK407
                 clear BK412
                 clear BK440
                 clear HB
                 have HO391 := n0_
                 have HO394 := n1_
                 have HO397 := n2_
                 have HO402 := n3_
                 have HO406 := n4_
                 have HO410 := n5_
                 have HO416 := n6_
                 have HO420 := n7_
                 have HO432 := n8_
                 have BK385 := n9_
                 have BK386 := n10_
                 have BK399 := n11_
                 have BK403 := n12_
                 have BK407 := n13_
                 have BK412 := n14_
                 have BK440 := n15_
                 have HB := n16_
                 clear n0_ n1_ n2_ n3_ n4_ n5_ n6_ n7_ n8_ n9_ n10_ n11_ n12_ n13_ n14_ n15_ n16_
                 (try clear hb)
                 (try clear hb2)
                 (try clear hk)
                 (try clear hi)
                 (try clear ho0)
                 refine hK.out _ _ ⟨(blk_cell BK385.out 0).trans rfl, (blk_cell BK386.out 0).trans rfl⟩ (fun hHeld => ?_)
                 clear hK K
                 refine norm_ (a' := ?_) ?_ ?_
                 rotate_left
                 ·show Act.put _ (some 104) _ = _
                  simp only [Act.put, List.setIfInBounds_toArray, List.set_cons_zero, List.set_cons_succ, i64_w, i32_w]
                  rfl
                 refine one_ (i := 3) (N := some 106) #[t_,t_,t_,t_,t_,t_,f_,f_,f_,f_,t_,f_,f_] rfl rfl (one_of HT_.out (by kernel_rfl)) (by decide) (fun K hK => ?_)
                 refine goes_ Try.func48 (by kernel_rfl) rfl #[.agg #[.slice A1_0 l1_0.length c1_0]] (by rfl) rfl rfl (by (try simp only [List.map_toArray, List.map_cons, List.map_nil]); first | done | rfl | (simp only [List.length_drop, List.length_take]; rfl)) ?_
                 with_reducible refine (laws_toSemigroup.calls k _ _ l1_0 t433 _ ?side1 ?side2 A46.out).mono ?_
                 (case side1 => repeat (first | exact (Kd.C_below HR1_0.out HB.out) | exact HR1_0.out | (with_reducible refine Kd.C_alloc ?_ _) | (with_reducible refine Kd.C_drewN ?_ _) | (with_reducible refine Kd.C_drew ?_)))
                 (case side2 => exact HC1_0.out)
                 rintro e w124 ⟨v434, rfl, ho0, hb⟩
                 refine ⟨_, rfl, ?_⟩
                 have n0_ := Aside0.mk (Kd.R_elder' (kr_ HO391.out) (Kd.R_base ho0) hb)
                 have n1_ := Aside0.mk (Kd.R_elder' (kr_ HO394.out) (Kd.R_base ho0) hb)
                 have n2_ := Aside0.mk (Kd.R_elder' (kr_ HO397.out) (Kd.R_base ho0) hb)
                 have n3_ := Aside0.mk (Kd.R_elder' (kr_ HO402.out) (Kd.R_base ho0) hb)
                 have n4_ := Aside0.mk (Kd.R_elder' (kr_ HO406.out) (Kd.R_base ho0) hb)
                 have n5_ := Aside0.mk (Kd.R_elder' (kr_ HO410.out) (Kd.R_base ho0) hb)
                 have n6_ := Aside0.mk (Kd.R_elder' (kr_ HO416.out) (Kd.R_base ho0) hb)
                 have n7_ := Aside0.mk (Kd.R_elder' (kr_ HO420.out) (Kd.R_base ho0) hb)
                 have n8_ := Aside0.mk (Kd.R_elder' (kr_ HO432.out) (Kd.R_base ho0) hb)
                 have n9_ := Aside0.mk (Kd.R_lower (Kd.R_new' (Kd.R_new' (Kd.R_new' (Kd.R_new' (Kd.R_new' (Kd.R_new' (Kd.R_new' (Kd.R_new' (Kd.R_new' ho0 (Kd.R_lt (kr_ HO391.out))) (Kd.R_lt (kr_ HO394.out))) (Kd.R_lt (kr_ HO397.out))) (Kd.R_lt (kr_ HO402.out))) (Kd.R_lt (kr_ HO406.out))) (Kd.R_lt (kr_ HO410.out))) (Kd.R_lt (kr_ HO416.out))) (Kd.R_lt (kr_ HO420.out))) (Kd.R_lt (kr_ HO432.out))) (below_size (bl_ HB.out)))
                 have n10_ := Aside0.mk (blk_below (bk_ BK385.out) hb)
                 have n11_ := Aside0.mk (blk_below (bk_ BK386.out) hb)
                 have n12_ := Aside0.mk (blk_below (bk_ BK399.out) hb)
                 have n13_ := Aside0.mk (blk_below (bk_ BK403.out) hb)
                 have n14_ := Aside0.mk (blk_below (bk_ BK407.out) hb)
                 have n15_ := Aside0.mk (blk_below (bk_ BK412.out) hb)
                 have n16_ := Aside0.mk (blk_below (bk_ BK440.out) hb)
                 have n17_ := Aside0.mk (below_step (bl_ HB.out) hb)
                 clear HO391
                 clear HO394
                 clear HO397
                 clear HO402
                 clear HO406
                 clear HO410
                 clear HO416
                 clear HO420
                 clear HO432
                 clear BK385
                 clear BK386
                 clear BK399
                 clear BK403
                 clear BK407
                 clear BK412
                 clear BK440
                 clear HB
                 have HO391 := n0_
                 have HO394 := n1_
                 have HO397 := n2_
                 have HO402 := n3_
                 have HO406 := n4_
                 have HO410 := n5_
                 have HO416 := n6_
                 have HO420 := n7_
                 have HO432 := n8_
                 have HO435 := n9_
                 have BK385 := n10_
                 have BK386 := n11_
                 have BK399 := n12_
                 have BK403 := n13_
                 have BK407 := n14_
                 have BK412 := n15_
                 have BK440 := n16_
                 have HB := n17_
                 clear n0_ n1_ n2_ n3_ n4_ n5_ n6_ n7_ n8_ n9_ n10_ n11_ n12_ n13_ n14_ n15_ n16_ n17_
                 (try clear hb)
                 (try clear hb2)
                 (try clear hk)
                 (try clear hi)
                 (try clear ho0)
                 obtain ⟨Ao125, co125, eo125⟩ := Kd.R_slice HO432.out
                 (first | subst eo125 | (injection eo125 with f1_ f2_ f3_; have f4_ := f1_.symm; have f5_ := f3_.symm; clear f1_ f2_ f3_; subst f4_; subst f5_))
                 obtain ⟨Ao126, co126, eo126⟩ := Kd.R_slice HO435.out
                 (first | subst eo126 | (injection eo126 with f1_ f2_ f3_; have f4_ := f1_.symm; have f5_ := f3_.symm; clear f1_ f2_ f3_; subst f4_; subst f5_))
                 refine hK.out _ _ ⟨(blk_cell BK385.out 0).trans rfl, (blk_cell BK386.out 0).trans rfl⟩ (fun hHeld => ?_)
                 clear hK K
                 refine norm_ (a' := ?_) ?_ ?_
                 rotate_left
                 ·show Act.put _ (some 106) _ = _
                  simp only [Act.put, List.setIfInBounds_toArray, List.set_cons_zero, List.set_cons_succ, i64_w, i32_w]
                  rfl
                 refine one_ (i := 6) (N := some 109) #[t_,t_,t_,t_,t_,t_,t_,f_,f_,f_,t_,f_,f_] rfl rfl (one_of HT_.out (by kernel_rfl)) (by decide) (fun K hK => ?_)
                 refine goes_ Try.func56 (by kernel_rfl) rfl #[.agg #[.slice Ao125 t430.length co125], .agg #[.slice Ao126 t433.length co126], .int .i64 a2, .int .i64 a3] (by rfl) rfl rfl (by (try simp only [List.map_toArray, List.map_cons, List.map_nil]); first | done | rfl | (simp only [List.length_drop, List.length_take]; rfl)) ?_
                 with_reducible refine (impl_GlueOf.calls k _ _ t430 _ _ t433 a2 a3 t436 t439 _ ?side1 ?side2 ?side3 ?side4 A47.out).mono ?_
                 (case side1 => repeat (first | exact (Kd.R_reads' HO432.out).2.2 | (with_reducible refine Kd.C_alloc ?_ _) | (with_reducible refine Kd.C_drewN ?_ _) | (with_reducible refine Kd.C_drew ?_)))
                 (case side2 => exact (Kd.R_reads' HO432.out).2.1)
                 (case side3 => repeat (first | exact (Kd.R_reads' HO435.out).2.2 | (with_reducible refine Kd.C_alloc ?_ _) | (with_reducible refine Kd.C_drewN ?_ _) | (with_reducible refine Kd.C_drew ?_)))
                 (case side4 => exact (Kd.R_reads' HO435.out).2.1)
                 rintro e w127 ⟨v437, rfl, ho0, hb⟩
                 refine ⟨_, rfl, ?_⟩
                 have n0_ := Aside0.mk (Kd.R_elder' (kr_ HO391.out) (Kd.R_base ho0) hb)
                 have n1_ := Aside0.mk (Kd.R_elder' (kr_ HO394.out) (Kd.R_base ho0) hb)
                 have n2_ := Aside0.mk (Kd.R_elder' (kr_ HO397.out) (Kd.R_base ho0) hb)
                 have n3_ := Aside0.mk (Kd.R_elder' (kr_ HO402.out) (Kd.R_base ho0) hb)
                 have n4_ := Aside0.mk (Kd.R_elder' (kr_ HO406.out) (Kd.R_base ho0) hb)
                 have n5_ := Aside0.mk (Kd.R_elder' (kr_ HO410.out) (Kd.R_base ho0) hb)
                 have n6_ := Aside0.mk (Kd.R_elder' (kr_ HO416.out) (Kd.R_base ho0) hb)
                 have n7_ := Aside0.mk (Kd.R_elder' (kr_ HO420.out) (Kd.R_base ho0) hb)
                 have n8_ := Aside0.mk (Kd.R_elder' (kr_ HO432.out) (Kd.R_base ho0) hb)
                 have n9_ := Aside0.mk (Kd.R_elder' (kr_ HO435.out) (Kd.R_base ho0) hb)
                 have n10_ := Aside0.mk (Kd.R_lower (Kd.R_new' (Kd.R_new' (Kd.R_new' (Kd.R_new' (Kd.R_new' (Kd.R_new' (Kd.R_new' (Kd.R_new' (Kd.R_new' (Kd.R_new' ho0 (Kd.R_lt (kr_ HO391.out))) (Kd.R_lt (kr_ HO394.out))) (Kd.R_lt (kr_ HO397.out))) (Kd.R_lt (kr_ HO402.out))) (Kd.R_lt (kr_ HO406.out))) (Kd.R_lt (kr_ HO410.out))) (Kd.R_lt (kr_ HO416.out))) (Kd.R_lt (kr_ HO420.out))) (Kd.R_lt (kr_ HO432.out))) (Kd.R_lt (kr_ HO435.out))) (below_size (bl_ HB.out)))
                 have n11_ := Aside0.mk (blk_below (bk_ BK385.out) hb)
                 have n12_ := Aside0.mk (blk_below (bk_ BK386.out) hb)
                 have n13_ := Aside0.mk (blk_below (bk_ BK399.out) hb)
                 have n14_ := Aside0.mk (blk_below (bk_ BK403.out) hb)
                 have n15_ := Aside0.mk (blk_below (bk_ BK407.out) hb)
                 have n16_ := Aside0.mk (blk_below (bk_ BK412.out) hb)
                 have n17_ := Aside0.mk (blk_below (bk_ BK440.out) hb)
                 have n18_ := Aside0.mk (below_step (bl_ HB.out) hb)
                 clear HO391
                 clear HO394
                 clear HO397
                 clear HO402
                 clear HO406
                 clear HO410
                 clear HO416
                 clear HO420
                 clear HO432
                 clear HO435
                 clear BK385
                 clear BK386
                 clear BK399
                 clear BK403
                 clear BK407
                 clear BK412
                 clear BK440
                 clear HB
                 have HO391 := n0_
                 have HO394 := n1_
                 have HO397 := n2_
                 have HO402 := n3_
                 have HO406 := n4_
                 have HO410 := n5_
                 have HO416 := n6_
                 have HO420 := n7_
                 have HO432 := n8_
                 have HO435 := n9_
                 have HO438 := n10_
                 have BK385 := n11_
                 have BK386 := n12_
                 have BK399 := n13_
                 have BK403 := n14_
                 have BK407 := n15_
                 have BK412 := n16_
                 have BK440 := n17_
                 have HB := n18_
                 clear n0_ n1_ n2_ n3_ n4_ n5_ n6_ n7_ n8_ n9_ n10_ n11_ n12_ n13_ n14_ n15_ n16_ n17_ n18_
                 (try clear hb)
                 (try clear hb2)
                 (try clear hk)
                 (try clear hi)
                 (try clear ho0)
                 refine hK.out _ _ ⟨(blk_cell BK385.out 0).trans rfl, (blk_cell BK386.out 0).trans rfl⟩ (fun hHeld => ?_)
                 clear hK K
                 refine norm_ (a' := ?_) ?_ ?_
                 rotate_left
                 ·show Act.put _ (some 109) _ = _
                  simp only [Act.put, List.setIfInBounds_toArray, List.set_cons_zero, List.set_cons_succ, i64_w, i32_w]
                  rfl
                 refine pure_ (i := 7) (N := some 102) (v := ?_) (a' := ?_) #[t_,t_,t_,t_,t_,t_,t_,t_,f_,f_,t_,f_,f_] rfl rfl (any_of HT_.out (by kernel_rfl)) (fun _ _ _ h => h) (Or.inl ⟨by rfl, ?_⟩) ?_ ?_
                 rotate_left
                 ·intro w'
                  go_simp
                  with_reducible rfl
                 rotate_left
                 ·simp only [Act.put, List.setIfInBounds_toArray, List.set_cons_zero, List.set_cons_succ, i64_w, i32_w]
                  rfl
                 refine pure_ (i := 8) (N := some 110) (v := ?_) (a' := ?_) #[t_,t_,t_,t_,t_,t_,t_,t_,t_,f_,t_,f_,f_] rfl rfl (any_of HT_.out (by kernel_rfl)) (fun _ _ _ h => h) (Or.inl ⟨by rfl, ?_⟩) ?_ ?_
                 rotate_left
                 ·intro w'
                  go_simp
                  with_reducible rfl
                 rotate_left
                 ·simp only [Act.put, List.setIfInBounds_toArray, List.set_cons_zero, List.set_cons_succ, i64_w, i32_w]
                  rfl
                 refine pure_ (i := 9) (N := some 111) (v := ?_) (a' := ?_) #[t_,t_,t_,t_,t_,t_,t_,t_,t_,t_,t_,f_,f_] rfl rfl (any_of HT_.out (by kernel_rfl)) (fun _ _ _ h => h) (Or.inl ⟨by rfl, ?_⟩) ?_ ?_
                 rotate_left
                 ·intro w'
                  go_simp
                  with_reducible rfl
                 rotate_left
                 ·simp only [Act.put, List.setIfInBounds_toArray, List.set_cons_zero, List.set_cons_succ, i64_w, i32_w]
                  rfl
                 exact norm_ (by simp only [putAll, Act.put, List.setIfInBounds_toArray, List.set_cons_zero, List.set_cons_succ]) (hCont (.slice Ao125 t430.length co125, .slice Ao126 t433.length co126, v437, gb440) _ ⟨hHeld, (by (with_reducible repeat (first | apply Kd.R_alloc | apply Kd.R_drewN | apply Kd.R_drew)); exact Kd.R_mono HO391.out (fun _ hk => ⟨hk.1.1.1.1, ⟨hk.1.1.1.2.1, ⟨hk.1.1.1.2.2.1, ⟨hk.1.1.1.2.2.2.1, ⟨hk.1.1.1.2.2.2.2.1, ⟨hk.1.1.1.2.2.2.2.2.1, ⟨hk.1.1.1.2.2.2.2.2.2, ⟨hk.1.1.2, ⟨hk.1.2, hk.2⟩⟩⟩⟩⟩⟩⟩⟩⟩)), (by (with_reducible repeat (first | apply Kd.R_alloc | apply Kd.R_drewN | apply Kd.R_drew)); exact Kd.R_mono HO394.out (fun _ hk => ⟨hk.1.1.1.1, ⟨hk.1.1.1.2.1, ⟨hk.1.1.1.2.2.1, ⟨hk.1.1.1.2.2.2.1, ⟨hk.1.1.1.2.2.2.2.1, ⟨hk.1.1.1.2.2.2.2.2.1, ⟨hk.1.1.1.2.2.2.2.2.2, ⟨hk.1.1.2, ⟨hk.1.2, hk.2⟩⟩⟩⟩⟩⟩⟩⟩⟩)), (by (with_reducible repeat (first | apply Kd.R_alloc | apply Kd.R_drewN | apply Kd.R_drew)); exact Kd.R_mono HO397.out (fun _ hk => ⟨hk.1.1.1.1, ⟨hk.1.1.1.2.1, ⟨hk.1.1.1.2.2.1, ⟨hk.1.1.1.2.2.2.1, ⟨hk.1.1.1.2.2.2.2.1, ⟨hk.1.1.1.2.2.2.2.2.1, ⟨hk.1.1.1.2.2.2.2.2.2, ⟨hk.1.1.2, ⟨hk.1.2, hk.2⟩⟩⟩⟩⟩⟩⟩⟩⟩)), (by (with_reducible repeat (first | apply Kd.R_alloc | apply Kd.R_drewN | apply Kd.R_drew)); exact Kd.R_mono HO402.out (fun _ hk => ⟨hk.1.1.1.1, ⟨hk.1.1.1.2.1, ⟨hk.1.1.1.2.2.1, ⟨hk.1.1.1.2.2.2.1, ⟨hk.1.1.1.2.2.2.2.1, ⟨hk.1.1.1.2.2.2.2.2.1, ⟨hk.1.1.1.2.2.2.2.2.2, ⟨hk.1.1.2, ⟨hk.1.2, hk.2⟩⟩⟩⟩⟩⟩⟩⟩⟩)), (by (with_reducible repeat (first | apply Kd.R_alloc | apply Kd.R_drewN | apply Kd.R_drew)); exact Kd.R_mono HO406.out (fun _ hk => ⟨hk.1.1.1.1, ⟨hk.1.1.1.2.1, ⟨hk.1.1.1.2.2.1, ⟨hk.1.1.1.2.2.2.1, ⟨hk.1.1.1.2.2.2.2.1, ⟨hk.1.1.1.2.2.2.2.2.1, ⟨hk.1.1.1.2.2.2.2.2.2, ⟨hk.1.1.2, ⟨hk.1.2, hk.2⟩⟩⟩⟩⟩⟩⟩⟩⟩)), (by (with_reducible repeat (first | apply Kd.R_alloc | apply Kd.R_drewN | apply Kd.R_drew)); exact Kd.R_mono HO410.out (fun _ hk => ⟨hk.1.1.1.1, ⟨hk.1.1.1.2.1, ⟨hk.1.1.1.2.2.1, ⟨hk.1.1.1.2.2.2.1, ⟨hk.1.1.1.2.2.2.2.1, ⟨hk.1.1.1.2.2.2.2.2.1, ⟨hk.1.1.1.2.2.2.2.2.2, ⟨hk.1.1.2, ⟨hk.1.2, hk.2⟩⟩⟩⟩⟩⟩⟩⟩⟩)), (by (with_reducible repeat (first | apply Kd.R_alloc | apply Kd.R_drewN | apply Kd.R_drew)); exact Kd.R_mono HO416.out (fun _ hk => ⟨hk.1.1.1.1, ⟨hk.1.1.1.2.1, ⟨hk.1.1.1.2.2.1, ⟨hk.1.1.1.2.2.2.1, ⟨hk.1.1.1.2.2.2.2.1, ⟨hk.1.1.1.2.2.2.2.2.1, ⟨hk.1.1.1.2.2.2.2.2.2, ⟨hk.1.1.2, ⟨hk.1.2, hk.2⟩⟩⟩⟩⟩⟩⟩⟩⟩)), (by (with_reducible repeat (first | apply Kd.R_alloc | apply Kd.R_drewN | apply Kd.R_drew)); exact Kd.R_mono HO420.out (fun _ hk => ⟨hk.1.1.1.1, ⟨hk.1.1.1.2.1, ⟨hk.1.1.1.2.2.1, ⟨hk.1.1.1.2.2.2.1, ⟨hk.1.1.1.2.2.2.2.1, ⟨hk.1.1.1.2.2.2.2.2.1, ⟨hk.1.1.1.2.2.2.2.2.2, ⟨hk.1.1.2, ⟨hk.1.2, hk.2⟩⟩⟩⟩⟩⟩⟩⟩⟩)), (by (with_reducible repeat (first | apply Kd.R_alloc | apply Kd.R_drewN | apply Kd.R_drew)); exact Kd.R_mono HO432.out (fun _ hk => ⟨hk.1.1.1.1.1.1.1.1.1.2, ⟨hk.1.1.1.1.1.1.1.1.2, ⟨hk.1.1.1.1.1.1.1.2, ⟨hk.1.1.1.1.1.1.2, ⟨hk.1.1.1.1.1.2, ⟨hk.1.1.1.1.2, ⟨hk.1.1.1.2, ⟨hk.1.1.2, ⟨hk.1.2, hk.2⟩⟩⟩⟩⟩⟩⟩⟩⟩)), (by (with_reducible repeat (first | apply Kd.R_alloc | apply Kd.R_drewN | apply Kd.R_drew)); exact Kd.R_mono HO435.out (fun _ hk => ⟨hk.1.1.1.1.1.1.1.1.1.2, ⟨hk.1.1.1.1.1.1.1.1.2, ⟨hk.1.1.1.1.1.1.1.2, ⟨hk.1.1.1.1.1.1.2, ⟨hk.1.1.1.1.1.2, ⟨hk.1.1.1.1.2, ⟨hk.1.1.1.2, ⟨hk.1.1.2, ⟨hk.1.2, hk.2⟩⟩⟩⟩⟩⟩⟩⟩⟩)), (by (with_reducible repeat (first | apply Kd.R_alloc | apply Kd.R_drewN | apply Kd.R_drew)); exact Kd.R_mono HO438.out (fun _ hk => ⟨hk.1.1.1.1.1.1.1.1.1.2, ⟨hk.1.1.1.1.1.1.1.1.2, ⟨hk.1.1.1.1.1.1.1.2, ⟨hk.1.1.1.1.1.1.2, ⟨hk.1.1.1.1.1.2, ⟨hk.1.1.1.1.2, ⟨hk.1.1.1.2, ⟨hk.1.1.2, ⟨hk.1.2, hk.2⟩⟩⟩⟩⟩⟩⟩⟩⟩)), (bk_ BK385.out), (bk_ BK386.out), (bk_ BK399.out), (bk_ BK403.out), (bk_ BK407.out), (bk_ BK412.out), (bk_ BK440.out), GW440.out, GE440.out, NB385_440.out, NB440_385.out, NB386_440.out, NB440_386.out, NB399_440.out, NB440_399.out, NB403_440.out, NB440_403.out, NB407_440.out, NB440_407.out, NB412_440.out, NB440_412.out, (bl_ HB.out)⟩)
               rintro ⟨v431, v434, v437, gb440⟩ w128 ⟨hS_, h0_, h1_, h2_, h3_, h4_, h5_, h6_, h7_, h8_, h9_, h10_, h11_, h12_, h13_, h14_, h15_, h16_, h17_, h18_, h19_, h20_, h21_, h22_, h23_, h24_, h25_, h26_, h27_, h28_, h29_, h30_, h31_, h32_⟩
               have n0_ : Aside0 (Kd.R (Kd.int .i64) 3 w128 w.heap.size (fun k_ => some k_ ≠ (v393 : Value).ownBlock ∧ some k_ ≠ (.slice Ao69 t395.length co69 : Value).ownBlock ∧ some k_ ≠ (.slice Ao75 t400.length co75 : Value).ownBlock ∧ some k_ ≠ (.slice Ao84 t404.length co84 : Value).ownBlock ∧ some k_ ≠ (.slice Ao93 t408.length co93 : Value).ownBlock ∧ some k_ ≠ (.slice Ao104 t414.length co104 : Value).ownBlock ∧ some k_ ≠ (.slice Ao108 t418.length co108 : Value).ownBlock ∧ some k_ ≠ (v431 : Value).ownBlock ∧ some k_ ≠ (v434 : Value).ownBlock ∧ some k_ ≠ (v437 : Value).ownBlock) v390 t389) := ⟨h0_⟩
               have n1_ : Aside0 (Kd.R (Kd.int .i64) 3 w128 w.heap.size (fun k_ => some k_ ≠ (v390 : Value).ownBlock ∧ some k_ ≠ (.slice Ao69 t395.length co69 : Value).ownBlock ∧ some k_ ≠ (.slice Ao75 t400.length co75 : Value).ownBlock ∧ some k_ ≠ (.slice Ao84 t404.length co84 : Value).ownBlock ∧ some k_ ≠ (.slice Ao93 t408.length co93 : Value).ownBlock ∧ some k_ ≠ (.slice Ao104 t414.length co104 : Value).ownBlock ∧ some k_ ≠ (.slice Ao108 t418.length co108 : Value).ownBlock ∧ some k_ ≠ (v431 : Value).ownBlock ∧ some k_ ≠ (v434 : Value).ownBlock ∧ some k_ ≠ (v437 : Value).ownBlock) v393 t392) := ⟨h1_⟩
               have n2_ : Aside0 (Kd.R (Kd.int .i64) 3 w128 w.heap.size (fun k_ => some k_ ≠ (v390 : Value).ownBlock ∧ some k_ ≠ (v393 : Value).ownBlock ∧ some k_ ≠ (.slice Ao75 t400.length co75 : Value).ownBlock ∧ some k_ ≠ (.slice Ao84 t404.length co84 : Value).ownBlock ∧ some k_ ≠ (.slice Ao93 t408.length co93 : Value).ownBlock ∧ some k_ ≠ (.slice Ao104 t414.length co104 : Value).ownBlock ∧ some k_ ≠ (.slice Ao108 t418.length co108 : Value).ownBlock ∧ some k_ ≠ (v431 : Value).ownBlock ∧ some k_ ≠ (v434 : Value).ownBlock ∧ some k_ ≠ (v437 : Value).ownBlock) (.slice Ao69 t395.length co69) t395) := ⟨h2_⟩
               have n3_ : Aside0 (Kd.R (Kd.int .i64) 3 w128 w.heap.size (fun k_ => some k_ ≠ (v390 : Value).ownBlock ∧ some k_ ≠ (v393 : Value).ownBlock ∧ some k_ ≠ (.slice Ao69 t395.length co69 : Value).ownBlock ∧ some k_ ≠ (.slice Ao84 t404.length co84 : Value).ownBlock ∧ some k_ ≠ (.slice Ao93 t408.length co93 : Value).ownBlock ∧ some k_ ≠ (.slice Ao104 t414.length co104 : Value).ownBlock ∧ some k_ ≠ (.slice Ao108 t418.length co108 : Value).ownBlock ∧ some k_ ≠ (v431 : Value).ownBlock ∧ some k_ ≠ (v434 : Value).ownBlock ∧ some k_ ≠ (v437 : Value).ownBlock) (.slice Ao75 t400.length co75) t423) := ⟨h3_⟩
               have n4_ : Aside0 (Kd.R (Kd.int .i64) 3 w128 w.heap.size (fun k_ => some k_ ≠ (v390 : Value).ownBlock ∧ some k_ ≠ (v393 : Value).ownBlock ∧ some k_ ≠ (.slice Ao69 t395.length co69 : Value).ownBlock ∧ some k_ ≠ (.slice Ao75 t400.length co75 : Value).ownBlock ∧ some k_ ≠ (.slice Ao93 t408.length co93 : Value).ownBlock ∧ some k_ ≠ (.slice Ao104 t414.length co104 : Value).ownBlock ∧ some k_ ≠ (.slice Ao108 t418.length co108 : Value).ownBlock ∧ some k_ ≠ (v431 : Value).ownBlock ∧ some k_ ≠ (v434 : Value).ownBlock ∧ some k_ ≠ (v437 : Value).ownBlock) (.slice Ao84 t404.length co84) t425) := ⟨h4_⟩
               have n5_ : Aside0 (Kd.R (Kd.int .i64) 3 w128 w.heap.size (fun k_ => some k_ ≠ (v390 : Value).ownBlock ∧ some k_ ≠ (v393 : Value).ownBlock ∧ some k_ ≠ (.slice Ao69 t395.length co69 : Value).ownBlock ∧ some k_ ≠ (.slice Ao75 t400.length co75 : Value).ownBlock ∧ some k_ ≠ (.slice Ao84 t404.length co84 : Value).ownBlock ∧ some k_ ≠ (.slice Ao104 t414.length co104 : Value).ownBlock ∧ some k_ ≠ (.slice Ao108 t418.length co108 : Value).ownBlock ∧ some k_ ≠ (v431 : Value).ownBlock ∧ some k_ ≠ (v434 : Value).ownBlock ∧ some k_ ≠ (v437 : Value).ownBlock) (.slice Ao93 t408.length co93) t428) := ⟨h5_⟩
               have n6_ : Aside0 (Kd.R (Kd.int .i64) 3 w128 w.heap.size (fun k_ => some k_ ≠ (v390 : Value).ownBlock ∧ some k_ ≠ (v393 : Value).ownBlock ∧ some k_ ≠ (.slice Ao69 t395.length co69 : Value).ownBlock ∧ some k_ ≠ (.slice Ao75 t400.length co75 : Value).ownBlock ∧ some k_ ≠ (.slice Ao84 t404.length co84 : Value).ownBlock ∧ some k_ ≠ (.slice Ao93 t408.length co93 : Value).ownBlock ∧ some k_ ≠ (.slice Ao108 t418.length co108 : Value).ownBlock ∧ some k_ ≠ (v431 : Value).ownBlock ∧ some k_ ≠ (v434 : Value).ownBlock ∧ some k_ ≠ (v437 : Value).ownBlock) (.slice Ao104 t414.length co104) t414) := ⟨h6_⟩
               have n7_ : Aside0 (Kd.R (Kd.int .i64) 3 w128 w.heap.size (fun k_ => some k_ ≠ (v390 : Value).ownBlock ∧ some k_ ≠ (v393 : Value).ownBlock ∧ some k_ ≠ (.slice Ao69 t395.length co69 : Value).ownBlock ∧ some k_ ≠ (.slice Ao75 t400.length co75 : Value).ownBlock ∧ some k_ ≠ (.slice Ao84 t404.length co84 : Value).ownBlock ∧ some k_ ≠ (.slice Ao93 t408.length co93 : Value).ownBlock ∧ some k_ ≠ (.slice Ao104 t414.length co104 : Value).ownBlock ∧ some k_ ≠ (v431 : Value).ownBlock ∧ some k_ ≠ (v434 : Value).ownBlock ∧ some k_ ≠ (v437 : Value).ownBlock) (.slice Ao108 t418.length co108) t418) := ⟨h7_⟩
               have n8_ : Aside0 (Kd.R (Kd.int .i64) 3 w128 w.heap.size (fun k_ => some k_ ≠ (v390 : Value).ownBlock ∧ some k_ ≠ (v393 : Value).ownBlock ∧ some k_ ≠ (.slice Ao69 t395.length co69 : Value).ownBlock ∧ some k_ ≠ (.slice Ao75 t400.length co75 : Value).ownBlock ∧ some k_ ≠ (.slice Ao84 t404.length co84 : Value).ownBlock ∧ some k_ ≠ (.slice Ao93 t408.length co93 : Value).ownBlock ∧ some k_ ≠ (.slice Ao104 t414.length co104 : Value).ownBlock ∧ some k_ ≠ (.slice Ao108 t418.length co108 : Value).ownBlock ∧ some k_ ≠ (v434 : Value).ownBlock ∧ some k_ ≠ (v437 : Value).ownBlock) v431 t430) := ⟨h8_⟩
               have n9_ : Aside0 (Kd.R (Kd.int .i64) 3 w128 w.heap.size (fun k_ => some k_ ≠ (v390 : Value).ownBlock ∧ some k_ ≠ (v393 : Value).ownBlock ∧ some k_ ≠ (.slice Ao69 t395.length co69 : Value).ownBlock ∧ some k_ ≠ (.slice Ao75 t400.length co75 : Value).ownBlock ∧ some k_ ≠ (.slice Ao84 t404.length co84 : Value).ownBlock ∧ some k_ ≠ (.slice Ao93 t408.length co93 : Value).ownBlock ∧ some k_ ≠ (.slice Ao104 t414.length co104 : Value).ownBlock ∧ some k_ ≠ (.slice Ao108 t418.length co108 : Value).ownBlock ∧ some k_ ≠ (v431 : Value).ownBlock ∧ some k_ ≠ (v437 : Value).ownBlock) v434 t433) := ⟨h9_⟩
               have n10_ : Aside0 (Kd.R (Kd.int .i64) 3 w128 w.heap.size (fun k_ => some k_ ≠ (v390 : Value).ownBlock ∧ some k_ ≠ (v393 : Value).ownBlock ∧ some k_ ≠ (.slice Ao69 t395.length co69 : Value).ownBlock ∧ some k_ ≠ (.slice Ao75 t400.length co75 : Value).ownBlock ∧ some k_ ≠ (.slice Ao84 t404.length co84 : Value).ownBlock ∧ some k_ ≠ (.slice Ao93 t408.length co93 : Value).ownBlock ∧ some k_ ≠ (.slice Ao104 t414.length co104 : Value).ownBlock ∧ some k_ ≠ (.slice Ao108 t418.length co108 : Value).ownBlock ∧ some k_ ≠ (v431 : Value).ownBlock ∧ some k_ ≠ (v434 : Value).ownBlock) v437 t436) := ⟨h10_⟩
               have n11_ : Aside0 (w128.heap[gb385]? = some (.cells #[.slice A0_0 l0_0.length c0_0] 46 (0, 0))) := ⟨h11_⟩
               have n12_ : Aside0 (w128.heap[gb386]? = some (.cells #[.slice A1_0 l1_0.length c1_0] 46 (0, 0))) := ⟨h12_⟩
               have n13_ : Aside0 (w128.heap[gb399]? = some (.cells #[.slice Ao69 t395.length co69] 41 (0, 0))) := ⟨h13_⟩
               have n14_ : Aside0 (w128.heap[gb403]? = some (.cells #[.slice Ao75 t400.length co75] 41 (0, 0))) := ⟨h14_⟩
               have n15_ : Aside0 (w128.heap[gb407]? = some (.cells #[.slice Ao84 t404.length co84] 41 (0, 0))) := ⟨h15_⟩
               have n16_ : Aside0 (w128.heap[gb412]? = some (.cells #[.slice Ao93 t408.length co93] 41 (0, 0))) := ⟨h16_⟩
               have n17_ : Aside0 (w128.heap[gb440]? = some (.cells #[.slice none 0 0] 41 (0, 0))) := ⟨h17_⟩
               have n18_ : Aside0 (w.heap.size ≤ gb440) := ⟨h18_⟩
               have n19_ : Aside0 (w.heap.size ≤ gb440) := ⟨h19_⟩
               have n20_ : Aside0 (gb385 ≠ gb440) := ⟨h20_⟩
               have n21_ : Aside0 (gb440 ≠ gb385) := ⟨h21_⟩
               have n22_ : Aside0 (gb386 ≠ gb440) := ⟨h22_⟩
               have n23_ : Aside0 (gb440 ≠ gb386) := ⟨h23_⟩
               have n24_ : Aside0 (gb399 ≠ gb440) := ⟨h24_⟩
               have n25_ : Aside0 (gb440 ≠ gb399) := ⟨h25_⟩
               have n26_ : Aside0 (gb403 ≠ gb440) := ⟨h26_⟩
               have n27_ : Aside0 (gb440 ≠ gb403) := ⟨h27_⟩
               have n28_ : Aside0 (gb407 ≠ gb440) := ⟨h28_⟩
               have n29_ : Aside0 (gb440 ≠ gb407) := ⟨h29_⟩
               have n30_ : Aside0 (gb412 ≠ gb440) := ⟨h30_⟩
               have n31_ : Aside0 (gb440 ≠ gb412) := ⟨h31_⟩
               have n32_ : Aside0 (Below w.heap.size w w128) := ⟨h32_⟩
               clear HO391
               clear HO394
               clear HO397
               clear HO402
               clear HO406
               clear HO410
               clear HO416
               clear HO420
               clear BK385
               clear BK386
               clear BK399
               clear BK403
               clear BK407
               clear BK412
               clear HB
               clear h0_ h1_ h2_ h3_ h4_ h5_ h6_ h7_ h8_ h9_ h10_ h11_ h12_ h13_ h14_ h15_ h16_ h17_ h18_ h19_ h20_ h21_ h22_ h23_ h24_ h25_ h26_ h27_ h28_ h29_ h30_ h31_ h32_
               have HO391 := n0_
               have HO394 := n1_
               have HO397 := n2_
               have HO402 := n3_
               have HO406 := n4_
               have HO410 := n5_
               have HO416 := n6_
               have HO420 := n7_
               have HO432 := n8_
               have HO435 := n9_
               have HO438 := n10_
               have BK385 := n11_
               have BK386 := n12_
               have BK399 := n13_
               have BK403 := n14_
               have BK407 := n15_
               have BK412 := n16_
               have BK440 := n17_
               have GW440 := n18_
               have GE440 := n19_
               have NB385_440 := n20_
               have NB440_385 := n21_
               have NB386_440 := n22_
               have NB440_386 := n23_
               have NB399_440 := n24_
               have NB440_399 := n25_
               have NB403_440 := n26_
               have NB440_403 := n27_
               have NB407_440 := n28_
               have NB440_407 := n29_
               have NB412_440 := n30_
               have NB440_412 := n31_
               have HB := n32_
               clear n0_ n1_ n2_ n3_ n4_ n5_ n6_ n7_ n8_ n9_ n10_ n11_ n12_ n13_ n14_ n15_ n16_ n17_ n18_ n19_ n20_ n21_ n22_ n23_ n24_ n25_ n26_ n27_ n28_ n29_ n30_ n31_ n32_
               have hHeld : w128.cell? ⟨gb385, 0, none⟩ = some (.slice A0_0 l0_0.length c0_0) ∧ w128.cell? ⟨gb386, 0, none⟩ = some (.slice A1_0 l1_0.length c1_0) := hS_
               obtain ⟨Ao129, co129, eo129⟩ := Kd.R_slice HO438.out
               (first | subst eo129 | (injection eo129 with f1_ f2_ f3_; have f4_ := f1_.symm; have f5_ := f3_.symm; clear f1_ f2_ f3_; subst f4_; subst f5_))
               refine norm_ (a' := ?_) ?_ ?_
               rotate_left
               ·simp only [putAll, Act.put, List.setIfInBounds_toArray, List.set_cons_zero, List.set_cons_succ]
                rfl
               refine one_ (i := 11) (N := none) #[t_,t_,t_,t_,t_,t_,t_,t_,t_,t_,t_,t_,f_] rfl rfl (one_of HT_.out (by kernel_rfl)) (by decide) (fun K hK => ?_)
               have hs130 : w128.cell? ⟨gb440, 0, none⟩ = some (.slice none 0 0) := (blk_cell BK440.out 0).trans rfl
               have hfs130 := blk_frozen BK440.out 0
               have hns130_0 := NB385_440.out
               have hns130_1 := NB386_440.out
               have hns130_2 := NB399_440.out
               have hns130_3 := NB403_440.out
               have hns130_4 := NB407_440.out
               have hns130_5 := NB412_440.out
               have hms130_0 := NB440_385.out
               have hms130_1 := NB440_386.out
               have hms130_2 := NB440_399.out
               have hms130_3 := NB440_403.out
               have hms130_4 := NB440_407.out
               have hms130_5 := NB440_412.out
               refine skip_ (w1 := ?_) (by rfl) rfl ?_ ?_
               rotate_left
               ·go_simp
                rfl
               refine hK.out _ _ ⟨((cell_far (p := ⟨gb440, _, none⟩) NB385_440.out _).trans (hHeld.1)), ((cell_far (p := ⟨gb440, _, none⟩) NB386_440.out _).trans (hHeld.2))⟩ (fun hHeld => ?_)
               clear hK K
               refine pure_ (i := 12) (N := some 20) (v := ?_) (a' := ?_) #[t_,t_,t_,t_,t_,t_,t_,t_,t_,t_,t_,t_,t_] rfl rfl (any_of HT_.out (by kernel_rfl)) (fun _ _ _ h => h) (Or.inl ⟨by rfl, ?_⟩) ?_ ?_
               rotate_left
               ·intro w'
                go_simp
                with_reducible rfl
               rotate_left
               ·simp only [Act.put, List.setIfInBounds_toArray, List.set_cons_zero, List.set_cons_succ, i64_w, i32_w]
                rfl
               refine done_ (done_of HT_.out (by kernel_rfl)) ?_
               have hnb131 := NB440_385.out
               have hnc131 := NB385_440.out
               have hnb132 := NB440_386.out
               have hnc132 := NB386_440.out
               have hnb133 := NB440_399.out
               have hnc133 := NB399_440.out
               have hnb134 := NB440_403.out
               have hnc134 := NB403_440.out
               have hnb135 := NB440_407.out
               have hnc135 := NB407_440.out
               have hnb136 := NB440_412.out
               have hnc136 := NB412_440.out
               have hcz137_0 : w128.cell? ⟨gb440, 0, none⟩ = some (.slice none 0 0) := (blk_cell BK440.out 0).trans rfl
               have hfz137_0 := blk_frozen BK440.out 0
               have hcz138_0 : w128.cell? ⟨gb399, 0, none⟩ = some (.slice Ao69 t395.length co69) := (blk_cell BK399.out 0).trans rfl
               have hfz138_0 := blk_frozen BK399.out 0
               try go_wp2_with (first | ((with_reducible refine gate_callee (f := 50) rfl ?_); refine goesL_ (some 114) rfl rfl Try.func50 (by kernel_rfl) rfl #[.agg #[.slice Ao129 t436.length co129], .agg #[.slice Ao69 t395.length co69]] rfl (by (try simp only [List.map_toArray, List.map_cons, List.map_nil]); first | done | rfl | (simp only [List.length_drop, List.length_take]; rfl)) ?_; (with_reducible refine (laws_eqSemigroup.calls k _ _ t436 _ _ t395 true _ ?side1 ?side2 ?side3 ?side4 A48.out).mono ?_); (case side1 => refine (Kd.R_reads' (e := 3) (base := w.heap.size) (ok := fun k_ => (some k_ ≠ (v390 : Value).ownBlock ∧ (some k_ ≠ (v393 : Value).ownBlock ∧ (some k_ ≠ (.slice Ao69 t395.length co69 : Value).ownBlock ∧ (some k_ ≠ (.slice Ao75 t400.length co75 : Value).ownBlock ∧ (some k_ ≠ (.slice Ao84 t404.length co84 : Value).ownBlock ∧ (some k_ ≠ (.slice Ao93 t408.length co93 : Value).ownBlock ∧ (some k_ ≠ (.slice Ao104 t414.length co104 : Value).ownBlock ∧ (some k_ ≠ (.slice Ao108 t418.length co108 : Value).ownBlock ∧ (some k_ ≠ (v431 : Value).ownBlock ∧ some k_ ≠ (v434 : Value).ownBlock)))))))))) (n := t436.length) (c := co129) ?_).2.2; exact (by (with_reducible repeat (first | apply Kd.R_alloc | apply Kd.R_drewN | apply Kd.R_drew)); exact (Kd.R_mono (Kd.R_far (p := ⟨gb440, 0, none⟩) (Kd.R_types HO438.out BK440.out (by decide)) (fun _ hk => hk.2) (.slice Ao129 t436.length co129)) (fun _ h_ => h_.1)))); (case side2 => exact (Kd.R_reads' HO438.out).2.1); (case side3 => refine (Kd.R_reads' (e := 3) (base := w.heap.size) (ok := fun k_ => (some k_ ≠ (v390 : Value).ownBlock ∧ (some k_ ≠ (v393 : Value).ownBlock ∧ (some k_ ≠ (.slice Ao75 t400.length co75 : Value).ownBlock ∧ (some k_ ≠ (.slice Ao84 t404.length co84 : Value).ownBlock ∧ (some k_ ≠ (.slice Ao93 t408.length co93 : Value).ownBlock ∧ (some k_ ≠ (.slice Ao104 t414.length co104 : Value).ownBlock ∧ (some k_ ≠ (.slice Ao108 t418.length co108 : Value).ownBlock ∧ (some k_ ≠ (v431 : Value).ownBlock ∧ (some k_ ≠ (v434 : Value).ownBlock ∧ some k_ ≠ (.slice Ao129 t436.length co129 : Value).ownBlock)))))))))) (n := t395.length) (c := co69) ?_).2.2; exact (by (with_reducible repeat (first | apply Kd.R_alloc | apply Kd.R_drewN | apply Kd.R_drew)); exact (Kd.R_mono (Kd.R_far (p := ⟨gb440, 0, none⟩) (Kd.R_types HO397.out BK440.out (by decide)) (fun _ hk => hk.2) (.slice Ao129 t436.length co129)) (fun _ h_ => h_.1)))); (case side4 => exact (Kd.R_reads' HO397.out).2.1); rintro e w139 ⟨rfl, hb⟩; refine ⟨_, rfl, ?_⟩; have n0_ := Aside0.mk (Kd.R_below (by (with_reducible repeat (first | apply Kd.R_alloc | apply Kd.R_drewN | apply Kd.R_drew)); exact (Kd.R_mono (Kd.R_far (p := ⟨gb440, 0, none⟩) (Kd.R_types HO391.out BK440.out (by decide)) (fun _ hk => hk.2) (.slice Ao129 t436.length co129)) (fun _ h_ => h_.1))) hb); have n1_ := Aside0.mk (Kd.R_below (by (with_reducible repeat (first | apply Kd.R_alloc | apply Kd.R_drewN | apply Kd.R_drew)); exact (Kd.R_mono (Kd.R_far (p := ⟨gb440, 0, none⟩) (Kd.R_types HO394.out BK440.out (by decide)) (fun _ hk => hk.2) (.slice Ao129 t436.length co129)) (fun _ h_ => h_.1))) hb); have n2_ := Aside0.mk (Kd.R_below (by (with_reducible repeat (first | apply Kd.R_alloc | apply Kd.R_drewN | apply Kd.R_drew)); exact (Kd.R_mono (Kd.R_far (p := ⟨gb440, 0, none⟩) (Kd.R_types HO397.out BK440.out (by decide)) (fun _ hk => hk.2) (.slice Ao129 t436.length co129)) (fun _ h_ => h_.1))) hb); have n3_ := Aside0.mk (Kd.R_below (by (with_reducible repeat (first | apply Kd.R_alloc | apply Kd.R_drewN | apply Kd.R_drew)); exact (Kd.R_mono (Kd.R_far (p := ⟨gb440, 0, none⟩) (Kd.R_types HO402.out BK440.out (by decide)) (fun _ hk => hk.2) (.slice Ao129 t436.length co129)) (fun _ h_ => h_.1))) hb); have n4_ := Aside0.mk (Kd.R_below (by (with_reducible repeat (first | apply Kd.R_alloc | apply Kd.R_drewN | apply Kd.R_drew)); exact (Kd.R_mono (Kd.R_far (p := ⟨gb440, 0, none⟩) (Kd.R_types HO406.out BK440.out (by decide)) (fun _ hk => hk.2) (.slice Ao129 t436.length co129)) (fun _ h_ => h_.1))) hb); have n5_ := Aside0.mk (Kd.R_below (by (with_reducible repeat (first | apply Kd.R_alloc | apply Kd.R_drewN | apply Kd.R_drew)); exact (Kd.R_mono (Kd.R_far (p := ⟨gb440, 0, none⟩) (Kd.R_types HO410.out BK440.out (by decide)) (fun _ hk => hk.2) (.slice Ao129 t436.length co129)) (fun _ h_ => h_.1))) hb); have n6_ := Aside0.mk (Kd.R_below (by (with_reducible repeat (first | apply Kd.R_alloc | apply Kd.R_drewN | apply Kd.R_drew)); exact (Kd.R_mono (Kd.R_far (p := ⟨gb440, 0, none⟩) (Kd.R_types HO416.out BK440.out (by decide)) (fun _ hk => hk.2) (.slice Ao129 t436.length co129)) (fun _ h_ => h_.1))) hb); have n7_ := Aside0.mk (Kd.R_below (by (with_reducible repeat (first | apply Kd.R_alloc | apply Kd.R_drewN | apply Kd.R_drew)); exact (Kd.R_mono (Kd.R_far (p := ⟨gb440, 0, none⟩) (Kd.R_types HO420.out BK440.out (by decide)) (fun _ hk => hk.2) (.slice Ao129 t436.length co129)) (fun _ h_ => h_.1))) hb); have n8_ := Aside0.mk (Kd.R_below (by (with_reducible repeat (first | apply Kd.R_alloc | apply Kd.R_drewN | apply Kd.R_drew)); exact (Kd.R_mono (Kd.R_far (p := ⟨gb440, 0, none⟩) (Kd.R_types HO432.out BK440.out (by decide)) (fun _ hk => hk.2) (.slice Ao129 t436.length co129)) (fun _ h_ => h_.1))) hb); have n9_ := Aside0.mk (Kd.R_below (by (with_reducible repeat (first | apply Kd.R_alloc | apply Kd.R_drewN | apply Kd.R_drew)); exact (Kd.R_mono (Kd.R_far (p := ⟨gb440, 0, none⟩) (Kd.R_types HO435.out BK440.out (by decide)) (fun _ hk => hk.2) (.slice Ao129 t436.length co129)) (fun _ h_ => h_.1))) hb); have n10_ := Aside0.mk (Kd.R_below (by (with_reducible repeat (first | apply Kd.R_alloc | apply Kd.R_drewN | apply Kd.R_drew)); exact (Kd.R_mono (Kd.R_far (p := ⟨gb440, 0, none⟩) (Kd.R_types HO438.out BK440.out (by decide)) (fun _ hk => hk.2) (.slice Ao129 t436.length co129)) (fun _ h_ => h_.1))) hb); have n11_ := Aside0.mk (blk_below (g := gb385) (o := .cells #[.slice A0_0 l0_0.length c0_0] 46 (0, 0)) (by (with_reducible repeat (first | refine blk_drewN ?_ _ | refine blk_drew ?_ | refine blk_alloc ?_ _)); refine blk_far ?_ NB385_440.out _; (with_reducible repeat (first | refine blk_drewN ?_ _ | refine blk_drew ?_ | refine blk_alloc ?_ _)); exact BK385.out) hb); have n12_ := Aside0.mk (blk_below (g := gb386) (o := .cells #[.slice A1_0 l1_0.length c1_0] 46 (0, 0)) (by (with_reducible repeat (first | refine blk_drewN ?_ _ | refine blk_drew ?_ | refine blk_alloc ?_ _)); refine blk_far ?_ NB386_440.out _; (with_reducible repeat (first | refine blk_drewN ?_ _ | refine blk_drew ?_ | refine blk_alloc ?_ _)); exact BK386.out) hb); have n13_ := Aside0.mk (blk_below (g := gb399) (o := .cells #[.slice Ao69 t395.length co69] 41 (0, 0)) (by (with_reducible repeat (first | refine blk_drewN ?_ _ | refine blk_drew ?_ | refine blk_alloc ?_ _)); refine blk_far ?_ NB399_440.out _; (with_reducible repeat (first | refine blk_drewN ?_ _ | refine blk_drew ?_ | refine blk_alloc ?_ _)); exact BK399.out) hb); have n14_ := Aside0.mk (blk_below (g := gb403) (o := .cells #[.slice Ao75 t400.length co75] 41 (0, 0)) (by (with_reducible repeat (first | refine blk_drewN ?_ _ | refine blk_drew ?_ | refine blk_alloc ?_ _)); refine blk_far ?_ NB403_440.out _; (with_reducible repeat (first | refine blk_drewN ?_ _ | refine blk_drew ?_ | refine blk_alloc ?_ _)); exact BK403.out) hb); have n15_ := Aside0.mk (blk_below (g := gb407) (o := .cells #[.slice Ao84 t404.length co84] 41 (0, 0)) (by (with_reducible repeat (first | refine blk_drewN ?_ _ | refine blk_drew ?_ | refine blk_alloc ?_ _)); refine blk_far ?_ NB407_440.out _; (with_reducible repeat (first | refine blk_drewN ?_ _ | refine blk_drew ?_ | refine blk_alloc ?_ _)); exact BK407.out) hb); have n16_ := Aside0.mk (blk_below (g := gb412) (o := .cells #[.slice Ao93 t408.length co93] 41 (0, 0)) (by (with_reducible repeat (first | refine blk_drewN ?_ _ | refine blk_drew ?_ | refine blk_alloc ?_ _)); refine blk_far ?_ NB412_440.out _; (with_reducible repeat (first | refine blk_drewN ?_ _ | refine blk_drew ?_ | refine blk_alloc ?_ _)); exact BK412.out) hb); have n17_ := Aside0.mk (blk_below (g := gb440) (o := .cells #[.slice Ao129 t436.length co129] 41 (0, 0)) (by (with_reducible repeat (first | refine blk_drewN ?_ _ | refine blk_drew ?_ | refine blk_alloc ?_ _)); refine blk_put (cs := #[.slice none 0 0]) ?_ 0 _ rfl; (with_reducible repeat (first | refine blk_drewN ?_ _ | refine blk_drew ?_ | refine blk_alloc ?_ _)); exact BK440.out) hb); have n18_ := Aside0.mk (below_step (bl_ HB.out) hb); clear HO391; clear HO394; clear HO397; clear HO402; clear HO406; clear HO410; clear HO416; clear HO420; clear HO432; clear HO435; clear HO438; clear BK385; clear BK386; clear BK399; clear BK403; clear BK407; clear BK412; clear BK440; clear HB; have HO391 := n0_; have HO394 := n1_; have HO397 := n2_; have HO402 := n3_; have HO406 := n4_; have HO410 := n5_; have HO416 := n6_; have HO420 := n7_; have HO432 := n8_; have HO435 := n9_; have HO438 := n10_; have BK385 := n11_; have BK386 := n12_; have BK399 := n13_; have BK403 := n14_; have BK407 := n15_; have BK412 := n16_; have BK440 := n17_; have HB := n18_; clear n0_ n1_ n2_ n3_ n4_ n5_ n6_ n7_ n8_ n9_ n10_ n11_ n12_ n13_ n14_ n15_ n16_ n17_ n18_; (try clear hb); (try clear hb2); (try clear hk); (try clear hi); have hcz140_0 : w139.cell? ⟨gb412, 0, none⟩ = some (.slice Ao93 t408.length co93) := (blk_cell BK412.out 0).trans rfl; have hfz140_0 := blk_frozen BK412.out 0) | ((with_reducible refine gate_callee (f := 52) rfl ?_); refine goesL_ (some 123) rfl rfl Try.func52 (by kernel_rfl) rfl #[.agg #[.slice Ao93 t428.length co93], .int .i64 1] rfl (by (try simp only [List.map_toArray, List.map_cons, List.map_nil]); first | done | (rw [show t428.length = t408.length from (Kd.R_reads' HO410.out).1.symm] <;> rfl) | rfl | (simp only [List.length_drop, List.length_take]; rfl)) ?_; (with_reducible refine (laws_heldSemigroup.calls k _ _ t428 1 t442 _ ?side1 ?side2 A51.out).mono ?_); (case side1 => repeat (first | exact (Kd.R_reads' HO410.out).2.2 | (with_reducible refine Kd.C_alloc ?_ _) | (with_reducible refine Kd.C_drewN ?_ _) | (with_reducible refine Kd.C_drew ?_))); (case side2 => rw [show t428.length = t408.length from (Kd.R_reads' HO410.out).1.symm]; exact (Kd.R_reads' HO410.out).2.1); rintro e w141 ⟨rfl, hb⟩; refine ⟨_, rfl, ?_⟩; have n0_ := Aside0.mk (Kd.R_below (kr_ HO391.out) hb); have n1_ := Aside0.mk (Kd.R_below (kr_ HO394.out) hb); have n2_ := Aside0.mk (Kd.R_below (kr_ HO397.out) hb); have n3_ := Aside0.mk (Kd.R_below (kr_ HO402.out) hb); have n4_ := Aside0.mk (Kd.R_below (kr_ HO406.out) hb); have n5_ := Aside0.mk (Kd.R_below (kr_ HO410.out) hb); have n6_ := Aside0.mk (Kd.R_below (kr_ HO416.out) hb); have n7_ := Aside0.mk (Kd.R_below (kr_ HO420.out) hb); have n8_ := Aside0.mk (Kd.R_below (kr_ HO432.out) hb); have n9_ := Aside0.mk (Kd.R_below (kr_ HO435.out) hb); have n10_ := Aside0.mk (Kd.R_below (kr_ HO438.out) hb); have n11_ := Aside0.mk (blk_below (bk_ BK385.out) hb); have n12_ := Aside0.mk (blk_below (bk_ BK386.out) hb); have n13_ := Aside0.mk (blk_below (bk_ BK399.out) hb); have n14_ := Aside0.mk (blk_below (bk_ BK403.out) hb); have n15_ := Aside0.mk (blk_below (bk_ BK407.out) hb); have n16_ := Aside0.mk (blk_below (bk_ BK412.out) hb); have n17_ := Aside0.mk (blk_below (bk_ BK440.out) hb); have n18_ := Aside0.mk (below_step (bl_ HB.out) hb); clear HO391; clear HO394; clear HO397; clear HO402; clear HO406; clear HO410; clear HO416; clear HO420; clear HO432; clear HO435; clear HO438; clear BK385; clear BK386; clear BK399; clear BK403; clear BK407; clear BK412; clear BK440; clear HB; have HO391 := n0_; have HO394 := n1_; have HO397 := n2_; have HO402 := n3_; have HO406 := n4_; have HO410 := n5_; have HO416 := n6_; have HO420 := n7_; have HO432 := n8_; have HO435 := n9_; have HO438 := n10_; have BK385 := n11_; have BK386 := n12_; have BK399 := n13_; have BK403 := n14_; have BK407 := n15_; have BK412 := n16_; have BK440 := n17_; have HB := n18_; clear n0_ n1_ n2_ n3_ n4_ n5_ n6_ n7_ n8_ n9_ n10_ n11_ n12_ n13_ n14_ n15_ n16_ n17_ n18_; (try clear hb); (try clear hb2); (try clear hk); (try clear hi)))
               go_ret
               exact ⟨by first | rfl | (simp [errW_none, errW_some] <;> rfl) | (simp [*, errW_none, errW_some] <;> rfl), bl_ HB.out⟩
              ·rw [if_neg c53] at H
               exact absurd H (by simp)
           ·replace c49 := Bool.eq_false_iff.mpr c49
            subst c49
            rw [if_neg (show ¬ (false = true) by decide)] at H
            exact absurd H (by simp)
          ·rw [if_neg c44] at H
           exact absurd H (by simp)
        ·replace c40 := Bool.eq_false_iff.mpr c40
         subst c40
         rw [if_neg (show ¬ (false = true) by decide)] at H
         exact absurd H (by simp)
      ·replace c35 := Bool.eq_false_iff.mpr c35
       subst c35
       rw [if_neg (show ¬ (false = true) by decide)] at H
       exact absurd H (by simp)
     ·replace c32 := Bool.eq_false_iff.mpr c32
      subst c32
      rw [if_neg (show ¬ (false = true) by decide)] at H
      exact absurd H (by simp)
   ·replace c28 := Bool.eq_false_iff.mpr c28
    subst c28
    rw [if_neg (show ¬ (false = true) by decide)] at H
    exact absurd H (by simp)
end Go.Proofs.Ytbjbolblahlhcaa.PFnExactGlueOf
