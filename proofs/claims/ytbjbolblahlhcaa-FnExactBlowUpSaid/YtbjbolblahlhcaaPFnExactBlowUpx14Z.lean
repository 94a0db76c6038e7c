/- A text of the claim for FnExactBlowUp: its part of the chain from the printed contracts and the plain laws to the row. It has no condition of its own. -/
import Derived.Test.YtbjbolblahlhcaaPFnExactBlowUpx0Z
import Derived.Test.YtbjbolblahlhcaaPFnExactBlowUpx1Z
import Derived.Test.YtbjbolblahlhcaaPFnExactBlowUpx7Z
import Derived.Test.YtbjbolblahlhcaaPFnExactBlowUpx12Z
import Derived.Test.YtbjbolblahlhcaaPFnExactBlowUpx13Z
namespace Go.Proofs.Ytbjbolblahlhcaa.PFnExactBlowUp
open Go.RowKit Go.Proofs.YtbjbolblahlhcaaW.PrintWords Go.Proofs.YtbjbolblahlhcaaW.PrintLast Go.Proofs.YtbjbolblahlhcaaW.PrintMore
open Go.Proofs.Ytbjbolblahlhcaa.SortW (t_ f_)
attribute [local go_sem] max2_int min2_int max_two min_two max_three min_three max_four min_four
set_option linter.unusedVariables false
set_option linter.unusedSimpArgs false
mutual
def laws_FnExactBlowUp.j0 : Nat → Bool → Bool → Bool → List Int → List Int → List Int → List Int → Option (Bool)
 | 0, _, _, _, _, _, _, _ => none
 | k + 1, x5, x8, x40, x345000, x354000, x358000, x363000 => if x40 = true then (some false) else ((laws_toSemigroup.f k x345000).bind fun t364 => ((laws_eqSemigroup.f k x358000 t364).bind fun t367 => (if t367 = true then ((laws_markSemigroup.f k x358000 1).bind fun bt368 => (if bt368.1 < 0 then (laws_FnExactBlowUp.j1 k x5 true x345000 x354000 x363000) else ((laws_eqSemigroup.f k x363000 x354000).bind fun t370 => (if t370 = true then (laws_FnExactBlowUp.j1 k x5 (x8 != x5) x345000 x354000 x363000) else (laws_FnExactBlowUp.j1 k x5 true x345000 x354000 x363000))))) else (some false))))
def laws_FnExactBlowUp.j1 : Nat → Bool → Bool → List Int → List Int → List Int → Option (Bool)
 | 0, _, _, _, _, _ => none
 | k + 1, x5, x61, x345000, x354000, x363000 => if x61 = true then (some false) else ((laws_markSemigroup.f k x363000 1).bind fun bt371 => ((laws_heldSemigroup.f k bt371.2 1).bind fun t373 => (if t373 < 0 then (some false) else (if t373 = bt371.1 then ((laws_toSemigroup.f k x345000).bind fun t374 => ((impl_BlowUp.f k t374).bind fun bt377 => ((laws_eqSemigroup.f k bt377.1 x354000).bind fun t382 => (if t382 = true then (laws_FnExactBlowUp.j2 k bt371.1 (bt377.2 != x5) bt371.2) else (laws_FnExactBlowUp.j2 k bt371.1 true bt371.2))))) else (some false)))))
def laws_FnExactBlowUp.j2 : Nat → Int → Bool → List Int → Option (Bool)
 | 0, _, _, _ => none
 | k + 1, x10, x87, x363000 => if x87 = true then (some false) else ((laws_heldSemigroup.f k x363000 1).bind fun t383 => (if t383 < 0 then (some false) else (if t383 = x10 then (some true) else (some false))))
end
def laws_FnExactBlowUp.f (k : Nat) (l0_0 : List Int) : Option (Bool) := (laws_szSemigroup.f l0_0 1048576).bind fun t345 => (if t345 < 0 then (some true) else ((laws_toSemigroup.f k l0_0).bind fun t346 => ((spec_BlowUp.f k t346).bind fun bt349 => ((laws_toSemigroup.f k l0_0).bind fun t354 => ((impl_BlowUp.f k t354).bind fun bt358 => ((laws_eqSemigroup.f k bt358.1 bt349.1).bind fun t363 => (if t363 = true then (laws_FnExactBlowUp.j0 k bt349.2 bt358.2 (bt358.2 != bt349.2) l0_0 bt349.1 t354 bt358.1) else (laws_FnExactBlowUp.j0 k bt349.2 bt358.2 true l0_0 bt349.1 t354 bt358.1))))))))
theorem laws_FnExactBlowUp.mono_l : ∀ k, (∀ y0 y1 y2 y3 y4 y5 y6, LeO (laws_FnExactBlowUp.j0 k y0 y1 y2 y3 y4 y5 y6) (laws_FnExactBlowUp.j0 (k + 1) y0 y1 y2 y3 y4 y5 y6)) ∧ (∀ y0 y1 y2 y3 y4, LeO (laws_FnExactBlowUp.j1 k y0 y1 y2 y3 y4) (laws_FnExactBlowUp.j1 (k + 1) y0 y1 y2 y3 y4)) ∧ (∀ y0 y1 y2, LeO (laws_FnExactBlowUp.j2 k y0 y1 y2) (laws_FnExactBlowUp.j2 (k + 1) y0 y1 y2))
 | 0 => ⟨fun _ _ _ _ _ _ _ r h => by simp [laws_FnExactBlowUp.j0] at h, fun _ _ _ _ _ r h => by simp [laws_FnExactBlowUp.j1] at h, fun _ _ _ r h => by simp [laws_FnExactBlowUp.j2] at h⟩
 | k + 1 => by
  obtain ⟨ih0, ih1, ih2⟩ := laws_FnExactBlowUp.mono_l k
  refine ⟨?_, ?_, ?_⟩
  ·intro y0 y1 y2 y3 y4 y5 y6
   unfold laws_FnExactBlowUp.j0
   repeat' first
   | (with_reducible exact ih0 _ _ _ _ _ _ _)
   | (with_reducible exact ih1 _ _ _ _ _)
   | (with_reducible exact ih2 _ _ _)
   | (with_reducible exact impl_BlowUp.mono _ _)
   | (with_reducible exact laws_eqSemigroup.mono _ _ _)
   | (with_reducible exact laws_heldSemigroup.mono _ _ _)
   | (with_reducible exact laws_markSemigroup.mono _ _ _)
   | (with_reducible exact laws_toSemigroup.mono _ _)
   | (with_reducible exact spec_BlowUp.mono _ _)
   | (with_reducible exact LeO.refl _)
   | (with_reducible exact LeO.none _)
   | (with_reducible refine LeO.ite ?_ ?_)
   | (with_reducible refine LeO.bind ?_ (fun _ => ?_))
   | exact ih0 _ _ _ _ _ _ _
   | exact ih1 _ _ _ _ _
   | exact ih2 _ _ _
   | exact impl_BlowUp.mono _ _
   | exact laws_eqSemigroup.mono _ _ _
   | exact laws_heldSemigroup.mono _ _ _
   | exact laws_markSemigroup.mono _ _ _
   | exact laws_toSemigroup.mono _ _
   | exact spec_BlowUp.mono _ _
   | exact LeO.none _
   | refine LeO.ite ?_ ?_
   | refine LeO.bind ?_ (fun _ => ?_)
  ·intro y0 y1 y2 y3 y4
   unfold laws_FnExactBlowUp.j1
   repeat' first
   | (with_reducible exact ih0 _ _ _ _ _ _ _)
   | (with_reducible exact ih1 _ _ _ _ _)
   | (with_reducible exact ih2 _ _ _)
   | (with_reducible exact impl_BlowUp.mono _ _)
   | (with_reducible exact laws_eqSemigroup.mono _ _ _)
   | (with_reducible exact laws_heldSemigroup.mono _ _ _)
   | (with_reducible exact laws_markSemigroup.mono _ _ _)
   | (with_reducible exact laws_toSemigroup.mono _ _)
   | (with_reducible exact spec_BlowUp.mono _ _)
   | (with_reducible exact LeO.refl _)
   | (with_reducible exact LeO.none _)
   | (with_reducible refine LeO.ite ?_ ?_)
   | (with_reducible refine LeO.bind ?_ (fun _ => ?_))
   | exact ih0 _ _ _ _ _ _ _
   | exact ih1 _ _ _ _ _
   | exact ih2 _ _ _
   | exact impl_BlowUp.mono _ _
   | exact laws_eqSemigroup.mono _ _ _
   | exact laws_heldSemigroup.mono _ _ _
   | exact laws_markSemigroup.mono _ _ _
   | exact laws_toSemigroup.mono _ _
   | exact spec_BlowUp.mono _ _
   | exact LeO.none _
   | refine LeO.ite ?_ ?_
   | refine LeO.bind ?_ (fun _ => ?_)
  ·intro y0 y1 y2
   unfold laws_FnExactBlowUp.j2
   repeat' first
   | (with_reducible exact ih0 _ _ _ _ _ _ _)
   | (with_reducible exact ih1 _ _ _ _ _)
   | (with_reducible exact ih2 _ _ _)
   | (with_reducible exact impl_BlowUp.mono _ _)
   | (with_reducible exact laws_eqSemigroup.mono _ _ _)
   | (with_reducible exact laws_heldSemigroup.mono _ _ _)
   | (with_reducible exact laws_markSemigroup.mono _ _ _)
   | (with_reducible exact laws_toSemigroup.mono _ _)
   | (with_reducible exact spec_BlowUp.mono _ _)
   | (with_reducible exact LeO.refl _)
   | (with_reducible exact LeO.none _)
   | (with_reducible refine LeO.ite ?_ ?_)
   | (with_reducible refine LeO.bind ?_ (fun _ => ?_))
   | exact ih0 _ _ _ _ _ _ _
   | exact ih1 _ _ _ _ _
   | exact ih2 _ _ _
   | exact impl_BlowUp.mono _ _
   | exact laws_eqSemigroup.mono _ _ _
   | exact laws_heldSemigroup.mono _ _ _
   | exact laws_markSemigroup.mono _ _ _
   | exact laws_toSemigroup.mono _ _
   | exact spec_BlowUp.mono _ _
   | exact LeO.none _
   | refine LeO.ite ?_ ?_
   | refine LeO.bind ?_ (fun _ => ?_)
theorem laws_FnExactBlowUp.mono : ∀ a0 k, LeO (laws_FnExactBlowUp.f k a0) (laws_FnExactBlowUp.f (k + 1) a0) := by
 intro a0 k
 obtain ⟨ih0, ih1, ih2⟩ := laws_FnExactBlowUp.mono_l k
 unfold laws_FnExactBlowUp.f
 repeat' first
  | (with_reducible exact ih0 _ _ _ _ _ _ _)
  | (with_reducible exact ih1 _ _ _ _ _)
  | (with_reducible exact ih2 _ _ _)
  | (with_reducible exact impl_BlowUp.mono _ _)
  | (with_reducible exact laws_eqSemigroup.mono _ _ _)
  | (with_reducible exact laws_heldSemigroup.mono _ _ _)
  | (with_reducible exact laws_markSemigroup.mono _ _ _)
  | (with_reducible exact laws_toSemigroup.mono _ _)
  | (with_reducible exact spec_BlowUp.mono _ _)
  | (with_reducible exact LeO.refl _)
  | (with_reducible exact LeO.none _)
  | (with_reducible refine LeO.ite ?_ ?_)
  | (with_reducible refine LeO.bind ?_ (fun _ => ?_))
  | exact ih0 _ _ _ _ _ _ _
  | exact ih1 _ _ _ _ _
  | exact ih2 _ _ _
  | exact impl_BlowUp.mono _ _
  | exact laws_eqSemigroup.mono _ _ _
  | exact laws_heldSemigroup.mono _ _ _
  | exact laws_markSemigroup.mono _ _ _
  | exact laws_toSemigroup.mono _ _
  | exact spec_BlowUp.mono _ _
  | exact LeO.none _
  | refine LeO.ite ?_ ?_
  | refine LeO.bind ?_ (fun _ => ?_)
set_option maxHeartbeats 8000000 in
set_option maxRecDepth 100000 in
theorem laws_FnExactBlowUp.calls (k : Nat) (A0_0 : Option Addr) (c0_0 : Nat) (l0_0 : List Int) (r : Bool) (w : World) (hr0_0 : Kd.C (Kd.int .i64) w A0_0 l0_0.length l0_0) (hc0_0 : l0_0.length ≤ c0_0) (h : laws_FnExactBlowUp.f k l0_0 = some r) :
 Calls Try.prog 6 #[.agg #[.slice A0_0 l0_0.length c0_0]] w fun e w' => e = .returned (.bool r) ∧ Below w.heap.size w w' := by
 have hu46 := Try.underlying46
 have hu41 := Try.underlying41
 have HR0_0 := Aside0.mk hr0_0
 have HC0_0 := Aside0.mk hc0_0
 clear hr0_0 hc0_0
 have HB := Aside0.mk (Below.refl w.heap.size w)
 have H : ((laws_szSemigroup.f l0_0 1048576).bind fun t345 => (if t345 < 0 then (some true) else ((laws_toSemigroup.f k l0_0).bind fun t346 => ((spec_BlowUp.f k t346).bind fun bt349 => ((laws_toSemigroup.f k l0_0).bind fun t354 => ((impl_BlowUp.f k t354).bind fun bt358 => ((laws_eqSemigroup.f k bt358.1 bt349.1).bind fun t363 => (if t363 = true then (laws_FnExactBlowUp.j0 k bt349.2 bt358.2 (bt358.2 != bt349.2) l0_0 bt349.1 t354 bt358.1) else (laws_FnExactBlowUp.j0 k bt349.2 bt358.2 true l0_0 bt349.1 t354 bt358.1))))))))) = some r := h
 clear h
 replace H := Option.bind_eq_some_iff.mp H
 obtain ⟨t345, A20, H⟩ := H
 replace H : (if t345 < 0 then (some true) else ((laws_toSemigroup.f k l0_0).bind fun t346 => ((spec_BlowUp.f k t346).bind fun bt349 => ((laws_toSemigroup.f k l0_0).bind fun t354 => ((impl_BlowUp.f k t354).bind fun bt358 => ((laws_eqSemigroup.f k bt358.1 bt349.1).bind fun t363 => (if t363 = true then (laws_FnExactBlowUp.j0 k bt349.2 bt358.2 (bt358.2 != bt349.2) l0_0 bt349.1 t354 bt358.1) else (laws_FnExactBlowUp.j0 k bt349.2 bt358.2 true l0_0 bt349.1 t354 bt358.1)))))))) = some r := H
 have A2 := Aside0.mk A20
 clear A20
 by_cases c3 : t345 < 0
 ·rw [if_pos c3] at H
  have c3b0 : decide (t345 < 0) = true := decide_eq_true c3
  clear c3
  obtain rfl := Option.some.inj H
  go_enter Try.func6, Try.ntmps6
  go_wp2_with (first | ((with_reducible refine gate_dst (N := 1) rfl ?_); refine box_event ?hg (N := 1) ?hd (cs := #[.slice A0_0 l0_0.length c0_0]) (t := 46) ?hr ?_; (case hd => rfl); (case hg => rfl); (case hr => first | (go_simp; done) | (go_simp; rfl)); intro gb344 hg w4 hbox hb; have n0_ := Aside0.mk (below_step (by repeat (first | (with_reducible first | exact HB.out | apply below_alloc | apply pw_below_drewN | apply below_drew1) | exact HB.out | exact Below.refl _ _)) hb); have n1_ := Aside0.mk (hbox); have n2_ := Aside0.mk ((by rw [hg]; exact (below_size (by repeat (first | (with_reducible first | exact HB.out | apply below_alloc | apply pw_below_drewN | apply below_drew1) | exact HB.out | exact Below.refl _ _))) : w.heap.size ≤ gb344)); have n3_ := Aside0.mk ((by rw [hg]; exact (below_size (by repeat (first | (with_reducible first | exact HB.out | apply below_alloc | apply pw_below_drewN | apply below_drew1) | exact HB.out | exact Below.refl _ _))) : w.heap.size ≤ gb344)); clear HB; have HB := n0_; have BK344 := n1_; have GW344 := n2_; have GE344 := n3_; clear n0_ n1_ n2_ n3_; clear hb hbox hg; have hcz5_0 : w4.cell? ⟨gb344, 0, none⟩ = some (.slice A0_0 l0_0.length c0_0) := (blk_cell BK344.out 0).trans rfl; have hfz5_0 := blk_frozen BK344.out 0) | ((with_reducible refine gate_callee (f := 46) rfl ?_); refine goesL_ (some 16) rfl rfl Try.func46 (by kernel_rfl) rfl #[.agg #[.slice A0_0 l0_0.length c0_0], .int .i64 1048576] rfl (by (try simp only [List.map_toArray, List.map_cons, List.map_nil]); first | done | rfl | (simp only [List.length_drop, List.length_take]; rfl)) ?_; (with_reducible refine (laws_szSemigroup.calls _ _ l0_0 1048576 t345 _ ?side1 ?side2 A2.out).mono ?_); (case side1 => repeat (first | exact (Kd.C_below HR0_0.out HB.out) | exact HR0_0.out | (with_reducible refine Kd.C_alloc ?_ _) | (with_reducible refine Kd.C_drewN ?_ _) | (with_reducible refine Kd.C_drew ?_))); (case side2 => exact HC0_0.out); rintro e w6 ⟨rfl, hb⟩; refine ⟨_, rfl, ?_⟩; have n0_ := Aside0.mk (blk_below (g := gb344) (o := .cells #[.slice A0_0 l0_0.length c0_0] 46 (0, 0)) (by (with_reducible repeat (first | refine blk_drewN ?_ _ | refine blk_drew ?_ | refine blk_alloc ?_ _)); exact BK344.out) hb); have n1_ := Aside0.mk (below_step (by repeat (first | (with_reducible first | exact HB.out | apply below_alloc | apply pw_below_drewN | apply below_drew1 | refine below_set ?_ GE344.out) | exact HB.out)) hb); clear BK344; clear HB; have BK344 := n0_; have HB := n1_; clear n0_ n1_; (try clear hb); (try clear hb2); (try clear hk); (try clear hi)))
  go_ret
  exact ⟨by first | rfl | (simp [errW_none, errW_some] <;> rfl) | (simp [*, errW_none, errW_some] <;> rfl), by repeat (first | (with_reducible first | exact HB.out | apply below_alloc | apply pw_below_drewN | apply below_drew1 | refine below_set ?_ GE344.out) | exact HB.out)⟩
 ·rw [if_neg c3] at H
  have c3b0 : decide (t345 < 0) = false := decide_eq_false c3
  clear c3
  replace H := Option.bind_eq_some_iff.mp H
  obtain ⟨t346, A70, H⟩ := H
  replace H : ((spec_BlowUp.f k t346).bind fun bt349 => ((laws_toSemigroup.f k l0_0).bind fun t354 => ((impl_BlowUp.f k t354).bind fun bt358 => ((laws_eqSemigroup.f k bt358.1 bt349.1).bind fun t363 => (if t363 = true then (laws_FnExactBlowUp.j0 k bt349.2 bt358.2 (bt358.2 != bt349.2) l0_0 bt349.1 t354 bt358.1) else (laws_FnExactBlowUp.j0 k bt349.2 bt358.2 true l0_0 bt349.1 t354 bt358.1)))))) = some r := H
  have A7 := Aside0.mk A70
  clear A70
  replace H := Option.bind_eq_some_iff.mp H
  obtain ⟨⟨t349, t352⟩, A80, H⟩ := H
  replace H : ((laws_toSemigroup.f k l0_0).bind fun t354 => ((impl_BlowUp.f k t354).bind fun bt358 => ((laws_eqSemigroup.f k bt358.1 t349).bind fun t363 => (if t363 = true then (laws_FnExactBlowUp.j0 k t352 bt358.2 (bt358.2 != t352) l0_0 t349 t354 bt358.1) else (laws_FnExactBlowUp.j0 k t352 bt358.2 true l0_0 t349 t354 bt358.1))))) = some r := H
  have A8 := Aside0.mk A80
  clear A80
  replace H := Option.bind_eq_some_iff.mp H
  obtain ⟨t354, A90, H⟩ := H
  replace H : ((impl_BlowUp.f k t354).bind fun bt358 => ((laws_eqSemigroup.f k bt358.1 t349).bind fun t363 => (if t363 = true then (laws_FnExactBlowUp.j0 k t352 bt358.2 (bt358.2 != t352) l0_0 t349 t354 bt358.1) else (laws_FnExactBlowUp.j0 k t352 bt358.2 true l0_0 t349 t354 bt358.1)))) = some r := H
  have A9 := Aside0.mk A90
  clear A90
  replace H := Option.bind_eq_some_iff.mp H
  obtain ⟨⟨t358, t361⟩, A100, H⟩ := H
  replace H : ((laws_eqSemigroup.f k t358 t349).bind fun t363 => (if t363 = true then (laws_FnExactBlowUp.j0 k t352 t361 (t361 != t352) l0_0 t349 t354 t358) else (laws_FnExactBlowUp.j0 k t352 t361 true l0_0 t349 t354 t358))) = some r := H
  have A10 := Aside0.mk A100
  clear A100
  have HC11 := Aside0.mk H
  clear H
  go_enter Try.func6, Try.ntmps6
  go_upto_region 8 with (first | ((with_reducible refine gate_dst (N := 1) rfl ?_); refine box_event ?hg (N := 1) ?hd (cs := #[.slice A0_0 l0_0.length c0_0]) (t := 46) ?hr ?_; (case hd => rfl); (case hg => rfl); (case hr => first | (go_simp; done) | (go_simp; rfl)); intro gb344 hg w12 hbox hb; have n0_ := Aside0.mk (below_step (by repeat (first | (with_reducible first | exact HB.out | apply below_alloc | apply pw_below_drewN | apply below_drew1) | exact HB.out | exact Below.refl _ _)) hb); have n1_ := Aside0.mk (hbox); have n2_ := Aside0.mk ((by rw [hg]; exact (below_size (by repeat (first | (with_reducible first | exact HB.out | apply below_alloc | apply pw_below_drewN | apply below_drew1) | exact HB.out | exact Below.refl _ _))) : w.heap.size ≤ gb344)); have n3_ := Aside0.mk ((by rw [hg]; exact (below_size (by repeat (first | (with_reducible first | exact HB.out | apply below_alloc | apply pw_below_drewN | apply below_drew1) | exact HB.out | exact Below.refl _ _))) : w.heap.size ≤ gb344)); clear HB; have HB := n0_; have BK344 := n1_; have GW344 := n2_; have GE344 := n3_; clear n0_ n1_ n2_ n3_; clear hb hbox hg; have hcz13_0 : w12.cell? ⟨gb344, 0, none⟩ = some (.slice A0_0 l0_0.length c0_0) := (blk_cell BK344.out 0).trans rfl; have hfz13_0 := blk_frozen BK344.out 0) | ((with_reducible refine gate_callee (f := 46) rfl ?_); refine goesL_ (some 16) rfl rfl Try.func46 (by kernel_rfl) rfl #[.agg #[.slice A0_0 l0_0.length c0_0], .int .i64 1048576] rfl (by (try simp only [List.map_toArray, List.map_cons, List.map_nil]); first | done | rfl | (simp only [List.length_drop, List.length_take]; rfl)) ?_; (with_reducible refine (laws_szSemigroup.calls _ _ l0_0 1048576 t345 _ ?side1 ?side2 A2.out).mono ?_); (case side1 => repeat (first | exact (Kd.C_below HR0_0.out HB.out) | exact HR0_0.out | (with_reducible refine Kd.C_alloc ?_ _) | (with_reducible refine Kd.C_drewN ?_ _) | (with_reducible refine Kd.C_drew ?_))); (case side2 => exact HC0_0.out); rintro e w14 ⟨rfl, hb⟩; refine ⟨_, rfl, ?_⟩; have n0_ := Aside0.mk (blk_below (g := gb344) (o := .cells #[.slice A0_0 l0_0.length c0_0] 46 (0, 0)) (by (with_reducible repeat (first | refine blk_drewN ?_ _ | refine blk_drew ?_ | refine blk_alloc ?_ _)); exact BK344.out) hb); have n1_ := Aside0.mk (below_step (by repeat (first | (with_reducible first | exact HB.out | apply below_alloc | apply pw_below_drewN | apply below_drew1 | refine below_set ?_ GE344.out) | exact HB.out)) hb); clear BK344; clear HB; have BK344 := n0_; have HB := n1_; clear n0_ n1_; (try clear hb); (try clear hb2); (try clear hk); (try clear hi); have hcz15_0 : w14.cell? ⟨gb344, 0, none⟩ = some (.slice A0_0 l0_0.length c0_0) := (blk_cell BK344.out 0).trans rfl; have hfz15_0 := blk_frozen BK344.out 0) | ((with_reducible refine gate_callee (f := 48) rfl ?_); refine goesL_ (some 21) rfl rfl Try.func48 (by kernel_rfl) rfl #[.agg #[.slice A0_0 l0_0.length c0_0]] rfl (by (try simp only [List.map_toArray, List.map_cons, List.map_nil]); first | done | rfl | (simp only [List.length_drop, List.length_take]; rfl)) ?_; (with_reducible refine (laws_toSemigroup.calls k _ _ l0_0 t346 _ ?side1 ?side2 A7.out).mono ?_); (case side1 => repeat (first | exact (Kd.C_below HR0_0.out HB.out) | (with_reducible refine Kd.C_alloc ?_ _) | (with_reducible refine Kd.C_drewN ?_ _) | (with_reducible refine Kd.C_drew ?_))); (case side2 => exact HC0_0.out); rintro e w16 ⟨v347, rfl, ho0, hb⟩; refine ⟨_, rfl, ?_⟩; have n0_ := Aside0.mk (Kd.R_lower ho0 (below_size (by repeat (first | (with_reducible first | exact HB.out | apply below_alloc | apply pw_below_drewN | apply below_drew1 | refine below_set ?_ GE344.out) | exact HB.out)))); have n1_ := Aside0.mk (blk_below (g := gb344) (o := .cells #[.slice A0_0 l0_0.length c0_0] 46 (0, 0)) (by (with_reducible repeat (first | refine blk_drewN ?_ _ | refine blk_drew ?_ | refine blk_alloc ?_ _)); exact BK344.out) hb); have n2_ := Aside0.mk (below_step (by repeat (first | (with_reducible first | exact HB.out | apply below_alloc | apply pw_below_drewN | apply below_drew1 | refine below_set ?_ GE344.out) | exact HB.out)) hb); clear BK344; clear HB; have HO348 := n0_; have BK344 := n1_; have HB := n2_; clear n0_ n1_ n2_; (try clear hb); (try clear hb2); (try clear hk); (try clear hi); (try clear ho0); obtain ⟨Ao17, co17, eo17⟩ := Kd.R_slice HO348.out; subst eo17) | ((with_reducible refine gate_callee (f := 47) rfl ?_); refine goesL_ (some 22) rfl rfl Try.func47 (by kernel_rfl) rfl #[.agg #[.slice Ao17 t346.length co17]] rfl (by (try simp only [List.map_toArray, List.map_cons, List.map_nil]); first | done | rfl | (simp only [List.length_drop, List.length_take]; rfl)) ?_; (with_reducible refine (spec_BlowUp.calls k _ _ t346 t349 t352 _ ?side1 ?side2 A8.out).mono ?_); (case side1 => repeat (first | exact (Kd.R_reads' HO348.out).2.2 | (with_reducible refine Kd.C_alloc ?_ _) | (with_reducible refine Kd.C_drewN ?_ _) | (with_reducible refine Kd.C_drew ?_))); (case side2 => exact (Kd.R_reads' HO348.out).2.1); rintro e w18 ⟨v350, rfl, ho0, hb⟩; refine ⟨_, rfl, ?_⟩; have n0_ := Aside0.mk (Kd.R_elder' (by (with_reducible repeat (first | apply Kd.R_alloc | apply Kd.R_drewN | apply Kd.R_drew)); exact HO348.out) (Kd.R_base ho0) hb); have n1_ := Aside0.mk (Kd.R_lower (Kd.R_new' ho0 (Kd.R_lt (by (with_reducible repeat (first | apply Kd.R_alloc | apply Kd.R_drewN | apply Kd.R_drew)); exact HO348.out))) (below_size (by repeat (first | (with_reducible first | exact HB.out | apply below_alloc | apply pw_below_drewN | apply below_drew1 | refine below_set ?_ GE344.out) | exact HB.out)))); have n2_ := Aside0.mk (blk_below (g := gb344) (o := .cells #[.slice A0_0 l0_0.length c0_0] 46 (0, 0)) (by (with_reducible repeat (first | refine blk_drewN ?_ _ | refine blk_drew ?_ | refine blk_alloc ?_ _)); exact BK344.out) hb); have n3_ := Aside0.mk (below_step (by repeat (first | (with_reducible first | exact HB.out | apply below_alloc | apply pw_below_drewN | apply below_drew1 | refine below_set ?_ GE344.out) | exact HB.out)) hb); clear HO348; clear BK344; clear HB; have HO348 := n0_; have HO351 := n1_; have BK344 := n2_; have HB := n3_; clear n0_ n1_ n2_ n3_; (try clear hb); (try clear hb2); (try clear hk); (try clear hi); (try clear ho0)) | ((with_reducible refine gate_dst (N := 4) rfl ?_); refine box_event ?hg (N := 4) ?hd (cs := #[.slice none 0 0]) (t := 41) ?hr ?_; (case hd => rfl); (case hg => rfl); (case hr => first | (go_simp; done) | (go_simp; rfl)); intro gb353 hg w19 hbox hb; have n0_ := Aside0.mk (Kd.R_below (by (with_reducible repeat (first | apply Kd.R_alloc | apply Kd.R_drewN | apply Kd.R_drew)); exact HO348.out) hb); have n1_ := Aside0.mk (Kd.R_below (by (with_reducible repeat (first | apply Kd.R_alloc | apply Kd.R_drewN | apply Kd.R_drew)); exact HO351.out) hb); have n2_ := Aside0.mk (blk_below (g := gb344) (o := .cells #[.slice A0_0 l0_0.length c0_0] 46 (0, 0)) (by (with_reducible repeat (first | refine blk_drewN ?_ _ | refine blk_drew ?_ | refine blk_alloc ?_ _)); exact BK344.out) hb); have n3_ := Aside0.mk (below_step (by repeat (first | (with_reducible first | exact HB.out | apply below_alloc | apply pw_below_drewN | apply below_drew1 | refine below_set ?_ GE344.out) | exact HB.out)) hb); have n4_ := Aside0.mk (hbox); have n5_ := Aside0.mk ((by rw [hg]; exact (below_size (by repeat (first | (with_reducible first | exact HB.out | apply below_alloc | apply pw_below_drewN | apply below_drew1 | refine below_set ?_ GE344.out) | exact HB.out))) : w.heap.size ≤ gb353)); have n6_ := Aside0.mk ((by rw [hg]; exact (below_size (by repeat (first | (with_reducible first | exact HB.out | apply below_alloc | apply pw_below_drewN | apply below_drew1 | refine below_set ?_ GE344.out) | exact HB.out))) : w.heap.size ≤ gb353)); have n7_ := Aside0.mk ((by rw [hg]; exact Nat.ne_of_lt (blk_lt (g := gb344) (o := .cells #[.slice A0_0 l0_0.length c0_0] 46 (0, 0)) (by (with_reducible repeat (first | refine blk_drewN ?_ _ | refine blk_drew ?_ | refine blk_alloc ?_ _)); exact BK344.out)) : gb344 ≠ gb353)); have n8_ := Aside0.mk ((by rw [hg]; exact Nat.ne_of_gt (blk_lt (g := gb344) (o := .cells #[.slice A0_0 l0_0.length c0_0] 46 (0, 0)) (by (with_reducible repeat (first | refine blk_drewN ?_ _ | refine blk_drew ?_ | refine blk_alloc ?_ _)); exact BK344.out)) : gb353 ≠ gb344)); clear HO348; clear HO351; clear BK344; clear HB; have HO348 := n0_; have HO351 := n1_; have BK344 := n2_; have HB := n3_; have BK353 := n4_; have GW353 := n5_; have GE353 := n6_; have NB344_353 := n7_; have NB353_344 := n8_; clear n0_ n1_ n2_ n3_ n4_ n5_ n6_ n7_ n8_; clear hb hbox hg; obtain ⟨Ao20, co20, eo20⟩ := Kd.R_slice HO351.out; subst eo20; have hnb21 := NB353_344.out; have hnc21 := NB344_353.out; have hcz22_0 : w19.cell? ⟨gb353, 0, none⟩ = some (.slice none 0 0) := (blk_cell BK353.out 0).trans rfl; have hfz22_0 := blk_frozen BK353.out 0; have hcz23_0 : w19.cell? ⟨gb344, 0, none⟩ = some (.slice A0_0 l0_0.length c0_0) := (blk_cell BK344.out 0).trans rfl; have hfz23_0 := blk_frozen BK344.out 0) | ((with_reducible refine gate_callee (f := 48) rfl ?_); refine goesL_ (some 26) rfl rfl Try.func48 (by kernel_rfl) rfl #[.agg #[.slice A0_0 l0_0.length c0_0]] rfl (by (try simp only [List.map_toArray, List.map_cons, List.map_nil]); first | done | rfl | (simp only [List.length_drop, List.length_take]; rfl)) ?_; (with_reducible refine (laws_toSemigroup.calls k _ _ l0_0 t354 _ ?side1 ?side2 A9.out).mono ?_); (case side1 => exact Kd.C_below HR0_0.out (by repeat (first | (with_reducible first | exact HB.out | apply below_alloc | apply pw_below_drewN | apply below_drew1 | refine below_set ?_ GE344.out | refine below_set ?_ GE353.out) | exact HB.out))); (case side2 => exact HC0_0.out); rintro e w24 ⟨v355, rfl, ho0, hb⟩; refine ⟨_, rfl, ?_⟩; have n0_ := Aside0.mk (Kd.R_elder' (by (with_reducible repeat (first | apply Kd.R_alloc | apply Kd.R_drewN | apply Kd.R_drew)); exact (Kd.R_mono (Kd.R_far (p := ⟨gb353, 0, none⟩) (Kd.R_types HO348.out BK353.out (by decide)) (fun _ hk => hk.2) (.slice Ao20 t349.length co20)) (fun _ h_ => h_.1))) (Kd.R_base ho0) hb); have n1_ := Aside0.mk (Kd.R_elder' (by (with_reducible repeat (first | apply Kd.R_alloc | apply Kd.R_drewN | apply Kd.R_drew)); exact (Kd.R_mono (Kd.R_far (p := ⟨gb353, 0, none⟩) (Kd.R_types HO351.out BK353.out (by decide)) (fun _ hk => hk.2) (.slice Ao20 t349.length co20)) (fun _ h_ => h_.1))) (Kd.R_base ho0) hb); have n2_ := Aside0.mk (Kd.R_lower (Kd.R_new' (Kd.R_new' ho0 (Kd.R_lt (by (with_reducible repeat (first | apply Kd.R_alloc | apply Kd.R_drewN | apply Kd.R_drew)); exact (Kd.R_mono (Kd.R_far (p := ⟨gb353, 0, none⟩) (Kd.R_types HO348.out BK353.out (by decide)) (fun _ hk => hk.2) (.slice Ao20 t349.length co20)) (fun _ h_ => h_.1))))) (Kd.R_lt (by (with_reducible repeat (first | apply Kd.R_alloc | apply Kd.R_drewN | apply Kd.R_drew)); exact (Kd.R_mono (Kd.R_far (p := ⟨gb353, 0, none⟩) (Kd.R_types HO351.out BK353.out (by decide)) (fun _ hk => hk.2) (.slice Ao20 t349.length co20)) (fun _ h_ => h_.1))))) (below_size (by repeat (first | (with_reducible first | exact HB.out | apply below_alloc | apply pw_below_drewN | apply below_drew1 | refine below_set ?_ GE344.out | refine below_set ?_ GE353.out) | exact HB.out)))); have n3_ := Aside0.mk (blk_below (g := gb344) (o := .cells #[.slice A0_0 l0_0.length c0_0] 46 (0, 0)) (by (with_reducible repeat (first | refine blk_drewN ?_ _ | refine blk_drew ?_ | refine blk_alloc ?_ _)); refine blk_far ?_ NB344_353.out _; (with_reducible repeat (first | refine blk_drewN ?_ _ | refine blk_drew ?_ | refine blk_alloc ?_ _)); exact BK344.out) hb); have n4_ := Aside0.mk (blk_below (g := gb353) (o := .cells #[.slice Ao20 t349.length co20] 41 (0, 0)) (by (with_reducible repeat (first | refine blk_drewN ?_ _ | refine blk_drew ?_ | refine blk_alloc ?_ _)); refine blk_put (cs := #[.slice none 0 0]) ?_ 0 _ rfl; (with_reducible repeat (first | refine blk_drewN ?_ _ | refine blk_drew ?_ | refine blk_alloc ?_ _)); exact BK353.out) hb); have n5_ := Aside0.mk (below_step (by repeat (first | (with_reducible first | exact HB.out | apply below_alloc | apply pw_below_drewN | apply below_drew1 | refine below_set ?_ GE344.out | refine below_set ?_ GE353.out) | exact HB.out)) hb); clear HO348; clear HO351; clear BK344; clear BK353; clear HB; have HO348 := n0_; have HO351 := n1_; have HO356 := n2_; have BK344 := n3_; have BK353 := n4_; have HB := n5_; clear n0_ n1_ n2_ n3_ n4_ n5_; (try clear hb); (try clear hb2); (try clear hk); (try clear hi); (try clear ho0)) | ((with_reducible refine gate_dst (N := 6) rfl ?_); refine box_event ?hg (N := 6) ?hd (cs := #[.slice none 0 0]) (t := 41) ?hr ?_; (case hd => rfl); (case hg => rfl); (case hr => first | (go_simp; done) | (go_simp; rfl)); intro gb357 hg w25 hbox hb; have n0_ := Aside0.mk (Kd.R_below (by (with_reducible repeat (first | apply Kd.R_alloc | apply Kd.R_drewN | apply Kd.R_drew)); exact HO348.out) hb); have n1_ := Aside0.mk (Kd.R_below (by (with_reducible repeat (first | apply Kd.R_alloc | apply Kd.R_drewN | apply Kd.R_drew)); exact HO351.out) hb); have n2_ := Aside0.mk (Kd.R_below (by (with_reducible repeat (first | apply Kd.R_alloc | apply Kd.R_drewN | apply Kd.R_drew)); exact HO356.out) hb); have n3_ := Aside0.mk (blk_below (g := gb344) (o := .cells #[.slice A0_0 l0_0.length c0_0] 46 (0, 0)) (by (with_reducible repeat (first | refine blk_drewN ?_ _ | refine blk_drew ?_ | refine blk_alloc ?_ _)); exact BK344.out) hb); have n4_ := Aside0.mk (blk_below (g := gb353) (o := .cells #[.slice Ao20 t349.length co20] 41 (0, 0)) (by (with_reducible repeat (first | refine blk_drewN ?_ _ | refine blk_drew ?_ | refine blk_alloc ?_ _)); exact BK353.out) hb); have n5_ := Aside0.mk (below_step (by repeat (first | (with_reducible first | exact HB.out | apply below_alloc | apply pw_below_drewN | apply below_drew1 | refine below_set ?_ GE344.out | refine below_set ?_ GE353.out) | exact HB.out)) hb); have n6_ := Aside0.mk (hbox); have n7_ := Aside0.mk ((by rw [hg]; exact (below_size (by repeat (first | (with_reducible first | exact HB.out | apply below_alloc | apply pw_below_drewN | apply below_drew1 | refine below_set ?_ GE344.out | refine below_set ?_ GE353.out) | exact HB.out))) : w.heap.size ≤ gb357)); have n8_ := Aside0.mk ((by rw [hg]; exact (below_size (by repeat (first | (with_reducible first | exact HB.out | apply below_alloc | apply pw_below_drewN | apply below_drew1 | refine below_set ?_ GE344.out | refine below_set ?_ GE353.out) | exact HB.out))) : w.heap.size ≤ gb357)); have n9_ := Aside0.mk ((by rw [hg]; exact Nat.ne_of_lt (blk_lt (g := gb344) (o := .cells #[.slice A0_0 l0_0.length c0_0] 46 (0, 0)) (by (with_reducible repeat (first | refine blk_drewN ?_ _ | refine blk_drew ?_ | refine blk_alloc ?_ _)); exact BK344.out)) : gb344 ≠ gb357)); have n10_ := Aside0.mk ((by rw [hg]; exact Nat.ne_of_gt (blk_lt (g := gb344) (o := .cells #[.slice A0_0 l0_0.length c0_0] 46 (0, 0)) (by (with_reducible repeat (first | refine blk_drewN ?_ _ | refine blk_drew ?_ | refine blk_alloc ?_ _)); exact BK344.out)) : gb357 ≠ gb344)); have n11_ := Aside0.mk ((by rw [hg]; exact Nat.ne_of_lt (blk_lt (g := gb353) (o := .cells #[.slice Ao20 t349.length co20] 41 (0, 0)) (by (with_reducible repeat (first | refine blk_drewN ?_ _ | refine blk_drew ?_ | refine blk_alloc ?_ _)); exact BK353.out)) : gb353 ≠ gb357)); have n12_ := Aside0.mk ((by rw [hg]; exact Nat.ne_of_gt (blk_lt (g := gb353) (o := .cells #[.slice Ao20 t349.length co20] 41 (0, 0)) (by (with_reducible repeat (first | refine blk_drewN ?_ _ | refine blk_drew ?_ | refine blk_alloc ?_ _)); exact BK353.out)) : gb357 ≠ gb353)); clear HO348; clear HO351; clear HO356; clear BK344; clear BK353; clear HB; have HO348 := n0_; have HO351 := n1_; have HO356 := n2_; have BK344 := n3_; have BK353 := n4_; have HB := n5_; have BK357 := n6_; have GW357 := n7_; have GE357 := n8_; have NB344_357 := n9_; have NB357_344 := n10_; have NB353_357 := n11_; have NB357_353 := n12_; clear n0_ n1_ n2_ n3_ n4_ n5_ n6_ n7_ n8_ n9_ n10_ n11_ n12_; clear hb hbox hg; obtain ⟨Ao26, co26, eo26⟩ := Kd.R_slice HO356.out; subst eo26; have hnb27 := NB357_344.out; have hnc27 := NB344_357.out; have hnb28 := NB357_353.out; have hnc28 := NB353_357.out; have hcz29_0 : w25.cell? ⟨gb357, 0, none⟩ = some (.slice none 0 0) := (blk_cell BK357.out 0).trans rfl; have hfz29_0 := blk_frozen BK357.out 0) | ((with_reducible refine gate_callee (f := 49) rfl ?_); refine goesL_ (some 29) rfl rfl Try.func49 (by kernel_rfl) rfl #[.agg #[.slice Ao26 t354.length co26]] rfl (by (try simp only [List.map_toArray, List.map_cons, List.map_nil]); first | done | rfl | (simp only [List.length_drop, List.length_take]; rfl)) ?_; (with_reducible refine (impl_BlowUp.calls k _ _ t354 t358 t361 _ ?side1 ?side2 A10.out).mono ?_); (case side1 => refine (Kd.R_reads' (e := 3) (base := w.heap.size) (ok := fun k_ => ((True ∧ some k_ ≠ (.slice Ao17 t346.length co17 : Value).ownBlock) ∧ some k_ ≠ (.slice Ao20 t349.length co20 : Value).ownBlock)) (n := t354.length) (c := co26) ?_).2.2; exact (by (with_reducible repeat (first | apply Kd.R_alloc | apply Kd.R_drewN | apply Kd.R_drew)); exact (Kd.R_mono (Kd.R_far (p := ⟨gb357, 0, none⟩) (Kd.R_types HO356.out BK357.out (by decide)) (fun _ hk => hk.2) (.slice Ao26 t354.length co26)) (fun _ h_ => h_.1)))); (case side2 => exact (Kd.R_reads' HO356.out).2.1); rintro e w30 ⟨v359, rfl, ho0, hb⟩; refine ⟨_, rfl, ?_⟩; have n0_ := Aside0.mk (Kd.R_elder' (by (with_reducible repeat (first | apply Kd.R_alloc | apply Kd.R_drewN | apply Kd.R_drew)); exact (Kd.R_mono (Kd.R_far (p := ⟨gb357, 0, none⟩) (Kd.R_types HO348.out BK357.out (by decide)) (fun _ hk => hk.2) (.slice Ao26 t354.length co26)) (fun _ h_ => h_.1))) (Kd.R_base ho0) hb); have n1_ := Aside0.mk (Kd.R_elder' (by (with_reducible repeat (first | apply Kd.R_alloc | apply Kd.R_drewN | apply Kd.R_drew)); exact (Kd.R_mono (Kd.R_far (p := ⟨gb357, 0, none⟩) (Kd.R_types HO351.out BK357.out (by decide)) (fun _ hk => hk.2) (.slice Ao26 t354.length co26)) (fun _ h_ => h_.1))) (Kd.R_base ho0) hb); have n2_ := Aside0.mk (Kd.R_elder' (by (with_reducible repeat (first | apply Kd.R_alloc | apply Kd.R_drewN | apply Kd.R_drew)); exact (Kd.R_mono (Kd.R_far (p := ⟨gb357, 0, none⟩) (Kd.R_types HO356.out BK357.out (by decide)) (fun _ hk => hk.2) (.slice Ao26 t354.length co26)) (fun _ h_ => h_.1))) (Kd.R_base ho0) hb); have n3_ := Aside0.mk (Kd.R_lower (Kd.R_new' (Kd.R_new' (Kd.R_new' ho0 (Kd.R_lt (by (with_reducible repeat (first | apply Kd.R_alloc | apply Kd.R_drewN | apply Kd.R_drew)); exact (Kd.R_mono (Kd.R_far (p := ⟨gb357, 0, none⟩) (Kd.R_types HO348.out BK357.out (by decide)) (fun _ hk => hk.2) (.slice Ao26 t354.length co26)) (fun _ h_ => h_.1))))) (Kd.R_lt (by (with_reducible repeat (first | apply Kd.R_alloc | apply Kd.R_drewN | apply Kd.R_drew)); exact (Kd.R_mono (Kd.R_far (p := ⟨gb357, 0, none⟩) (Kd.R_types HO351.out BK357.out (by decide)) (fun _ hk => hk.2) (.slice Ao26 t354.length co26)) (fun _ h_ => h_.1))))) (Kd.R_lt (by (with_reducible repeat (first | apply Kd.R_alloc | apply Kd.R_drewN | apply Kd.R_drew)); exact (Kd.R_mono (Kd.R_far (p := ⟨gb357, 0, none⟩) (Kd.R_types HO356.out BK357.out (by decide)) (fun _ hk => hk.2) (.slice Ao26 t354.length co26)) (fun _ h_ => h_.1))))) (below_size (by repeat (first | (with_reducible first | exact HB.out | apply below_alloc | apply pw_below_drewN | apply below_drew1 | refine below_set ?_ GE344.out | refine below_set ?_ GE353.out | refine below_set ?_ GE357.out) | exact HB.out)))); have n4_ := Aside0.mk (blk_below (g := gb344) (o := .cells #[.slice A0_0 l0_0.length c0_0] 46 (0, 0)) (by (with_reducible repeat (first | refine blk_drewN ?_ _ | refine blk_drew ?_ | refine blk_alloc ?_ _)); refine blk_far ?_ NB344_357.out _; (with_reducible repeat (first | refine blk_drewN ?_ _ | refine blk_drew ?_ | refine blk_alloc ?_ _)); exact BK344.out) hb); have n5_ := Aside0.mk (blk_below (g := gb353) (o := .cells #[.slice Ao20 t349.length co20] 41 (0, 0)) (by (with_reducible repeat (first | refine blk_drewN ?_ _ | refine blk_drew ?_ | refine blk_alloc ?_ _)); refine blk_far ?_ NB353_357.out _; (with_reducible repeat (first | refine blk_drewN ?_ _ | refine blk_drew ?_ | refine blk_alloc ?_ _)); exact BK353.out) hb); have n6_ := Aside0.mk (blk_below (g := gb357) (o := .cells #[.slice Ao26 t354.length co26] 41 (0, 0)) (by (with_reducible repeat (first | refine blk_drewN ?_ _ | refine blk_drew ?_ | refine blk_alloc ?_ _)); refine blk_put (cs := #[.slice none 0 0]) ?_ 0 _ rfl; (with_reducible repeat (first | refine blk_drewN ?_ _ | refine blk_drew ?_ | refine blk_alloc ?_ _)); exact BK357.out) hb); have n7_ := Aside0.mk (below_step (by repeat (first | (with_reducible first | exact HB.out | apply below_alloc | apply pw_below_drewN | apply below_drew1 | refine below_set ?_ GE344.out | refine below_set ?_ GE353.out | refine below_set ?_ GE357.out) | exact HB.out)) hb); clear HO348; clear HO351; clear HO356; clear BK344; clear BK353; clear BK357; clear HB; have HO348 := n0_; have HO351 := n1_; have HO356 := n2_; have HO360 := n3_; have BK344 := n4_; have BK353 := n5_; have BK357 := n6_; have HB := n7_; clear n0_ n1_ n2_ n3_ n4_ n5_ n6_ n7_; (try clear hb); (try clear hb2); (try clear hk); (try clear hi); (try clear ho0)) | ((with_reducible refine gate_dst (N := 7) rfl ?_); refine box_event ?hg (N := 7) ?hd (cs := #[.slice none 0 0]) (t := 41) ?hr ?_; (case hd => rfl); (case hg => rfl); (case hr => first | (go_simp; done) | (go_simp; rfl)); intro gb362 hg w31 hbox hb; have n0_ := Aside0.mk (Kd.R_below (by (with_reducible repeat (first | apply Kd.R_alloc | apply Kd.R_drewN | apply Kd.R_drew)); exact HO348.out) hb); have n1_ := Aside0.mk (Kd.R_below (by (with_reducible repeat (first | apply Kd.R_alloc | apply Kd.R_drewN | apply Kd.R_drew)); exact HO351.out) hb); have n2_ := Aside0.mk (Kd.R_below (by (with_reducible repeat (first | apply Kd.R_alloc | apply Kd.R_drewN | apply Kd.R_drew)); exact HO356.out) hb); have n3_ := Aside0.mk (Kd.R_below (by (with_reducible repeat (first | apply Kd.R_alloc | apply Kd.R_drewN | apply Kd.R_drew)); exact HO360.out) hb); have n4_ := Aside0.mk (blk_below (g := gb344) (o := .cells #[.slice A0_0 l0_0.length c0_0] 46 (0, 0)) (by (with_reducible repeat (first | refine blk_drewN ?_ _ | refine blk_drew ?_ | refine blk_alloc ?_ _)); exact BK344.out) hb); have n5_ := Aside0.mk (blk_below (g := gb353) (o := .cells #[.slice Ao20 t349.length co20] 41 (0, 0)) (by (with_reducible repeat (first | refine blk_drewN ?_ _ | refine blk_drew ?_ | refine blk_alloc ?_ _)); exact BK353.out) hb); have n6_ := Aside0.mk (blk_below (g := gb357) (o := .cells #[.slice Ao26 t354.length co26] 41 (0, 0)) (by (with_reducible repeat (first | refine blk_drewN ?_ _ | refine blk_drew ?_ | refine blk_alloc ?_ _)); exact BK357.out) hb); have n7_ := Aside0.mk (below_step (by repeat (first | (with_reducible first | exact HB.out | apply below_alloc | apply pw_below_drewN | apply below_drew1 | refine below_set ?_ GE344.out | refine below_set ?_ GE353.out | refine below_set ?_ GE357.out) | exact HB.out)) hb); have n8_ := Aside0.mk (hbox); have n9_ := Aside0.mk ((by rw [hg]; exact (below_size (by repeat (first | (with_reducible first | exact HB.out | apply below_alloc | apply pw_below_drewN | apply below_drew1 | refine below_set ?_ GE344.out | refine below_set ?_ GE353.out | refine below_set ?_ GE357.out) | exact HB.out))) : w.heap.size ≤ gb362)); have n10_ := Aside0.mk ((by rw [hg]; exact (below_size (by repeat (first | (with_reducible first | exact HB.out | apply below_alloc | apply pw_below_drewN | apply below_drew1 | refine below_set ?_ GE344.out | refine below_set ?_ GE353.out | refine below_set ?_ GE357.out) | exact HB.out))) : w.heap.size ≤ gb362)); have n11_ := Aside0.mk ((by rw [hg]; exact Nat.ne_of_lt (blk_lt (g := gb344) (o := .cells #[.slice A0_0 l0_0.length c0_0] 46 (0, 0)) (by (with_reducible repeat (first | refine blk_drewN ?_ _ | refine blk_drew ?_ | refine blk_alloc ?_ _)); exact BK344.out)) : gb344 ≠ gb362)); have n12_ := Aside0.mk ((by rw [hg]; exact Nat.ne_of_gt (blk_lt (g := gb344) (o := .cells #[.slice A0_0 l0_0.length c0_0] 46 (0, 0)) (by (with_reducible repeat (first | refine blk_drewN ?_ _ | refine blk_drew ?_ | refine blk_alloc ?_ _)); exact BK344.out)) : gb362 ≠ gb344)); have n13_ := Aside0.mk ((by rw [hg]; exact Nat.ne_of_lt (blk_lt (g := gb353) (o := .cells #[.slice Ao20 t349.length co20] 41 (0, 0)) (by (with_reducible repeat (first | refine blk_drewN ?_ _ | refine blk_drew ?_ | refine blk_alloc ?_ _)); exact BK353.out)) : gb353 ≠ gb362)); have n14_ := Aside0.mk ((by rw [hg]; exact Nat.ne_of_gt (blk_lt (g := gb353) (o := .cells #[.slice Ao20 t349.length co20] 41 (0, 0)) (by (with_reducible repeat (first | refine blk_drewN ?_ _ | refine blk_drew ?_ | refine blk_alloc ?_ _)); exact BK353.out)) : gb362 ≠ gb353)); have n15_ := Aside0.mk ((by rw [hg]; exact Nat.ne_of_lt (blk_lt (g := gb357) (o := .cells #[.slice Ao26 t354.length co26] 41 (0, 0)) (by (with_reducible repeat (first | refine blk_drewN ?_ _ | refine blk_drew ?_ | refine blk_alloc ?_ _)); exact BK357.out)) : gb357 ≠ gb362)); have n16_ := Aside0.mk ((by rw [hg]; exact Nat.ne_of_gt (blk_lt (g := gb357) (o := .cells #[.slice Ao26 t354.length co26] 41 (0, 0)) (by (with_reducible repeat (first | refine blk_drewN ?_ _ | refine blk_drew ?_ | refine blk_alloc ?_ _)); exact BK357.out)) : gb362 ≠ gb357)); clear HO348; clear HO351; clear HO356; clear HO360; clear BK344; clear BK353; clear BK357; clear HB; have HO348 := n0_; have HO351 := n1_; have HO356 := n2_; have HO360 := n3_; have BK344 := n4_; have BK353 := n5_; have BK357 := n6_; have HB := n7_; have BK362 := n8_; have GW362 := n9_; have GE362 := n10_; have NB344_362 := n11_; have NB362_344 := n12_; have NB353_362 := n13_; have NB362_353 := n14_; have NB357_362 := n15_; have NB362_357 := n16_; clear n0_ n1_ n2_ n3_ n4_ n5_ n6_ n7_ n8_ n9_ n10_ n11_ n12_ n13_ n14_ n15_ n16_; clear hb hbox hg; obtain ⟨Ao32, co32, eo32⟩ := Kd.R_slice HO360.out; subst eo32; have hnb33 := NB362_344.out; have hnc33 := NB344_362.out; have hnb34 := NB362_353.out; have hnc34 := NB353_362.out; have hnb35 := NB362_357.out; have hnc35 := NB357_362.out; have hcz36_0 : w31.cell? ⟨gb362, 0, none⟩ = some (.slice none 0 0) := (blk_cell BK362.out 0).trans rfl; have hfz36_0 := blk_frozen BK362.out 0))
  (try simp only [Act.put, List.setIfInBounds_toArray, List.set_cons_zero, List.set_cons_succ])
  go_cut [40] (fun v40 wc => ∃ (kq : Nat) (x40_10 : Bool), v40 = .bool x40_10 ∧ Aside0 (laws_FnExactBlowUp.j0 kq t352 t361 x40_10 l0_0 t349 t354 t358 = some r) ∧ Aside0 (kq ≤ k) ∧ Aside0 (Kd.R (Kd.int .i64) 3 wc w.heap.size (fun k_ => some k_ ≠ ((.slice Ao26 t354.length co26) : Value).ownBlock ∧ some k_ ≠ ((.slice Ao32 t358.length co32) : Value).ownBlock) (.slice Ao20 t349.length co20) t349) ∧ Aside0 (Kd.R (Kd.int .i64) 3 wc w.heap.size (fun k_ => some k_ ≠ ((.slice Ao20 t349.length co20) : Value).ownBlock ∧ some k_ ≠ ((.slice Ao32 t358.length co32) : Value).ownBlock) (.slice Ao26 t354.length co26) t354) ∧ Aside0 (Kd.R (Kd.int .i64) 3 wc w.heap.size (fun k_ => some k_ ≠ ((.slice Ao20 t349.length co20) : Value).ownBlock ∧ some k_ ≠ ((.slice Ao26 t354.length co26) : Value).ownBlock) (.slice Ao32 t358.length co32) t358) ∧ Aside0 (wc.heap[gb344]? = some (.cells #[(.slice A0_0 l0_0.length c0_0)] 46 (0, 0))) ∧ Aside0 (wc.heap[gb353]? = some (.cells #[(.slice Ao20 t349.length co20)] 41 (0, 0))) ∧ Aside0 (wc.heap[gb357]? = some (.cells #[(.slice Ao26 t354.length co26)] 41 (0, 0))) ∧ Aside0 (wc.heap[gb362]? = some (.cells #[(.slice Ao32 t358.length co32)] 41 (0, 0))) ∧ Aside0 (Below w.heap.size w wc))
  case first =>
   have H := HC11.out
   clear HC11
   replace H := Option.bind_eq_some_iff.mp H
   obtain ⟨t363, A370, H⟩ := H
   replace H : (if t363 = true then (laws_FnExactBlowUp.j0 k t352 t361 (t361 != t352) l0_0 t349 t354 t358) else (laws_FnExactBlowUp.j0 k t352 t361 true l0_0 t349 t354 t358)) = some r := H
   have A37 := Aside0.mk A370
   clear A370
   by_cases c38 : t363 = true
   ·subst c38
    have H1 : (laws_FnExactBlowUp.j0 k t352 t361 (t361 != t352) l0_0 t349 t354 t358) = some r := by rw [if_pos rfl] at H; exact H
    clear H
    have H := H1
    clear H1
    have H' := Aside0.mk H
    clear H
    have hnb39 := NB362_344.out
    have hnc39 := NB344_362.out
    have hnb40 := NB362_353.out
    have hnc40 := NB353_362.out
    have hnb41 := NB362_357.out
    have hnc41 := NB357_362.out
    have hcz42_0 : w31.cell? ⟨gb362, 0, none⟩ = some (.slice none 0 0) := (blk_cell BK362.out 0).trans rfl
    have hfz42_0 := blk_frozen BK362.out 0
    have hnb43 := NB353_344.out
    have hnc43 := NB344_353.out
    have hnb44 := NB353_357.out
    have hnc44 := NB357_353.out
    have hcz45_0 : w31.cell? ⟨gb353, 0, none⟩ = some (.slice Ao20 t349.length co20) := (blk_cell BK353.out 0).trans rfl
    have hfz45_0 := blk_frozen BK353.out 0
    go_wp2_with (first | ((with_reducible refine gate_callee (f := 50) rfl ?_); refine goesL_ (some 34) rfl rfl Try.func50 (by kernel_rfl) rfl #[.agg #[.slice Ao32 t358.length co32], .agg #[.slice Ao20 t349.length co20]] rfl (by (try simp only [List.map_toArray, List.map_cons, List.map_nil]); first | done | rfl | (simp only [List.length_drop, List.length_take]; rfl)) ?_; (with_reducible refine (laws_eqSemigroup.calls k _ _ t358 _ _ t349 true _ ?side1 ?side2 ?side3 ?side4 A37.out).mono ?_); (case side1 => refine (Kd.R_reads' (e := 3) (base := w.heap.size) (ok := fun k_ => (((True ∧ some k_ ≠ (.slice Ao17 t346.length co17 : Value).ownBlock) ∧ some k_ ≠ (.slice Ao20 t349.length co20 : Value).ownBlock) ∧ some k_ ≠ (.slice Ao26 t354.length co26 : Value).ownBlock)) (n := t358.length) (c := co32) ?_).2.2; exact (by (with_reducible repeat (first | apply Kd.R_alloc | apply Kd.R_drewN | apply Kd.R_drew)); exact (Kd.R_mono (Kd.R_far (p := ⟨gb362, 0, none⟩) (Kd.R_types HO360.out BK362.out (by decide)) (fun _ hk => hk.2) (.slice Ao32 t358.length co32)) (fun _ h_ => h_.1)))); (case side2 => exact (Kd.R_reads' HO360.out).2.1); (case side3 => refine (Kd.R_reads' (e := 3) (base := w.heap.size) (ok := fun k_ => (((True ∧ some k_ ≠ (.slice Ao17 t346.length co17 : Value).ownBlock) ∧ some k_ ≠ (.slice Ao26 t354.length co26 : Value).ownBlock) ∧ some k_ ≠ (.slice Ao32 t358.length co32 : Value).ownBlock)) (n := t349.length) (c := co20) ?_).2.2; exact (by (with_reducible repeat (first | apply Kd.R_alloc | apply Kd.R_drewN | apply Kd.R_drew)); exact (Kd.R_mono (Kd.R_far (p := ⟨gb362, 0, none⟩) (Kd.R_types HO351.out BK362.out (by decide)) (fun _ hk => hk.2) (.slice Ao32 t358.length co32)) (fun _ h_ => h_.1)))); (case side4 => exact (Kd.R_reads' HO351.out).2.1); rintro e w46 ⟨rfl, hb⟩; refine ⟨_, rfl, ?_⟩; have n0_ := Aside0.mk (Kd.R_below (by (with_reducible repeat (first | apply Kd.R_alloc | apply Kd.R_drewN | apply Kd.R_drew)); exact (Kd.R_mono (Kd.R_far (p := ⟨gb362, 0, none⟩) (Kd.R_types HO348.out BK362.out (by decide)) (fun _ hk => hk.2) (.slice Ao32 t358.length co32)) (fun _ h_ => h_.1))) hb); have n1_ := Aside0.mk (Kd.R_below (by (with_reducible repeat (first | apply Kd.R_alloc | apply Kd.R_drewN | apply Kd.R_drew)); exact (Kd.R_mono (Kd.R_far (p := ⟨gb362, 0, none⟩) (Kd.R_types HO351.out BK362.out (by decide)) (fun _ hk => hk.2) (.slice Ao32 t358.length co32)) (fun _ h_ => h_.1))) hb); have n2_ := Aside0.mk (Kd.R_below (by (with_reducible repeat (first | apply Kd.R_alloc | apply Kd.R_drewN | apply Kd.R_drew)); exact (Kd.R_mono (Kd.R_far (p := ⟨gb362, 0, none⟩) (Kd.R_types HO356.out BK362.out (by decide)) (fun _ hk => hk.2) (.slice Ao32 t358.length co32)) (fun _ h_ => h_.1))) hb); have n3_ := Aside0.mk (Kd.R_below (by (with_reducible repeat (first | apply Kd.R_alloc | apply Kd.R_drewN | apply Kd.R_drew)); exact (Kd.R_mono (Kd.R_far (p := ⟨gb362, 0, none⟩) (Kd.R_types HO360.out BK362.out (by decide)) (fun _ hk => hk.2) (.slice Ao32 t358.length co32)) (fun _ h_ => h_.1))) hb); have n4_ := Aside0.mk (blk_below (g := gb344) (o := .cells #[.slice A0_0 l0_0.length c0_0] 46 (0, 0)) (by (with_reducible repeat (first | refine blk_drewN ?_ _ | refine blk_drew ?_ | refine blk_alloc ?_ _)); refine blk_far ?_ NB344_362.out _; (with_reducible repeat (first | refine blk_drewN ?_ _ | refine blk_drew ?_ | refine blk_alloc ?_ _)); exact BK344.out) hb); have n5_ := Aside0.mk (blk_below (g := gb353) (o := .cells #[.slice Ao20 t349.length co20] 41 (0, 0)) (by (with_reducible repeat (first | refine blk_drewN ?_ _ | refine blk_drew ?_ | refine blk_alloc ?_ _)); refine blk_far ?_ NB353_362.out _; (with_reducible repeat (first | refine blk_drewN ?_ _ | refine blk_drew ?_ | refine blk_alloc ?_ _)); exact BK353.out) hb); have n6_ := Aside0.mk (blk_below (g := gb357) (o := .cells #[.slice Ao26 t354.length co26] 41 (0, 0)) (by (with_reducible repeat (first | refine blk_drewN ?_ _ | refine blk_drew ?_ | refine blk_alloc ?_ _)); refine blk_far ?_ NB357_362.out _; (with_reducible repeat (first | refine blk_drewN ?_ _ | refine blk_drew ?_ | refine blk_alloc ?_ _)); exact BK357.out) hb); have n7_ := Aside0.mk (blk_below (g := gb362) (o := .cells #[.slice Ao32 t358.length co32] 41 (0, 0)) (by (with_reducible repeat (first | refine blk_drewN ?_ _ | refine blk_drew ?_ | refine blk_alloc ?_ _)); refine blk_put (cs := #[.slice none 0 0]) ?_ 0 _ rfl; (with_reducible repeat (first | refine blk_drewN ?_ _ | refine blk_drew ?_ | refine blk_alloc ?_ _)); exact BK362.out) hb); have n8_ := Aside0.mk (below_step (by repeat (first | (with_reducible first | exact HB.out | apply below_alloc | apply pw_below_drewN | apply below_drew1 | refine below_set ?_ GE344.out | refine below_set ?_ GE353.out | refine below_set ?_ GE357.out | refine below_set ?_ GE362.out) | exact HB.out)) hb); clear HO348; clear HO351; clear HO356; clear HO360; clear BK344; clear BK353; clear BK357; clear BK362; clear HB; have HO348 := n0_; have HO351 := n1_; have HO356 := n2_; have HO360 := n3_; have BK344 := n4_; have BK353 := n5_; have BK357 := n6_; have BK362 := n7_; have HB := n8_; clear n0_ n1_ n2_ n3_ n4_ n5_ n6_ n7_ n8_; (try clear hb); (try clear hb2); (try clear hk); (try clear hi)))
    go_meet
    case rel => exact ⟨_, ((t361 != t352)), (by first | rfl | (simp; done) | (simp [*]; done)), H', ⟨by first | omega | exact Nat.le_refl _⟩, ⟨by (with_reducible repeat (first | apply Kd.R_alloc | apply Kd.R_drewN | apply Kd.R_drew)); exact Kd.R_mono HO351.out (fun _ hk => ⟨hk.1.2, hk.2⟩)⟩, ⟨by (with_reducible repeat (first | apply Kd.R_alloc | apply Kd.R_drewN | apply Kd.R_drew)); exact Kd.R_mono HO356.out (fun _ hk => ⟨hk.1.2, hk.2⟩)⟩, ⟨by (with_reducible repeat (first | apply Kd.R_alloc | apply Kd.R_drewN | apply Kd.R_drew)); exact Kd.R_mono HO360.out (fun _ hk => ⟨hk.1.2, hk.2⟩)⟩, ⟨by (with_reducible repeat (first | refine blk_drewN ?_ _ | refine blk_drew ?_ | refine blk_alloc ?_ _)); exact BK344.out⟩, ⟨by (with_reducible repeat (first | refine blk_drewN ?_ _ | refine blk_drew ?_ | refine blk_alloc ?_ _)); exact BK353.out⟩, ⟨by (with_reducible repeat (first | refine blk_drewN ?_ _ | refine blk_drew ?_ | refine blk_alloc ?_ _)); exact BK357.out⟩, ⟨by (with_reducible repeat (first | refine blk_drewN ?_ _ | refine blk_drew ?_ | refine blk_alloc ?_ _)); exact BK362.out⟩, ⟨by repeat (first | (with_reducible first | exact HB.out | apply below_alloc | apply pw_below_drewN | apply below_drew1 | refine below_set ?_ GE344.out | refine below_set ?_ GE353.out | refine below_set ?_ GE357.out | refine below_set ?_ GE362.out) | exact HB.out)⟩⟩
   ·replace c38 := Bool.eq_false_iff.mpr c38
    subst c38
    have H1 : (laws_FnExactBlowUp.j0 k t352 t361 true l0_0 t349 t354 t358) = some r := by rw [if_neg (show ¬ (false = true) by decide)] at H; exact H
    clear H
    have H := H1
    clear H1
    have H' := Aside0.mk H
    clear H
    have hnb47 := NB362_344.out
    have hnc47 := NB344_362.out
    have hnb48 := NB362_353.out
    have hnc48 := NB353_362.out
    have hnb49 := NB362_357.out
    have hnc49 := NB357_362.out
    have hcz50_0 : w31.cell? ⟨gb362, 0, none⟩ = some (.slice none 0 0) := (blk_cell BK362.out 0).trans rfl
    have hfz50_0 := blk_frozen BK362.out 0
    have hnb51 := NB353_344.out
    have hnc51 := NB344_353.out
    have hnb52 := NB353_357.out
    have hnc52 := NB357_353.out
    have hcz53_0 : w31.cell? ⟨gb353, 0, none⟩ = some (.slice Ao20 t349.length co20) := (blk_cell BK353.out 0).trans rfl
    have hfz53_0 := blk_frozen BK353.out 0
    go_wp2_with (first | ((with_reducible refine gate_callee (f := 50) rfl ?_); refine goesL_ (some 34) rfl rfl Try.func50 (by kernel_rfl) rfl #[.agg #[.slice Ao32 t358.length co32], .agg #[.slice Ao20 t349.length co20]] rfl (by (try simp only [List.map_toArray, List.map_cons, List.map_nil]); first | done | rfl | (simp only [List.length_drop, List.length_take]; rfl)) ?_; (with_reducible refine (laws_eqSemigroup.calls k _ _ t358 _ _ t349 false _ ?side1 ?side2 ?side3 ?side4 A37.out).mono ?_); (case side1 => refine (Kd.R_reads' (e := 3) (base := w.heap.size) (ok := fun k_ => (((True ∧ some k_ ≠ (.slice Ao17 t346.length co17 : Value).ownBlock) ∧ some k_ ≠ (.slice Ao20 t349.length co20 : Value).ownBlock) ∧ some k_ ≠ (.slice Ao26 t354.length co26 : Value).ownBlock)) (n := t358.length) (c := co32) ?_).2.2; exact (by (with_reducible repeat (first | apply Kd.R_alloc | apply Kd.R_drewN | apply Kd.R_drew)); exact (Kd.R_mono (Kd.R_far (p := ⟨gb362, 0, none⟩) (Kd.R_types HO360.out BK362.out (by decide)) (fun _ hk => hk.2) (.slice Ao32 t358.length co32)) (fun _ h_ => h_.1)))); (case side2 => exact (Kd.R_reads' HO360.out).2.1); (case side3 => refine (Kd.R_reads' (e := 3) (base := w.heap.size) (ok := fun k_ => (((True ∧ some k_ ≠ (.slice Ao17 t346.length co17 : Value).ownBlock) ∧ some k_ ≠ (.slice Ao26 t354.length co26 : Value).ownBlock) ∧ some k_ ≠ (.slice Ao32 t358.length co32 : Value).ownBlock)) (n := t349.length) (c := co20) ?_).2.2; exact (by (with_reducible repeat (first | apply Kd.R_alloc | apply Kd.R_drewN | apply Kd.R_drew)); exact (Kd.R_mono (Kd.R_far (p := ⟨gb362, 0, none⟩) (Kd.R_types HO351.out BK362.out (by decide)) (fun _ hk => hk.2) (.slice Ao32 t358.length co32)) (fun _ h_ => h_.1)))); (case side4 => exact (Kd.R_reads' HO351.out).2.1); rintro e w54 ⟨rfl, hb⟩; refine ⟨_, rfl, ?_⟩; have n0_ := Aside0.mk (Kd.R_below (by (with_reducible repeat (first | apply Kd.R_alloc | apply Kd.R_drewN | apply Kd.R_drew)); exact (Kd.R_mono (Kd.R_far (p := ⟨gb362, 0, none⟩) (Kd.R_types HO348.out BK362.out (by decide)) (fun _ hk => hk.2) (.slice Ao32 t358.length co32)) (fun _ h_ => h_.1))) hb); have n1_ := Aside0.mk (Kd.R_below (by (with_reducible repeat (first | apply Kd.R_alloc | apply Kd.R_drewN | apply Kd.R_drew)); exact (Kd.R_mono (Kd.R_far (p := ⟨gb362, 0, none⟩) (Kd.R_types HO351.out BK362.out (by decide)) (fun _ hk => hk.2) (.slice Ao32 t358.length co32)) (fun _ h_ => h_.1))) hb); have n2_ := Aside0.mk (Kd.R_below (by (with_reducible repeat (first | apply Kd.R_alloc | apply Kd.R_drewN | apply Kd.R_drew)); exact (Kd.R_mono (Kd.R_far (p := ⟨gb362, 0, none⟩) (Kd.R_types HO356.out BK362.out (by decide)) (fun _ hk => hk.2) (.slice Ao32 t358.length co32)) (fun _ h_ => h_.1))) hb); have n3_ := Aside0.mk (Kd.R_below (by (with_reducible repeat (first | apply Kd.R_alloc | apply Kd.R_drewN | apply Kd.R_drew)); exact (Kd.R_mono (Kd.R_far (p := ⟨gb362, 0, none⟩) (Kd.R_types HO360.out BK362.out (by decide)) (fun _ hk => hk.2) (.slice Ao32 t358.length co32)) (fun _ h_ => h_.1))) hb); have n4_ := Aside0.mk (blk_below (g := gb344) (o := .cells #[.slice A0_0 l0_0.length c0_0] 46 (0, 0)) (by (with_reducible repeat (first | refine blk_drewN ?_ _ | refine blk_drew ?_ | refine blk_alloc ?_ _)); refine blk_far ?_ NB344_362.out _; (with_reducible repeat (first | refine blk_drewN ?_ _ | refine blk_drew ?_ | refine blk_alloc ?_ _)); exact BK344.out) hb); have n5_ := Aside0.mk (blk_below (g := gb353) (o := .cells #[.slice Ao20 t349.length co20] 41 (0, 0)) (by (with_reducible repeat (first | refine blk_drewN ?_ _ | refine blk_drew ?_ | refine blk_alloc ?_ _)); refine blk_far ?_ NB353_362.out _; (with_reducible repeat (first | refine blk_drewN ?_ _ | refine blk_drew ?_ | refine blk_alloc ?_ _)); exact BK353.out) hb); have n6_ := Aside0.mk (blk_below (g := gb357) (o := .cells #[.slice Ao26 t354.length co26] 41 (0, 0)) (by (with_reducible repeat (first | refine blk_drewN ?_ _ | refine blk_drew ?_ | refine blk_alloc ?_ _)); refine blk_far ?_ NB357_362.out _; (with_reducible repeat (first | refine blk_drewN ?_ _ | refine blk_drew ?_ | refine blk_alloc ?_ _)); exact BK357.out) hb); have n7_ := Aside0.mk (blk_below (g := gb362) (o := .cells #[.slice Ao32 t358.length co32] 41 (0, 0)) (by (with_reducible repeat (first | refine blk_drewN ?_ _ | refine blk_drew ?_ | refine blk_alloc ?_ _)); refine blk_put (cs := #[.slice none 0 0]) ?_ 0 _ rfl; (with_reducible repeat (first | refine blk_drewN ?_ _ | refine blk_drew ?_ | refine blk_alloc ?_ _)); exact BK362.out) hb); have n8_ := Aside0.mk (below_step (by repeat (first | (with_reducible first | exact HB.out | apply below_alloc | apply pw_below_drewN | apply below_drew1 | refine below_set ?_ GE344.out | refine below_set ?_ GE353.out | refine below_set ?_ GE357.out | refine below_set ?_ GE362.out) | exact HB.out)) hb); clear HO348; clear HO351; clear HO356; clear HO360; clear BK344; clear BK353; clear BK357; clear BK362; clear HB; have HO348 := n0_; have HO351 := n1_; have HO356 := n2_; have HO360 := n3_; have BK344 := n4_; have BK353 := n5_; have BK357 := n6_; have BK362 := n7_; have HB := n8_; clear n0_ n1_ n2_ n3_ n4_ n5_ n6_ n7_ n8_; (try clear hb); (try clear hb2); (try clear hk); (try clear hi)))
    go_meet
    case rel => exact ⟨_, (true), (by first | rfl | (simp; done) | (simp [*]; done)), H', ⟨by first | omega | exact Nat.le_refl _⟩, ⟨by (with_reducible repeat (first | apply Kd.R_alloc | apply Kd.R_drewN | apply Kd.R_drew)); exact Kd.R_mono HO351.out (fun _ hk => ⟨hk.1.2, hk.2⟩)⟩, ⟨by (with_reducible repeat (first | apply Kd.R_alloc | apply Kd.R_drewN | apply Kd.R_drew)); exact Kd.R_mono HO356.out (fun _ hk => ⟨hk.1.2, hk.2⟩)⟩, ⟨by (with_reducible repeat (first | apply Kd.R_alloc | apply Kd.R_drewN | apply Kd.R_drew)); exact Kd.R_mono HO360.out (fun _ hk => ⟨hk.1.2, hk.2⟩)⟩, ⟨by (with_reducible repeat (first | refine blk_drewN ?_ _ | refine blk_drew ?_ | refine blk_alloc ?_ _)); exact BK344.out⟩, ⟨by (with_reducible repeat (first | refine blk_drewN ?_ _ | refine blk_drew ?_ | refine blk_alloc ?_ _)); exact BK353.out⟩, ⟨by (with_reducible repeat (first | refine blk_drewN ?_ _ | refine blk_drew ?_ | refine blk_alloc ?_ _)); exact BK357.out⟩, ⟨by (with_reducible repeat (first | refine blk_drewN ?_ _ | refine blk_drew ?_ | refine blk_alloc ?_ _)); exact BK362.out⟩, ⟨by repeat (first | (with_reducible first | exact HB.out | apply below_alloc | apply pw_below_drewN | apply below_drew1 | refine below_set ?_ GE344.out | refine below_set ?_ GE353.out | refine below_set ?_ GE357.out | refine below_set ?_ GE362.out) | exact HB.out)⟩⟩
  case rest =>
   clear HC11
   try clear c2
   try clear p2
   try clear c3
   try clear c3b0
   try clear c4
   try clear c5
   try clear c6
   try clear c21
   try clear c27
   try clear c28
   try clear c33
   try clear c34
   try clear c35
   try clear c38
   try clear c39
   try clear c40
   try clear c41
   try clear c43
   try clear c44
   try clear c46
   try clear c47
   try clear c48
   try clear c49
   try clear c50
   try clear c51
   try clear c52
   try clear hcz13_0
   try clear hcz15_0
   try clear hcz22_0
   try clear hcz23_0
   try clear hcz29_0
   try clear hcz36_0
   try clear hcz42_0
   try clear hcz45_0
   try clear hcz50_0
   try clear hcz53_0
   try clear hcz5_0
   try clear hfz13_0
   try clear hfz15_0
   try clear hfz22_0
   try clear hfz23_0
   try clear hfz29_0
   try clear hfz36_0
   try clear hfz42_0
   try clear hfz45_0
   try clear hfz50_0
   try clear hfz53_0
   try clear hfz5_0
   obtain ⟨kq, x40_10, rfl, HA, HJ10, HO_354000, HO_358000, HO_363000, BK344, BK353, BK357, BK362, HB⟩ := hcut
   cases kq with
   | zero => exact absurd HA.out (by simp [laws_FnExactBlowUp.j0])
   | succ kj10 =>
    have H := HA.out
    clear HA
    simp only [laws_FnExactBlowUp.j0] at H
    by_cases c55 : x40_10 = true
    ·subst c55
     have H1 : (some false) = some r := by rw [if_pos rfl] at H; exact H
     clear H
     have H := H1
     clear H1
     obtain rfl := Option.some.inj H
     go_wp2
     go_ret
     exact ⟨by first | rfl | (simp [errW_none, errW_some] <;> rfl) | (simp [*, errW_none, errW_some] <;> rfl), by repeat (first | (with_reducible first | exact HB.out | apply below_alloc | apply pw_below_drewN | apply below_drew1 | refine below_set ?_ GE344.out | refine below_set ?_ GE353.out | refine below_set ?_ GE357.out | refine below_set ?_ GE362.out) | exact HB.out)⟩
    ·replace c55 := Bool.eq_false_iff.mpr c55
     subst c55
     have H1 : ((laws_toSemigroup.f kj10 l0_0).bind fun t364 => ((laws_eqSemigroup.f kj10 t354 t364).bind fun t367 => (if t367 = true then ((laws_markSemigroup.f kj10 t354 1).bind fun bt368 => (if bt368.1 < 0 then (laws_FnExactBlowUp.j1 kj10 t352 true l0_0 t349 t358) else ((laws_eqSemigroup.f kj10 t358 t349).bind fun t370 => (if t370 = true then (laws_FnExactBlowUp.j1 kj10 t352 (t361 != t352) l0_0 t349 t358) else (laws_FnExactBlowUp.j1 kj10 t352 true l0_0 t349 t358))))) else (some false)))) = some r := by rw [if_neg (show ¬ (false = true) by decide)] at H; exact H
     clear H
     have H := H1
     clear H1
     replace H := Option.bind_eq_some_iff.mp H
     obtain ⟨t364, A560, H⟩ := H
     replace H : ((laws_eqSemigroup.f kj10 t354 t364).bind fun t367 => (if t367 = true then ((laws_markSemigroup.f kj10 t354 1).bind fun bt368 => (if bt368.1 < 0 then (laws_FnExactBlowUp.j1 kj10 t352 true l0_0 t349 t358) else ((laws_eqSemigroup.f kj10 t358 t349).bind fun t370 => (if t370 = true then (laws_FnExactBlowUp.j1 kj10 t352 (t361 != t352) l0_0 t349 t358) else (laws_FnExactBlowUp.j1 kj10 t352 true l0_0 t349 t358))))) else (some false))) = some r := H
     have A56 := Aside0.mk A560
     clear A560
     replace H := Option.bind_eq_some_iff.mp H
     obtain ⟨t367, A570, H⟩ := H
     replace H : (if t367 = true then ((laws_markSemigroup.f kj10 t354 1).bind fun bt368 => (if bt368.1 < 0 then (laws_FnExactBlowUp.j1 kj10 t352 true l0_0 t349 t358) else ((laws_eqSemigroup.f kj10 t358 t349).bind fun t370 => (if t370 = true then (laws_FnExactBlowUp.j1 kj10 t352 (t361 != t352) l0_0 t349 t358) else (laws_FnExactBlowUp.j1 kj10 t352 true l0_0 t349 t358))))) else (some false)) = some r := H
     have A57 := Aside0.mk A570
     clear A570
     by_cases c58 : t367 = true
     ·subst c58
      have H1 : ((laws_markSemigroup.f kj10 t354 1).bind fun bt368 => (if bt368.1 < 0 then (laws_FnExactBlowUp.j1 kj10 t352 true l0_0 t349 t358) else ((laws_eqSemigroup.f kj10 t358 t349).bind fun t370 => (if t370 = true then (laws_FnExactBlowUp.j1 kj10 t352 (t361 != t352) l0_0 t349 t358) else (laws_FnExactBlowUp.j1 kj10 t352 true l0_0 t349 t358))))) = some r := by rw [if_pos rfl] at H; exact H
      clear H
      have H := H1
      clear H1
      replace H := Option.bind_eq_some_iff.mp H
      obtain ⟨⟨t368, t369⟩, A590, H⟩ := H
      replace H : (if t368 < 0 then (laws_FnExactBlowUp.j1 kj10 t352 true l0_0 t349 t358) else ((laws_eqSemigroup.f kj10 t358 t349).bind fun t370 => (if t370 = true then (laws_FnExactBlowUp.j1 kj10 t352 (t361 != t352) l0_0 t349 t358) else (laws_FnExactBlowUp.j1 kj10 t352 true l0_0 t349 t358)))) = some r := H
      have A59 := Aside0.mk A590
      clear A590
      have HC60 := Aside0.mk H
      clear H
      try go_wp2
      have n0_ := Aside0.mk (Kd.R_drew HO_354000.out)
      have n1_ := Aside0.mk (Kd.R_drew HO_358000.out)
      have n2_ := Aside0.mk (Kd.R_drew HO_363000.out)
      have n3_ := Aside0.mk (blk_drew BK344.out)
      have n4_ := Aside0.mk (blk_drew BK353.out)
      have n5_ := Aside0.mk (blk_drew BK357.out)
      have n6_ := Aside0.mk (blk_drew BK362.out)
      have n7_ := Aside0.mk (below_drew1 HB.out)
      clear HO_354000
      clear HO_358000
      clear HO_363000
      clear BK344
      clear BK353
      clear BK357
      clear BK362
      clear HB
      have HO_354000 := n0_
      have HO_358000 := n1_
      have HO_363000 := n2_
      have BK344 := n3_
      have BK353 := n4_
      have BK357 := n5_
      have BK362 := n6_
      have HB := n7_
      clear n0_ n1_ n2_ n3_ n4_ n5_ n6_ n7_
      refine start_ (n := 5) (S := fun w' => w'.cell? ⟨gb357, 0, none⟩ = some (.slice Ao26 t354.length co26) ∧ w'.cell? ⟨gb344, 0, none⟩ = some (.slice A0_0 l0_0.length c0_0)) (ds := []) #[f_,f_,f_,f_,f_] (by kernel_rfl) rfl rfl ⟨(blk_cell BK357.out 0).trans rfl, (blk_cell BK344.out 0).trans rfl⟩ (fun hHeld => ?_)
      generalize wc.drew = w61 at HO_354000 HO_358000 HO_363000 BK344 BK353 BK357 BK362 HB hHeld ⊢
      refine take_ (i := 0) (N := some 41) (v := ?_) (a' := ?_) #[t_,f_,f_,f_,f_] rfl rfl (by kernel_rfl) (fun _ _ _ h => h) (Or.inl ⟨by rfl, ?_⟩) hHeld ?_ ?_
      rotate_left
      ·rintro w' ⟨s0, s1⟩
       go_simp
       with_reducible rfl
      rotate_left
      ·simp only [Act.put, List.setIfInBounds_toArray, List.set_cons_zero, List.set_cons_succ, i64_w, i32_w]
       rfl
      refine take_ (i := 1) (N := some 42) (v := ?_) (a' := ?_) #[t_,t_,f_,f_,f_] rfl rfl (by kernel_rfl) (fun _ _ _ h => h) (Or.inl ⟨by rfl, ?_⟩) hHeld ?_ ?_
      rotate_left
      ·rintro w' ⟨s0, s1⟩
       go_simp
       with_reducible rfl
      rotate_left
      ·simp only [Act.put, List.setIfInBounds_toArray, List.set_cons_zero, List.set_cons_succ, i64_w, i32_w]
       rfl
      refine one_ (i := 2) (N := some 43) #[t_,t_,t_,f_,f_] rfl rfl (by kernel_rfl) (by decide) (fun K hK => ?_)
      refine goes_ Try.func48 (by kernel_rfl) rfl #[.agg #[.slice A0_0 l0_0.length c0_0]] (by rfl) rfl rfl (by (try simp only [List.map_toArray, List.map_cons, List.map_nil]); first | done | rfl | (simp only [List.length_drop, List.length_take]; rfl)) ?_
      with_reducible refine (laws_toSemigroup.calls kj10 _ _ l0_0 t364 _ ?side1 ?side2 A56.out).mono ?_
      (case side1 => repeat (first | exact (Kd.C_below HR0_0.out HB.out) | exact HR0_0.out | (with_reducible refine Kd.C_alloc ?_ _) | (with_reducible refine Kd.C_drewN ?_ _) | (with_reducible refine Kd.C_drew ?_)))
      (case side2 => exact HC0_0.out)
      rintro e w62 ⟨v365, rfl, ho0, hb⟩
      refine ⟨_, rfl, ?_⟩
      have n0_ := Aside0.mk (Kd.R_elder' (by (with_reducible repeat (first | apply Kd.R_alloc | apply Kd.R_drewN | apply Kd.R_drew)); exact HO_354000.out) (Kd.R_base ho0) hb)
      have n1_ := Aside0.mk (Kd.R_elder' (by (with_reducible repeat (first | apply Kd.R_alloc | apply Kd.R_drewN | apply Kd.R_drew)); exact HO_358000.out) (Kd.R_base ho0) hb)
      have n2_ := Aside0.mk (Kd.R_elder' (by (with_reducible repeat (first | apply Kd.R_alloc | apply Kd.R_drewN | apply Kd.R_drew)); exact HO_363000.out) (Kd.R_base ho0) hb)
      have n3_ := Aside0.mk (Kd.R_lower (Kd.R_new' (Kd.R_new' (Kd.R_new' ho0 (Kd.R_lt (by (with_reducible repeat (first | apply Kd.R_alloc | apply Kd.R_drewN | apply Kd.R_drew)); exact HO_354000.out))) (Kd.R_lt (by (with_reducible repeat (first | apply Kd.R_alloc | apply Kd.R_drewN | apply Kd.R_drew)); exact HO_358000.out))) (Kd.R_lt (by (with_reducible repeat (first | apply Kd.R_alloc | apply Kd.R_drewN | apply Kd.R_drew)); exact HO_363000.out))) (below_size (by repeat (first | (with_reducible first | exact HB.out | apply below_alloc | apply pw_below_drewN | apply below_drew1 | refine below_set ?_ GE344.out | refine below_set ?_ GE353.out | refine below_set ?_ GE357.out | refine below_set ?_ GE362.out) | exact HB.out))))
      have n4_ := Aside0.mk (blk_below (g := gb344) (o := .cells #[.slice A0_0 l0_0.length c0_0] 46 (0, 0)) (by (with_reducible repeat (first | refine blk_drewN ?_ _ | refine blk_drew ?_ | refine blk_alloc ?_ _)); exact BK344.out) hb)
      have n5_ := Aside0.mk (blk_below (g := gb353) (o := .cells #[.slice Ao20 t349.length co20] 41 (0, 0)) (by (with_reducible repeat (first | refine blk_drewN ?_ _ | refine blk_drew ?_ | refine blk_alloc ?_ _)); exact BK353.out) hb)
      have n6_ := Aside0.mk (blk_below (g := gb357) (o := .cells #[.slice Ao26 t354.length co26] 41 (0, 0)) (by (with_reducible repeat (first | refine blk_drewN ?_ _ | refine blk_drew ?_ | refine blk_alloc ?_ _)); exact BK357.out) hb)
      have n7_ := Aside0.mk (blk_below (g := gb362) (o := .cells #[.slice Ao32 t358.length co32] 41 (0, 0)) (by (with_reducible repeat (first | refine blk_drewN ?_ _ | refine blk_drew ?_ | refine blk_alloc ?_ _)); exact BK362.out) hb)
      have n8_ := Aside0.mk (below_step (by repeat (first | (with_reducible first | exact HB.out | apply below_alloc | apply pw_below_drewN | apply below_drew1 | refine below_set ?_ GE344.out | refine below_set ?_ GE353.out | refine below_set ?_ GE357.out | refine below_set ?_ GE362.out) | exact HB.out)) hb)
      clear HO_354000
      clear HO_358000
      clear HO_363000
      clear BK344
      clear BK353
      clear BK357
      clear BK362
      clear HB
      have HO_354000 := n0_
      have HO_358000 := n1_
      have HO_363000 := n2_
      have HO366 := n3_
      have BK344 := n4_
      have BK353 := n5_
      have BK357 := n6_
      have BK362 := n7_
      have HB := n8_
      clear n0_ n1_ n2_ n3_ n4_ n5_ n6_ n7_ n8_
      (try clear hb)
      (try clear hb2)
      (try clear hk)
      (try clear hi)
      (try clear ho0)
      obtain ⟨Ao63, co63, eo63⟩ := Kd.R_slice HO366.out
      (first | subst eo63 | (injection eo63 with f1_ f2_ f3_; have f4_ := f1_.symm; have f5_ := f3_.symm; clear f1_ f2_ f3_; subst f4_; subst f5_))
      refine hK.out _ _ ⟨(blk_cell BK357.out 0).trans rfl, (blk_cell BK344.out 0).trans rfl⟩ (fun hHeld => ?_)
      clear hK K
      refine norm_ (a' := ?_) ?_ ?_
      rotate_left
      ·show Act.put _ (some 43) _ = _
       simp only [Act.put, List.setIfInBounds_toArray, List.set_cons_zero, List.set_cons_succ, i64_w, i32_w]
       rfl
      refine one_ (i := 3) (N := some 44) #[t_,t_,t_,t_,f_] rfl rfl (by kernel_rfl) (by decide) (fun K hK => ?_)
      refine goes_ Try.func50 (by kernel_rfl) rfl #[.agg #[.slice Ao26 t354.length co26], .agg #[.slice Ao63 t364.length co63]] (by rfl) rfl rfl (by (try simp only [List.map_toArray, List.map_cons, List.map_nil]); first | done | rfl | (simp only [List.length_drop, List.length_take]; rfl)) ?_
      with_reducible refine (laws_eqSemigroup.calls kj10 _ _ t354 _ _ t364 true _ ?side1 ?side2 ?side3 ?side4 A57.out).mono ?_
      (case side1 => repeat (first | exact (Kd.R_reads' HO_358000.out).2.2 | (with_reducible refine Kd.C_alloc ?_ _) | (with_reducible refine Kd.C_drewN ?_ _) | (with_reducible refine Kd.C_drew ?_)))
      (case side2 => exact (Kd.R_reads' HO_358000.out).2.1)
      (case side3 => repeat (first | exact (Kd.R_reads' HO366.out).2.2 | (with_reducible refine Kd.C_alloc ?_ _) | (with_reducible refine Kd.C_drewN ?_ _) | (with_reducible refine Kd.C_drew ?_)))
      (case side4 => exact (Kd.R_reads' HO366.out).2.1)
      rintro e w64 ⟨rfl, hb⟩
      refine ⟨_, rfl, ?_⟩
      have n0_ := Aside0.mk (Kd.R_below (by (with_reducible repeat (first | apply Kd.R_alloc | apply Kd.R_drewN | apply Kd.R_drew)); exact HO_354000.out) hb)
      have n1_ := Aside0.mk (Kd.R_below (by (with_reducible repeat (first | apply Kd.R_alloc | apply Kd.R_drewN | apply Kd.R_drew)); exact HO_358000.out) hb)
      have n2_ := Aside0.mk (Kd.R_below (by (with_reducible repeat (first | apply Kd.R_alloc | apply Kd.R_drewN | apply Kd.R_drew)); exact HO_363000.out) hb)
      have n3_ := Aside0.mk (Kd.R_below (by (with_reducible repeat (first | apply Kd.R_alloc | apply Kd.R_drewN | apply Kd.R_drew)); exact HO366.out) hb)
      have n4_ := Aside0.mk (blk_below (g := gb344) (o := .cells #[.slice A0_0 l0_0.length c0_0] 46 (0, 0)) (by (with_reducible repeat (first | refine blk_drewN ?_ _ | refine blk_drew ?_ | refine blk_alloc ?_ _)); exact BK344.out) hb)
      have n5_ := Aside0.mk (blk_below (g := gb353) (o := .cells #[.slice Ao20 t349.length co20] 41 (0, 0)) (by (with_reducible repeat (first | refine blk_drewN ?_ _ | refine blk_drew ?_ | refine blk_alloc ?_ _)); exact BK353.out) hb)
      have n6_ := Aside0.mk (blk_below (g := gb357) (o := .cells #[.slice Ao26 t354.length co26] 41 (0, 0)) (by (with_reducible repeat (first | refine blk_drewN ?_ _ | refine blk_drew ?_ | refine blk_alloc ?_ _)); exact BK357.out) hb)
      have n7_ := Aside0.mk (blk_below (g := gb362) (o := .cells #[.slice Ao32 t358.length co32] 41 (0, 0)) (by (with_reducible repeat (first | refine blk_drewN ?_ _ | refine blk_drew ?_ | refine blk_alloc ?_ _)); exact BK362.out) hb)
      have n8_ := Aside0.mk (below_step (by repeat (first | (with_reducible first | exact HB.out | apply below_alloc | apply pw_below_drewN | apply below_drew1 | refine below_set ?_ GE344.out | refine below_set ?_ GE353.out | refine below_set ?_ GE357.out | refine below_set ?_ GE362.out) | exact HB.out)) hb)
      clear HO_354000
      clear HO_358000
      clear HO_363000
      clear HO366
      clear BK344
      clear BK353
      clear BK357
      clear BK362
      clear HB
      have HO_354000 := n0_
      have HO_358000 := n1_
      have HO_363000 := n2_
      have HO366 := n3_
      have BK344 := n4_
      have BK353 := n5_
      have BK357 := n6_
      have BK362 := n7_
      have HB := n8_
      clear n0_ n1_ n2_ n3_ n4_ n5_ n6_ n7_ n8_
      (try clear hb)
      (try clear hb2)
      (try clear hk)
      (try clear hi)
      refine hK.out _ _ ⟨(blk_cell BK357.out 0).trans rfl, (blk_cell BK344.out 0).trans rfl⟩ (fun hHeld => ?_)
      clear hK K
      refine norm_ (a' := ?_) ?_ ?_
      rotate_left
      ·show Act.put _ (some 44) _ = _
       simp only [Act.put, List.setIfInBounds_toArray, List.set_cons_zero, List.set_cons_succ, i64_w, i32_w]
       rfl
      refine pure_ (i := 4) (N := some 45) (v := ?_) (a' := ?_) #[t_,t_,t_,t_,t_] rfl rfl (by kernel_rfl) (fun _ _ _ h => h) (Or.inl ⟨by rfl, ?_⟩) ?_ ?_
      rotate_left
      ·intro w'
       go_simp
       with_reducible rfl
      rotate_left
      ·simp only [Act.put, List.setIfInBounds_toArray, List.set_cons_zero, List.set_cons_succ, i64_w, i32_w]
       rfl
      refine done_ (by kernel_rfl) ?_
      have hnb65 := NB357_344.out
      have hnc65 := NB344_357.out
      have hnb66 := NB357_353.out
      have hnc66 := NB353_357.out
      have hnb67 := NB357_362.out
      have hnc67 := NB362_357.out
      have hcz68_0 : w64.cell? ⟨gb357, 0, none⟩ = some (.slice Ao26 t354.length co26) := (blk_cell BK357.out 0).trans rfl
      have hfz68_0 := blk_frozen BK357.out 0
      go_upto_region 14 with (first | ((with_reducible refine gate_callee (f := 51) rfl ?_); refine goesL_ (some 48) rfl rfl Try.func51 (by kernel_rfl) rfl #[.agg #[.slice Ao26 t354.length co26], .int .i64 1] rfl (by (try simp only [List.map_toArray, List.map_cons, List.map_nil]); first | done | rfl | (simp only [List.length_drop, List.length_take]; rfl)) ?_; (with_reducible refine (laws_markSemigroup.calls kj10 (fun k_ => some k_ = (.slice Ao26 t354.length co26 : Value).ownBlock) (.slice Ao26 t354.length co26) t354 1 t368 t369 w _ ?side1 ?side2 A59.out).mono ?_); (case side1 => repeat (first | (with_reducible first | exact HB.out | apply below_alloc | apply pw_below_drewN | apply below_drew1 | refine below_set ?_ GE344.out | refine below_set ?_ GE353.out | refine below_set ?_ GE357.out | refine below_set ?_ GE362.out) | exact HB.out)); (case side2 => exact Kd.R_tight rfl HO_358000.out); rintro e w69 ⟨rfl, hy0, hb, hkp⟩; refine ⟨_, rfl, ?_⟩; have n0_ := Aside0.mk (Kd.R_mono (ok' := fun k_ => some k_ ≠ (.slice Ao26 t354.length co26 : Value).ownBlock ∧ some k_ ≠ (.slice Ao32 t358.length co32 : Value).ownBlock ∧ some k_ ≠ (.slice Ao63 t364.length co63 : Value).ownBlock) (Kd.R_keptB (HO_354000.out) hkp (fun k_ hk_ hs_ => (hk_.1.1) hs_)) (fun k_ hk_ => ⟨hk_.1.1.1, hk_.1.1.2, hk_.1.2⟩)); have n1_ := Aside0.mk (Kd.R_reok rfl hy0 (fun k_ e_ => HO_358000.out.1 k_ e_)); have n2_ := Aside0.mk (Kd.R_mono (ok' := fun k_ => some k_ ≠ (.slice Ao20 t349.length co20 : Value).ownBlock ∧ some k_ ≠ (.slice Ao26 t354.length co26 : Value).ownBlock ∧ some k_ ≠ (.slice Ao63 t364.length co63 : Value).ownBlock) (Kd.R_keptB (HO_363000.out) hkp (fun k_ hk_ hs_ => (hk_.1.2) hs_)) (fun k_ hk_ => ⟨hk_.1.1.1, hk_.1.1.2, hk_.1.2⟩)); have n3_ := Aside0.mk (blk_kept (by (with_reducible repeat (first | refine blk_drewN ?_ _ | refine blk_drew ?_ | refine blk_alloc ?_ _)); exact BK344.out) hkp (fun hs_ => (fun e_ => (Kd.R_ne HO_358000.out BK344.out (by decide)) e_) hs_)); have n4_ := Aside0.mk (blk_kept (by (with_reducible repeat (first | refine blk_drewN ?_ _ | refine blk_drew ?_ | refine blk_alloc ?_ _)); exact BK353.out) hkp (fun hs_ => (fun e_ => (Kd.R_ne HO_358000.out BK353.out (by decide)) e_) hs_)); have n5_ := Aside0.mk (blk_kept (by (with_reducible repeat (first | refine blk_drewN ?_ _ | refine blk_drew ?_ | refine blk_alloc ?_ _)); exact BK357.out) hkp (fun hs_ => (fun e_ => (Kd.R_ne HO_358000.out BK357.out (by decide)) e_) hs_)); have n6_ := Aside0.mk (blk_kept (by (with_reducible repeat (first | refine blk_drewN ?_ _ | refine blk_drew ?_ | refine blk_alloc ?_ _)); exact BK362.out) hkp (fun hs_ => (fun e_ => (Kd.R_ne HO_358000.out BK362.out (by decide)) e_) hs_)); have n7_ := Aside0.mk (Kd.R_mono (ok' := fun k_ => some k_ ≠ (.slice Ao20 t349.length co20 : Value).ownBlock ∧ some k_ ≠ (.slice Ao26 t354.length co26 : Value).ownBlock ∧ some k_ ≠ (.slice Ao32 t358.length co32 : Value).ownBlock) (Kd.R_keptB (HO366.out) hkp (fun k_ hk_ hs_ => (hk_.1.2) hs_)) (fun k_ hk_ => ⟨hk_.1.1.1.2, hk_.1.1.2, hk_.1.2⟩)); have n8_ := Aside0.mk (hb); clear HO_354000; clear HO_358000; clear HO_363000; clear BK344; clear BK353; clear BK357; clear BK362; clear HO366; clear HB; have HO_354000 := n0_; have HO_358000 := n1_; have HO_363000 := n2_; have BK344 := n3_; have BK353 := n4_; have BK357 := n5_; have BK362 := n6_; have HO366 := n7_; have HB := n8_; clear n0_ n1_ n2_ n3_ n4_ n5_ n6_ n7_ n8_; (try clear hb); (try clear hkp); (try clear hy0)))
      (try simp only [Act.put, List.setIfInBounds_toArray, List.set_cons_zero, List.set_cons_succ])
      go_cut [61] (fun v61 wc => ∃ (kq : Nat) (x61_59 : Bool), v61 = .bool x61_59 ∧ Aside0 (laws_FnExactBlowUp.j1 kq t352 x61_59 l0_0 t349 t358 = some r) ∧ Aside0 (kq ≤ kj10) ∧ Aside0 (Kd.R (Kd.int .i64) 3 wc w.heap.size (fun k_ => some k_ ≠ ((.slice Ao26 t354.length co26) : Value).ownBlock ∧ some k_ ≠ ((.slice Ao32 t358.length co32) : Value).ownBlock) (.slice Ao20 t349.length co20) t349) ∧ Aside0 (Kd.R (Kd.int .i64) 3 wc w.heap.size (fun k_ => some k_ ≠ ((.slice Ao20 t349.length co20) : Value).ownBlock ∧ some k_ ≠ ((.slice Ao32 t358.length co32) : Value).ownBlock) (.slice Ao26 t354.length co26) t369) ∧ Aside0 (Kd.R (Kd.int .i64) 3 wc w.heap.size (fun k_ => some k_ ≠ ((.slice Ao20 t349.length co20) : Value).ownBlock ∧ some k_ ≠ ((.slice Ao26 t354.length co26) : Value).ownBlock) (.slice Ao32 t358.length co32) t358) ∧ Aside0 (wc.heap[gb344]? = some (.cells #[(.slice A0_0 l0_0.length c0_0)] 46 (0, 0))) ∧ Aside0 (wc.heap[gb353]? = some (.cells #[(.slice Ao20 t349.length co20)] 41 (0, 0))) ∧ Aside0 (wc.heap[gb357]? = some (.cells #[(.slice Ao26 t354.length co26)] 41 (0, 0))) ∧ Aside0 (wc.heap[gb362]? = some (.cells #[(.slice Ao32 t358.length co32)] 41 (0, 0))) ∧ Aside0 (Below w.heap.size w wc))
      case first =>
       have H := HC60.out
       clear HC60
       by_cases c70 : t368 < 0
       ·rw [if_pos c70] at H
        have c70b0 : decide (t368 < 0) = true := decide_eq_true c70
        clear c70
        (first | rw [c70b0] | (simp only [i64_w, i32_w]; rw [c70b0]) | skip)
        have H' := Aside0.mk H
        clear H
        go_wp2
        go_meet
        case rel => exact ⟨_, (true), (by first | rfl | (simp; done) | (simp [*]; done)), H', ⟨by have := HJ10.out; first | omega | exact Nat.le_refl _⟩, ⟨by (with_reducible repeat (first | apply Kd.R_alloc | apply Kd.R_drewN | apply Kd.R_drew)); exact Kd.R_mono HO_354000.out (fun _ hk => ⟨hk.1, hk.2.1⟩)⟩, ⟨by (with_reducible repeat (first | apply Kd.R_alloc | apply Kd.R_drewN | apply Kd.R_drew)); exact Kd.R_mono HO_358000.out (fun _ hk => ⟨hk.1.1, hk.1.2⟩)⟩, ⟨by (with_reducible repeat (first | apply Kd.R_alloc | apply Kd.R_drewN | apply Kd.R_drew)); exact Kd.R_mono HO_363000.out (fun _ hk => ⟨hk.1, hk.2.1⟩)⟩, ⟨by (with_reducible repeat (first | refine blk_drewN ?_ _ | refine blk_drew ?_ | refine blk_alloc ?_ _)); exact BK344.out⟩, ⟨by (with_reducible repeat (first | refine blk_drewN ?_ _ | refine blk_drew ?_ | refine blk_alloc ?_ _)); exact BK353.out⟩, ⟨by (with_reducible repeat (first | refine blk_drewN ?_ _ | refine blk_drew ?_ | refine blk_alloc ?_ _)); exact BK357.out⟩, ⟨by (with_reducible repeat (first | refine blk_drewN ?_ _ | refine blk_drew ?_ | refine blk_alloc ?_ _)); exact BK362.out⟩, ⟨by repeat (first | (with_reducible first | exact HB.out | apply below_alloc | apply pw_below_drewN | apply below_drew1 | refine below_set ?_ GE344.out | refine below_set ?_ GE353.out | refine below_set ?_ GE357.out | refine below_set ?_ GE362.out) | exact HB.out)⟩⟩
       ·rw [if_neg c70] at H
        have c70b0 : decide (t368 < 0) = false := decide_eq_false c70
        clear c70
        (first | rw [c70b0] | (simp only [i64_w, i32_w]; rw [c70b0]) | skip)
        replace H := Option.bind_eq_some_iff.mp H
        obtain ⟨t370, A710, H⟩ := H
        replace H : (if t370 = true then (laws_FnExactBlowUp.j1 kj10 t352 (t361 != t352) l0_0 t349 t358) else (laws_FnExactBlowUp.j1 kj10 t352 true l0_0 t349 t358)) = some r := H
        have A71 := Aside0.mk A710
        clear A710
        by_cases c72 : t370 = true
        ·subst c72
         have H1 : (laws_FnExactBlowUp.j1 kj10 t352 (t361 != t352) l0_0 t349 t358) = some r := by rw [if_pos rfl] at H; exact H
         clear H
         have H := H1
         clear H1
         have H' := Aside0.mk H
         clear H
         have hnb73 := NB362_344.out
         have hnc73 := NB344_362.out
         have hnb74 := NB362_353.out
         have hnc74 := NB353_362.out
         have hnb75 := NB362_357.out
         have hnc75 := NB357_362.out
         have hcz76_0 : w69.cell? ⟨gb362, 0, none⟩ = some (.slice Ao32 t358.length co32) := (blk_cell BK362.out 0).trans rfl
         have hfz76_0 := blk_frozen BK362.out 0
         have hnb77 := NB353_344.out
         have hnc77 := NB344_353.out
         have hnb78 := NB353_357.out
         have hnc78 := NB357_353.out
         have hcz79_0 : w69.cell? ⟨gb353, 0, none⟩ = some (.slice Ao20 t349.length co20) := (blk_cell BK353.out 0).trans rfl
         have hfz79_0 := blk_frozen BK353.out 0
         go_wp2_with (first | (go_at_call 50; (with_reducible refine (laws_eqSemigroup.calls kj10 _ _ t358 _ _ t349 true _ ?side1 ?side2 ?side3 ?side4 A71.out).mono ?_); (case side1 => repeat (first | exact (Kd.R_reads' HO_363000.out).2.2 | (with_reducible refine Kd.C_alloc ?_ _) | (with_reducible refine Kd.C_drewN ?_ _) | (with_reducible refine Kd.C_drew ?_))); (case side2 => exact (Kd.R_reads' HO_363000.out).2.1); (case side3 => repeat (first | exact (Kd.R_reads' HO_354000.out).2.2 | (with_reducible refine Kd.C_alloc ?_ _) | (with_reducible refine Kd.C_drewN ?_ _) | (with_reducible refine Kd.C_drew ?_))); (case side4 => exact (Kd.R_reads' HO_354000.out).2.1); rintro e w80 ⟨rfl, hb⟩; have n0_ := Aside0.mk (Kd.R_below (by (with_reducible repeat (first | apply Kd.R_alloc | apply Kd.R_drewN | apply Kd.R_drew)); exact HO_354000.out) hb); have n1_ := Aside0.mk (Kd.R_below (by (with_reducible repeat (first | apply Kd.R_alloc | apply Kd.R_drewN | apply Kd.R_drew)); exact HO_358000.out) hb); have n2_ := Aside0.mk (Kd.R_below (by (with_reducible repeat (first | apply Kd.R_alloc | apply Kd.R_drewN | apply Kd.R_drew)); exact HO_363000.out) hb); have n3_ := Aside0.mk (Kd.R_below (by (with_reducible repeat (first | apply Kd.R_alloc | apply Kd.R_drewN | apply Kd.R_drew)); exact HO366.out) hb); have n4_ := Aside0.mk (blk_below (g := gb344) (o := .cells #[.slice A0_0 l0_0.length c0_0] 46 (0, 0)) (by (with_reducible repeat (first | refine blk_drewN ?_ _ | refine blk_drew ?_ | refine blk_alloc ?_ _)); exact BK344.out) hb); have n5_ := Aside0.mk (blk_below (g := gb353) (o := .cells #[.slice Ao20 t349.length co20] 41 (0, 0)) (by (with_reducible repeat (first | refine blk_drewN ?_ _ | refine blk_drew ?_ | refine blk_alloc ?_ _)); exact BK353.out) hb); have n6_ := Aside0.mk (blk_below (g := gb357) (o := .cells #[.slice Ao26 t354.length co26] 41 (0, 0)) (by (with_reducible repeat (first | refine blk_drewN ?_ _ | refine blk_drew ?_ | refine blk_alloc ?_ _)); exact BK357.out) hb); have n7_ := Aside0.mk (blk_below (g := gb362) (o := .cells #[.slice Ao32 t358.length co32] 41 (0, 0)) (by (with_reducible repeat (first | refine blk_drewN ?_ _ | refine blk_drew ?_ | refine blk_alloc ?_ _)); exact BK362.out) hb); have n8_ := Aside0.mk (below_step (by repeat (first | (with_reducible first | exact HB.out | apply below_alloc | apply pw_below_drewN | apply below_drew1 | refine below_set ?_ GE344.out | refine below_set ?_ GE353.out | refine below_set ?_ GE357.out | refine below_set ?_ GE362.out) | exact HB.out)) hb); clear HO_354000; clear HO_358000; clear HO_363000; clear HO366; clear BK344; clear BK353; clear BK357; clear BK362; clear HB; have HO_354000 := n0_; have HO_358000 := n1_; have HO_363000 := n2_; have HO366 := n3_; have BK344 := n4_; have BK353 := n5_; have BK357 := n6_; have BK362 := n7_; have HB := n8_; clear n0_ n1_ n2_ n3_ n4_ n5_ n6_ n7_ n8_; (try clear hb); (try clear hb2); (try clear hk); (try clear hi)))
         go_meet
         case rel => exact ⟨_, ((t361 != t352)), (by first | rfl | (simp; done) | (simp [*]; done)), H', ⟨by have := HJ10.out; first | omega | exact Nat.le_refl _⟩, ⟨by (with_reducible repeat (first | apply Kd.R_alloc | apply Kd.R_drewN | apply Kd.R_drew)); exact Kd.R_mono HO_354000.out (fun _ hk => ⟨hk.1, hk.2.1⟩)⟩, ⟨by (with_reducible repeat (first | apply Kd.R_alloc | apply Kd.R_drewN | apply Kd.R_drew)); exact Kd.R_mono HO_358000.out (fun _ hk => ⟨hk.1.1, hk.1.2⟩)⟩, ⟨by (with_reducible repeat (first | apply Kd.R_alloc | apply Kd.R_drewN | apply Kd.R_drew)); exact Kd.R_mono HO_363000.out (fun _ hk => ⟨hk.1, hk.2.1⟩)⟩, ⟨by (with_reducible repeat (first | refine blk_drewN ?_ _ | refine blk_drew ?_ | refine blk_alloc ?_ _)); exact BK344.out⟩, ⟨by (with_reducible repeat (first | refine blk_drewN ?_ _ | refine blk_drew ?_ | refine blk_alloc ?_ _)); exact BK353.out⟩, ⟨by (with_reducible repeat (first | refine blk_drewN ?_ _ | refine blk_drew ?_ | refine blk_alloc ?_ _)); exact BK357.out⟩, ⟨by (with_reducible repeat (first | refine blk_drewN ?_ _ | refine blk_drew ?_ | refine blk_alloc ?_ _)); exact BK362.out⟩, ⟨by repeat (first | (with_reducible first | exact HB.out | apply below_alloc | apply pw_below_drewN | apply below_drew1 | refine below_set ?_ GE344.out | refine below_set ?_ GE353.out | refine below_set ?_ GE357.out | refine below_set ?_ GE362.out) | exact HB.out)⟩⟩
        ·replace c72 := Bool.eq_false_iff.mpr c72
         subst c72
         have H1 : (laws_FnExactBlowUp.j1 kj10 t352 true l0_0 t349 t358) = some r := by rw [if_neg (show ¬ (false = true) by decide)] at H; exact H
         clear H
         have H := H1
         clear H1
         have H' := Aside0.mk H
         clear H
         have hnb81 := NB362_344.out
         have hnc81 := NB344_362.out
         have hnb82 := NB362_353.out
         have hnc82 := NB353_362.out
         have hnb83 := NB362_357.out
         have hnc83 := NB357_362.out
         have hcz84_0 : w69.cell? ⟨gb362, 0, none⟩ = some (.slice Ao32 t358.length co32) := (blk_cell BK362.out 0).trans rfl
         have hfz84_0 := blk_frozen BK362.out 0
         have hnb85 := NB353_344.out
         have hnc85 := NB344_353.out
         have hnb86 := NB353_357.out
         have hnc86 := NB357_353.out
         have hcz87_0 : w69.cell? ⟨gb353, 0, none⟩ = some (.slice Ao20 t349.length co20) := (blk_cell BK353.out 0).trans rfl
         have hfz87_0 := blk_frozen BK353.out 0
         go_wp2_with (first | (go_at_call 50; (with_reducible refine (laws_eqSemigroup.calls kj10 _ _ t358 _ _ t349 false _ ?side1 ?side2 ?side3 ?side4 A71.out).mono ?_); (case side1 => repeat (first | exact (Kd.R_reads' HO_363000.out).2.2 | (with_reducible refine Kd.C_alloc ?_ _) | (with_reducible refine Kd.C_drewN ?_ _) | (with_reducible refine Kd.C_drew ?_))); (case side2 => exact (Kd.R_reads' HO_363000.out).2.1); (case side3 => repeat (first | exact (Kd.R_reads' HO_354000.out).2.2 | (with_reducible refine Kd.C_alloc ?_ _) | (with_reducible refine Kd.C_drewN ?_ _) | (with_reducible refine Kd.C_drew ?_))); (case side4 => exact (Kd.R_reads' HO_354000.out).2.1); rintro e w88 ⟨rfl, hb⟩; have n0_ := Aside0.mk (Kd.R_below (by (with_reducible repeat (first | apply Kd.R_alloc | apply Kd.R_drewN | apply Kd.R_drew)); exact HO_354000.out) hb); have n1_ := Aside0.mk (Kd.R_below (by (with_reducible repeat (first | apply Kd.R_alloc | apply Kd.R_drewN | apply Kd.R_drew)); exact HO_358000.out) hb); have n2_ := Aside0.mk (Kd.R_below (by (with_reducible repeat (first | apply Kd.R_alloc | apply Kd.R_drewN | apply Kd.R_drew)); exact HO_363000.out) hb); have n3_ := Aside0.mk (Kd.R_below (by (with_reducible repeat (first | apply Kd.R_alloc | apply Kd.R_drewN | apply Kd.R_drew)); exact HO366.out) hb); have n4_ := Aside0.mk (blk_below (g := gb344) (o := .cells #[.slice A0_0 l0_0.length c0_0] 46 (0, 0)) (by (with_reducible repeat (first | refine blk_drewN ?_ _ | refine blk_drew ?_ | refine blk_alloc ?_ _)); exact BK344.out) hb); have n5_ := Aside0.mk (blk_below (g := gb353) (o := .cells #[.slice Ao20 t349.length co20] 41 (0, 0)) (by (with_reducible repeat (first | refine blk_drewN ?_ _ | refine blk_drew ?_ | refine blk_alloc ?_ _)); exact BK353.out) hb); have n6_ := Aside0.mk (blk_below (g := gb357) (o := .cells #[.slice Ao26 t354.length co26] 41 (0, 0)) (by (with_reducible repeat (first | refine blk_drewN ?_ _ | refine blk_drew ?_ | refine blk_alloc ?_ _)); exact BK357.out) hb); have n7_ := Aside0.mk (blk_below (g := gb362) (o := .cells #[.slice Ao32 t358.length co32] 41 (0, 0)) (by (with_reducible repeat (first | refine blk_drewN ?_ _ | refine blk_drew ?_ | refine blk_alloc ?_ _)); exact BK362.out) hb); have n8_ := Aside0.mk (below_step (by repeat (first | (with_reducible first | exact HB.out | apply below_alloc | apply pw_below_drewN | apply below_drew1 | refine below_set ?_ GE344.out | refine below_set ?_ GE353.out | refine below_set ?_ GE357.out | refine below_set ?_ GE362.out) | exact HB.out)) hb); clear HO_354000; clear HO_358000; clear HO_363000; clear HO366; clear BK344; clear BK353; clear BK357; clear BK362; clear HB; have HO_354000 := n0_; have HO_358000 := n1_; have HO_363000 := n2_; have HO366 := n3_; have BK344 := n4_; have BK353 := n5_; have BK357 := n6_; have BK362 := n7_; have HB := n8_; clear n0_ n1_ n2_ n3_ n4_ n5_ n6_ n7_ n8_; (try clear hb); (try clear hb2); (try clear hk); (try clear hi)))
         go_meet
         case rel => exact ⟨_, (true), (by first | rfl | (simp; done) | (simp [*]; done)), H', ⟨by have := HJ10.out; first | omega | exact Nat.le_refl _⟩, ⟨by (with_reducible repeat (first | apply Kd.R_alloc | apply Kd.R_drewN | apply Kd.R_drew)); exact Kd.R_mono HO_354000.out (fun _ hk => ⟨hk.1, hk.2.1⟩)⟩, ⟨by (with_reducible repeat (first | apply Kd.R_alloc | apply Kd.R_drewN | apply Kd.R_drew)); exact Kd.R_mono HO_358000.out (fun _ hk => ⟨hk.1.1, hk.1.2⟩)⟩, ⟨by (with_reducible repeat (first | apply Kd.R_alloc | apply Kd.R_drewN | apply Kd.R_drew)); exact Kd.R_mono HO_363000.out (fun _ hk => ⟨hk.1, hk.2.1⟩)⟩, ⟨by (with_reducible repeat (first | refine blk_drewN ?_ _ | refine blk_drew ?_ | refine blk_alloc ?_ _)); exact BK344.out⟩, ⟨by (with_reducible repeat (first | refine blk_drewN ?_ _ | refine blk_drew ?_ | refine blk_alloc ?_ _)); exact BK353.out⟩, ⟨by (with_reducible repeat (first | refine blk_drewN ?_ _ | refine blk_drew ?_ | refine blk_alloc ?_ _)); exact BK357.out⟩, ⟨by (with_reducible repeat (first | refine blk_drewN ?_ _ | refine blk_drew ?_ | refine blk_alloc ?_ _)); exact BK362.out⟩, ⟨by repeat (first | (with_reducible first | exact HB.out | apply below_alloc | apply pw_below_drewN | apply below_drew1 | refine below_set ?_ GE344.out | refine below_set ?_ GE353.out | refine below_set ?_ GE357.out | refine below_set ?_ GE362.out) | exact HB.out)⟩⟩
      case rest =>
       clear HC60
       try clear c2
       try clear p2
       try clear c3
       try clear c3b0
       try clear c4
       try clear c5
       try clear c6
       try clear c7
       try clear c8
       try clear c21
       try clear c27
       try clear c28
       try clear c33
       try clear c34
       try clear c35
       try clear c38
       try clear c39
       try clear c40
       try clear c41
       try clear c43
       try clear c44
       try clear c46
       try clear c47
       try clear c48
       try clear c49
       try clear c50
       try clear c51
       try clear c52
       try clear c55
       try clear c58
       try clear c65
       try clear c66
       try clear c67
       try clear c70
       try clear c70b0
       try clear c72
       try clear c73
       try clear c74
       try clear c75
       try clear c77
       try clear c78
       try clear c81
       try clear c82
       try clear c83
       try clear c85
       try clear c86
       try clear hcz13_0
       try clear hcz15_0
       try clear hcz22_0
       try clear hcz23_0
       try clear hcz29_0
       try clear hcz36_0
       try clear hcz42_0
       try clear hcz45_0
       try clear hcz50_0
       try clear hcz53_0
       try clear hcz5_0
       try clear hcz68_0
       try clear hcz76_0
       try clear hcz79_0
       try clear hcz84_0
       try clear hcz87_0
       try clear hfz13_0
       try clear hfz15_0
       try clear hfz22_0
       try clear hfz23_0
       try clear hfz29_0
       try clear hfz36_0
       try clear hfz42_0
       try clear hfz45_0
       try clear hfz50_0
       try clear hfz53_0
       try clear hfz5_0
       try clear hfz68_0
       try clear hfz76_0
       try clear hfz79_0
       try clear hfz84_0
       try clear hfz87_0
       try clear p2
       obtain ⟨kq, x61_59, rfl, HA, HJ59, HO_354000, HO_358000, HO_363000, BK344, BK353, BK357, BK362, HB⟩ := hcut
       have hl358000_59 := (Kd.R_reads' HO_358000.out).1
       rw [hl358000_59] at HO_358000
       (try simp only [hl358000_59])
       (try simp only [hl358000_59] at BK344)
       (try simp only [hl358000_59] at BK353)
       (try simp only [hl358000_59] at BK357)
       (try simp only [hl358000_59] at BK362)
       (try simp only [hl358000_59] at HO_354000)
       (try simp only [hl358000_59] at HO_363000)
       cases kq with
       | zero => exact absurd HA.out (by simp [laws_FnExactBlowUp.j1])
       | succ kj59 =>
        have H := HA.out
        clear HA
        simp only [laws_FnExactBlowUp.j1] at H
        by_cases c89 : x61_59 = true
        ·subst c89
         have H1 : (some false) = some r := by rw [if_pos rfl] at H; exact H
         clear H
         have H := H1
         clear H1
         obtain rfl := Option.some.inj H
         go_wp2
         go_ret
         exact ⟨by first | rfl | (simp [errW_none, errW_some] <;> rfl) | (simp [*, errW_none, errW_some] <;> rfl), by repeat (first | (with_reducible first | exact HB.out | apply below_alloc | apply pw_below_drewN | apply below_drew1 | refine below_set ?_ GE344.out | refine below_set ?_ GE353.out | refine below_set ?_ GE357.out | refine below_set ?_ GE362.out) | exact HB.out)⟩
        ·replace c89 := Bool.eq_false_iff.mpr c89
         subst c89
         have H1 : ((laws_markSemigroup.f kj59 t358 1).bind fun bt371 => ((laws_heldSemigroup.f kj59 bt371.2 1).bind fun t373 => (if t373 < 0 then (some false) else (if t373 = bt371.1 then ((laws_toSemigroup.f kj59 l0_0).bind fun t374 => ((impl_BlowUp.f kj59 t374).bind fun bt377 => ((laws_eqSemigroup.f kj59 bt377.1 t349).bind fun t382 => (if t382 = true then (laws_FnExactBlowUp.j2 kj59 bt371.1 (bt377.2 != t352) bt371.2) else (laws_FnExactBlowUp.j2 kj59 bt371.1 true bt371.2))))) else (some false))))) = some r := by rw [if_neg (show ¬ (false = true) by decide)] at H; exact H
         clear H
         have H := H1
         clear H1
         replace H := Option.bind_eq_some_iff.mp H
         obtain ⟨⟨t371, t372⟩, A900, H⟩ := H
         replace H : ((laws_heldSemigroup.f kj59 t372 1).bind fun t373 => (if t373 < 0 then (some false) else (if t373 = t371 then ((laws_toSemigroup.f kj59 l0_0).bind fun t374 => ((impl_BlowUp.f kj59 t374).bind fun bt377 => ((laws_eqSemigroup.f kj59 bt377.1 t349).bind fun t382 => (if t382 = true then (laws_FnExactBlowUp.j2 kj59 t371 (bt377.2 != t352) t372) else (laws_FnExactBlowUp.j2 kj59 t371 true t372))))) else (some false)))) = some r := H
         have A90 := Aside0.mk A900
         clear A900
         replace H := Option.bind_eq_some_iff.mp H
         obtain ⟨t373, A910, H⟩ := H
         replace H : (if t373 < 0 then (some false) else (if t373 = t371 then ((laws_toSemigroup.f kj59 l0_0).bind fun t374 => ((impl_BlowUp.f kj59 t374).bind fun bt377 => ((laws_eqSemigroup.f kj59 bt377.1 t349).bind fun t382 => (if t382 = true then (laws_FnExactBlowUp.j2 kj59 t371 (bt377.2 != t352) t372) else (laws_FnExactBlowUp.j2 kj59 t371 true t372))))) else (some false))) = some r := H
         have A91 := Aside0.mk A910
         clear A910
         by_cases c92 : t373 < 0
         ·rw [if_pos c92] at H
          have c92b0 : decide (t373 < 0) = true := decide_eq_true c92
          clear c92
          obtain rfl := Option.some.inj H
          have hnb93 := NB362_344.out
          have hnc93 := NB344_362.out
          have hnb94 := NB362_353.out
          have hnc94 := NB353_362.out
          have hnb95 := NB362_357.out
          have hnc95 := NB357_362.out
          have hcz96_0 : wc.cell? ⟨gb362, 0, none⟩ = some (.slice Ao32 t358.length co32) := (blk_cell BK362.out 0).trans rfl
          have hfz96_0 := blk_frozen BK362.out 0
          go_wp2_with (first | ((with_reducible refine gate_callee (f := 51) rfl ?_); refine goesL_ (some 64) rfl rfl Try.func51 (by kernel_rfl) rfl #[.agg #[.slice Ao32 t358.length co32], .int .i64 1] rfl (by (try simp only [List.map_toArray, List.map_cons, List.map_nil]); first | done | rfl | (simp only [List.length_drop, List.length_take]; rfl)) ?_; (with_reducible refine (laws_markSemigroup.calls kj59 (fun k_ => some k_ = (.slice Ao32 t358.length co32 : Value).ownBlock) (.slice Ao32 t358.length co32) t358 1 t371 t372 w _ ?side1 ?side2 A90.out).mono ?_); (case side1 => repeat (first | (with_reducible first | exact HB.out | apply below_alloc | apply pw_below_drewN | apply below_drew1 | refine below_set ?_ GE344.out | refine below_set ?_ GE353.out | refine below_set ?_ GE357.out | refine below_set ?_ GE362.out) | exact HB.out)); (case side2 => exact Kd.R_tight rfl HO_363000.out); rintro e w97 ⟨rfl, hy0, hb, hkp⟩; refine ⟨_, rfl, ?_⟩; have n0_ := Aside0.mk (Kd.R_mono (ok' := fun k_ => some k_ ≠ (.slice Ao26 t369.length co26 : Value).ownBlock ∧ some k_ ≠ (.slice Ao32 t358.length co32 : Value).ownBlock) (Kd.R_keptB (HO_354000.out) hkp (fun k_ hk_ hs_ => (hk_.2) hs_)) (fun k_ hk_ => ⟨hk_.1.1, hk_.1.2⟩)); have n1_ := Aside0.mk (Kd.R_mono (ok' := fun k_ => some k_ ≠ (.slice Ao20 t349.length co20 : Value).ownBlock ∧ some k_ ≠ (.slice Ao32 t358.length co32 : Value).ownBlock) (Kd.R_keptB (HO_358000.out) hkp (fun k_ hk_ hs_ => (hk_.2) hs_)) (fun k_ hk_ => ⟨hk_.1.1, hk_.1.2⟩)); have n2_ := Aside0.mk (Kd.R_reok rfl hy0 (fun k_ e_ => HO_363000.out.1 k_ e_)); have n3_ := Aside0.mk (blk_kept (by (with_reducible repeat (first | refine blk_drewN ?_ _ | refine blk_drew ?_ | refine blk_alloc ?_ _)); exact BK344.out) hkp (fun hs_ => (fun e_ => (Kd.R_ne HO_363000.out BK344.out (by decide)) e_) hs_)); have n4_ := Aside0.mk (blk_kept (by (with_reducible repeat (first | refine blk_drewN ?_ _ | refine blk_drew ?_ | refine blk_alloc ?_ _)); exact BK353.out) hkp (fun hs_ => (fun e_ => (Kd.R_ne HO_363000.out BK353.out (by decide)) e_) hs_)); have n5_ := Aside0.mk (blk_kept (by (with_reducible repeat (first | refine blk_drewN ?_ _ | refine blk_drew ?_ | refine blk_alloc ?_ _)); exact BK357.out) hkp (fun hs_ => (fun e_ => (Kd.R_ne HO_363000.out BK357.out (by decide)) e_) hs_)); have n6_ := Aside0.mk (blk_kept (by (with_reducible repeat (first | refine blk_drewN ?_ _ | refine blk_drew ?_ | refine blk_alloc ?_ _)); exact BK362.out) hkp (fun hs_ => (fun e_ => (Kd.R_ne HO_363000.out BK362.out (by decide)) e_) hs_)); have n7_ := Aside0.mk (hb); clear HO_354000; clear HO_358000; clear HO_363000; clear BK344; clear BK353; clear BK357; clear BK362; clear HB; have HO_354000 := n0_; have HO_358000 := n1_; have HO_363000 := n2_; have BK344 := n3_; have BK353 := n4_; have BK357 := n5_; have BK362 := n6_; have HB := n7_; clear n0_ n1_ n2_ n3_ n4_ n5_ n6_ n7_; (try clear hb); (try clear hkp); (try clear hy0); have hcz98_0 : w97.cell? ⟨gb362, 0, none⟩ = some (.slice Ao32 t358.length co32) := (blk_cell BK362.out 0).trans rfl; have hfz98_0 := blk_frozen BK362.out 0) | ((with_reducible refine gate_callee (f := 52) rfl ?_); refine goesL_ (some 67) rfl rfl Try.func52 (by kernel_rfl) rfl #[.agg #[.slice Ao32 t372.length co32], .int .i64 1] rfl (by (try simp only [List.map_toArray, List.map_cons, List.map_nil]); first | done | (rw [show t372.length = t358.length from (Kd.R_reads' HO_363000.out).1.symm] <;> rfl) | rfl | (simp only [List.length_drop, List.length_take]; rfl)) ?_; (with_reducible refine (laws_heldSemigroup.calls kj59 _ _ t372 1 t373 _ ?side1 ?side2 A91.out).mono ?_); (case side1 => repeat (first | exact (Kd.R_reads' HO_363000.out).2.2 | (with_reducible refine Kd.C_alloc ?_ _) | (with_reducible refine Kd.C_drewN ?_ _) | (with_reducible refine Kd.C_drew ?_))); (case side2 => rw [show t372.length = t358.length from (Kd.R_reads' HO_363000.out).1.symm]; exact (Kd.R_reads' HO_363000.out).2.1); rintro e w99 ⟨rfl, hb⟩; refine ⟨_, rfl, ?_⟩; have n0_ := Aside0.mk (Kd.R_below (by (with_reducible repeat (first | apply Kd.R_alloc | apply Kd.R_drewN | apply Kd.R_drew)); exact HO_354000.out) hb); have n1_ := Aside0.mk (Kd.R_below (by (with_reducible repeat (first | apply Kd.R_alloc | apply Kd.R_drewN | apply Kd.R_drew)); exact HO_358000.out) hb); have n2_ := Aside0.mk (Kd.R_below (by (with_reducible repeat (first | apply Kd.R_alloc | apply Kd.R_drewN | apply Kd.R_drew)); exact HO_363000.out) hb); have n3_ := Aside0.mk (blk_below (g := gb344) (o := .cells #[.slice A0_0 l0_0.length c0_0] 46 (0, 0)) (by (with_reducible repeat (first | refine blk_drewN ?_ _ | refine blk_drew ?_ | refine blk_alloc ?_ _)); exact BK344.out) hb); have n4_ := Aside0.mk (blk_below (g := gb353) (o := .cells #[.slice Ao20 t349.length co20] 41 (0, 0)) (by (with_reducible repeat (first | refine blk_drewN ?_ _ | refine blk_drew ?_ | refine blk_alloc ?_ _)); exact BK353.out) hb); have n5_ := Aside0.mk (blk_below (g := gb357) (o := .cells #[.slice Ao26 t369.length co26] 41 (0, 0)) (by (with_reducible repeat (first | refine blk_drewN ?_ _ | refine blk_drew ?_ | refine blk_alloc ?_ _)); exact BK357.out) hb); have n6_ := Aside0.mk (blk_below (g := gb362) (o := .cells #[.slice Ao32 t358.length co32] 41 (0, 0)) (by (with_reducible repeat (first | refine blk_drewN ?_ _ | refine blk_drew ?_ | refine blk_alloc ?_ _)); exact BK362.out) hb); have n7_ := Aside0.mk (below_step (by repeat (first | (with_reducible first | exact HB.out | apply below_alloc | apply pw_below_drewN | apply below_drew1 | refine below_set ?_ GE344.out | refine below_set ?_ GE353.out | refine below_set ?_ GE357.out | refine below_set ?_ GE362.out) | exact HB.out)) hb); clear HO_354000; clear HO_358000; clear HO_363000; clear BK344; clear BK353; clear BK357; clear BK362; clear HB; have HO_354000 := n0_; have HO_358000 := n1_; have HO_363000 := n2_; have BK344 := n3_; have BK353 := n4_; have BK357 := n5_; have BK362 := n6_; have HB := n7_; clear n0_ n1_ n2_ n3_ n4_ n5_ n6_ n7_; (try clear hb); (try clear hb2); (try clear hk); (try clear hi)))
          go_ret
          exact ⟨by first | rfl | (simp [errW_none, errW_some] <;> rfl) | (simp [*, errW_none, errW_some] <;> rfl), by repeat (first | (with_reducible first | exact HB.out | apply below_alloc | apply pw_below_drewN | apply below_drew1 | refine below_set ?_ GE344.out | refine below_set ?_ GE353.out | refine below_set ?_ GE357.out | refine below_set ?_ GE362.out) | exact HB.out)⟩
         ·rw [if_neg c92] at H
          have c92b0 : decide (t373 < 0) = false := decide_eq_false c92
          clear c92
          by_cases c100 : t373 = t371
          ·rw [if_pos c100] at H
           have c100b0 : (t373 == t371) = true := beq_iff_eq.mpr c100
           have c100b1 : (t373 != t371) = false := bne_eq_false_iff_eq.mpr c100
           clear c100
           replace H := Option.bind_eq_some_iff.mp H
           obtain ⟨t374, A1010, H⟩ := H
           replace H : ((impl_BlowUp.f kj59 t374).bind fun bt377 => ((laws_eqSemigroup.f kj59 bt377.1 t349).bind fun t382 => (if t382 = true then (laws_FnExactBlowUp.j2 kj59 t371 (bt377.2 != t352) t372) else (laws_FnExactBlowUp.j2 kj59 t371 true t372)))) = some r := H
           have A101 := Aside0.mk A1010
           clear A1010
           replace H := Option.bind_eq_some_iff.mp H
           obtain ⟨⟨t377, t380⟩, A1020, H⟩ := H
           replace H : ((laws_eqSemigroup.f kj59 t377 t349).bind fun t382 => (if t382 = true then (laws_FnExactBlowUp.j2 kj59 t371 (t380 != t352) t372) else (laws_FnExactBlowUp.j2 kj59 t371 true t372))) = some r := H
           have A102 := Aside0.mk A1020
           clear A1020
           have HC103 := Aside0.mk H
           clear H
           have hnb104 := NB362_344.out
           have hnc104 := NB344_362.out
           have hnb105 := NB362_353.out
           have hnc105 := NB353_362.out
           have hnb106 := NB362_357.out
           have hnc106 := NB357_362.out
           have hcz107_0 : wc.cell? ⟨gb362, 0, none⟩ = some (.slice Ao32 t358.length co32) := (blk_cell BK362.out 0).trans rfl
           have hfz107_0 := blk_frozen BK362.out 0
           go_upto_region 25 with (first | ((with_reducible refine gate_callee (f := 51) rfl ?_); refine goesL_ (some 64) rfl rfl Try.func51 (by kernel_rfl) rfl #[.agg #[.slice Ao32 t358.length co32], .int .i64 1] rfl (by (try simp only [List.map_toArray, List.map_cons, List.map_nil]); first | done | rfl | (simp only [List.length_drop, List.length_take]; rfl)) ?_; (with_reducible refine (laws_markSemigroup.calls kj59 (fun k_ => some k_ = (.slice Ao32 t358.length co32 : Value).ownBlock) (.slice Ao32 t358.length co32) t358 1 t371 t372 w _ ?side1 ?side2 A90.out).mono ?_); (case side1 => repeat (first | (with_reducible first | exact HB.out | apply below_alloc | apply pw_below_drewN | apply below_drew1 | refine below_set ?_ GE344.out | refine below_set ?_ GE353.out | refine below_set ?_ GE357.out | refine below_set ?_ GE362.out) | exact HB.out)); (case side2 => exact Kd.R_tight rfl HO_363000.out); rintro e w108 ⟨rfl, hy0, hb, hkp⟩; refine ⟨_, rfl, ?_⟩; have n0_ := Aside0.mk (Kd.R_mono (ok' := fun k_ => some k_ ≠ (.slice Ao26 t369.length co26 : Value).ownBlock ∧ some k_ ≠ (.slice Ao32 t358.length co32 : Value).ownBlock) (Kd.R_keptB (HO_354000.out) hkp (fun k_ hk_ hs_ => (hk_.2) hs_)) (fun k_ hk_ => ⟨hk_.1.1, hk_.1.2⟩)); have n1_ := Aside0.mk (Kd.R_mono (ok' := fun k_ => some k_ ≠ (.slice Ao20 t349.length co20 : Value).ownBlock ∧ some k_ ≠ (.slice Ao32 t358.length co32 : Value).ownBlock) (Kd.R_keptB (HO_358000.out) hkp (fun k_ hk_ hs_ => (hk_.2) hs_)) (fun k_ hk_ => ⟨hk_.1.1, hk_.1.2⟩)); have n2_ := Aside0.mk (Kd.R_reok rfl hy0 (fun k_ e_ => HO_363000.out.1 k_ e_)); have n3_ := Aside0.mk (blk_kept (by (with_reducible repeat (first | refine blk_drewN ?_ _ | refine blk_drew ?_ | refine blk_alloc ?_ _)); exact BK344.out) hkp (fun hs_ => (fun e_ => (Kd.R_ne HO_363000.out BK344.out (by decide)) e_) hs_)); have n4_ := Aside0.mk (blk_kept (by (with_reducible repeat (first | refine blk_drewN ?_ _ | refine blk_drew ?_ | refine blk_alloc ?_ _)); exact BK353.out) hkp (fun hs_ => (fun e_ => (Kd.R_ne HO_363000.out BK353.out (by decide)) e_) hs_)); have n5_ := Aside0.mk (blk_kept (by (with_reducible repeat (first | refine blk_drewN ?_ _ | refine blk_drew ?_ | refine blk_alloc ?_ _)); exact BK357.out) hkp (fun hs_ => (fun e_ => (Kd.R_ne HO_363000.out BK357.out (by decide)) e_) hs_)); have n6_ := Aside0.mk (blk_kept (by (with_reducible repeat (first | refine blk_drewN ?_ _ | refine blk_drew ?_ | refine blk_alloc ?_ _)); exact BK362.out) hkp (fun hs_ => (fun e_ => (Kd.R_ne HO_363000.out BK362.out (by decide)) e_) hs_)); have n7_ := Aside0.mk (hb); clear HO_354000; clear HO_358000; clear HO_363000; clear BK344; clear BK353; clear BK357; clear BK362; clear HB; have HO_354000 := n0_; have HO_358000 := n1_; have HO_363000 := n2_; have BK344 := n3_; have BK353 := n4_; have BK357 := n5_; have BK362 := n6_; have HB := n7_; clear n0_ n1_ n2_ n3_ n4_ n5_ n6_ n7_; (try clear hb); (try clear hkp); (try clear hy0); have hcz109_0 : w108.cell? ⟨gb362, 0, none⟩ = some (.slice Ao32 t358.length co32) := (blk_cell BK362.out 0).trans rfl; have hfz109_0 := blk_frozen BK362.out 0) | ((with_reducible refine gate_callee (f := 52) rfl ?_); refine goesL_ (some 67) rfl rfl Try.func52 (by kernel_rfl) rfl #[.agg #[.slice Ao32 t372.length co32], .int .i64 1] rfl (by (try simp only [List.map_toArray, List.map_cons, List.map_nil]); first | done | (rw [show t372.length = t358.length from (Kd.R_reads' HO_363000.out).1.symm] <;> rfl) | rfl | (simp only [List.length_drop, List.length_take]; rfl)) ?_; (with_reducible refine (laws_heldSemigroup.calls kj59 _ _ t372 1 t373 _ ?side1 ?side2 A91.out).mono ?_); (case side1 => repeat (first | exact (Kd.R_reads' HO_363000.out).2.2 | (with_reducible refine Kd.C_alloc ?_ _) | (with_reducible refine Kd.C_drewN ?_ _) | (with_reducible refine Kd.C_drew ?_))); (case side2 => rw [show t372.length = t358.length from (Kd.R_reads' HO_363000.out).1.symm]; exact (Kd.R_reads' HO_363000.out).2.1); rintro e w110 ⟨rfl, hb⟩; refine ⟨_, rfl, ?_⟩; have n0_ := Aside0.mk (Kd.R_below (by (with_reducible repeat (first | apply Kd.R_alloc | apply Kd.R_drewN | apply Kd.R_drew)); exact HO_354000.out) hb); have n1_ := Aside0.mk (Kd.R_below (by (with_reducible repeat (first | apply Kd.R_alloc | apply Kd.R_drewN | apply Kd.R_drew)); exact HO_358000.out) hb); have n2_ := Aside0.mk (Kd.R_below (by (with_reducible repeat (first | apply Kd.R_alloc | apply Kd.R_drewN | apply Kd.R_drew)); exact HO_363000.out) hb); have n3_ := Aside0.mk (blk_below (g := gb344) (o := .cells #[.slice A0_0 l0_0.length c0_0] 46 (0, 0)) (by (with_reducible repeat (first | refine blk_drewN ?_ _ | refine blk_drew ?_ | refine blk_alloc ?_ _)); exact BK344.out) hb); have n4_ := Aside0.mk (blk_below (g := gb353) (o := .cells #[.slice Ao20 t349.length co20] 41 (0, 0)) (by (with_reducible repeat (first | refine blk_drewN ?_ _ | refine blk_drew ?_ | refine blk_alloc ?_ _)); exact BK353.out) hb); have n5_ := Aside0.mk (blk_below (g := gb357) (o := .cells #[.slice Ao26 t369.length co26] 41 (0, 0)) (by (with_reducible repeat (first | refine blk_drewN ?_ _ | refine blk_drew ?_ | refine blk_alloc ?_ _)); exact BK357.out) hb); have n6_ := Aside0.mk (blk_below (g := gb362) (o := .cells #[.slice Ao32 t358.length co32] 41 (0, 0)) (by (with_reducible repeat (first | refine blk_drewN ?_ _ | refine blk_drew ?_ | refine blk_alloc ?_ _)); exact BK362.out) hb); have n7_ := Aside0.mk (below_step (by repeat (first | (with_reducible first | exact HB.out | apply below_alloc | apply pw_below_drewN | apply below_drew1 | refine below_set ?_ GE344.out | refine below_set ?_ GE353.out | refine below_set ?_ GE357.out | refine below_set ?_ GE362.out) | exact HB.out)) hb); clear HO_354000; clear HO_358000; clear HO_363000; clear BK344; clear BK353; clear BK357; clear BK362; clear HB; have HO_354000 := n0_; have HO_358000 := n1_; have HO_363000 := n2_; have BK344 := n3_; have BK353 := n4_; have BK357 := n5_; have BK362 := n6_; have HB := n7_; clear n0_ n1_ n2_ n3_ n4_ n5_ n6_ n7_; (try clear hb); (try clear hb2); (try clear hk); (try clear hi); have hnb111 := NB344_353.out; have hnc111 := NB353_344.out; have hnb112 := NB344_357.out; have hnc112 := NB357_344.out; have hcz113_0 : w110.cell? ⟨gb344, 0, none⟩ = some (.slice A0_0 l0_0.length c0_0) := (blk_cell BK344.out 0).trans rfl; have hfz113_0 := blk_frozen BK344.out 0) | ((with_reducible refine gate_callee (f := 48) rfl ?_); refine goesL_ (some 75) rfl rfl Try.func48 (by kernel_rfl) rfl #[.agg #[.slice A0_0 l0_0.length c0_0]] rfl (by (try simp only [List.map_toArray, List.map_cons, List.map_nil]); first | done | rfl | (simp only [List.length_drop, List.length_take]; rfl)) ?_; (with_reducible refine (laws_toSemigroup.calls kj59 _ _ l0_0 t374 _ ?side1 ?side2 A101.out).mono ?_); (case side1 => repeat (first | exact (Kd.C_below HR0_0.out HB.out) | exact HR0_0.out | (with_reducible refine Kd.C_alloc ?_ _) | (with_reducible refine Kd.C_drewN ?_ _) | (with_reducible refine Kd.C_drew ?_))); (case side2 => exact HC0_0.out); rintro e w114 ⟨v375, rfl, ho0, hb⟩; refine ⟨_, rfl, ?_⟩; have n0_ := Aside0.mk (Kd.R_elder' (by (with_reducible repeat (first | apply Kd.R_alloc | apply Kd.R_drewN | apply Kd.R_drew)); exact HO_354000.out) (Kd.R_base ho0) hb); have n1_ := Aside0.mk (Kd.R_elder' (by (with_reducible repeat (first | apply Kd.R_alloc | apply Kd.R_drewN | apply Kd.R_drew)); exact HO_358000.out) (Kd.R_base ho0) hb); have n2_ := Aside0.mk (Kd.R_elder' (by (with_reducible repeat (first | apply Kd.R_alloc | apply Kd.R_drewN | apply Kd.R_drew)); exact HO_363000.out) (Kd.R_base ho0) hb); have n3_ := Aside0.mk (Kd.R_lower (Kd.R_new' (Kd.R_new' (Kd.R_new' ho0 (Kd.R_lt (by (with_reducible repeat (first | apply Kd.R_alloc | apply Kd.R_drewN | apply Kd.R_drew)); exact HO_354000.out))) (Kd.R_lt (by (with_reducible repeat (first | apply Kd.R_alloc | apply Kd.R_drewN | apply Kd.R_drew)); exact HO_358000.out))) (Kd.R_lt (by (with_reducible repeat (first | apply Kd.R_alloc | apply Kd.R_drewN | apply Kd.R_drew)); exact HO_363000.out))) (below_size (by repeat (first | (with_reducible first | exact HB.out | apply below_alloc | apply pw_below_drewN | apply below_drew1 | refine below_set ?_ GE344.out | refine below_set ?_ GE353.out | refine below_set ?_ GE357.out | refine below_set ?_ GE362.out) | exact HB.out)))); have n4_ := Aside0.mk (blk_below (g := gb344) (o := .cells #[.slice A0_0 l0_0.length c0_0] 46 (0, 0)) (by (with_reducible repeat (first | refine blk_drewN ?_ _ | refine blk_drew ?_ | refine blk_alloc ?_ _)); exact BK344.out) hb); have n5_ := Aside0.mk (blk_below (g := gb353) (o := .cells #[.slice Ao20 t349.length co20] 41 (0, 0)) (by (with_reducible repeat (first | refine blk_drewN ?_ _ | refine blk_drew ?_ | refine blk_alloc ?_ _)); exact BK353.out) hb); have n6_ := Aside0.mk (blk_below (g := gb357) (o := .cells #[.slice Ao26 t369.length co26] 41 (0, 0)) (by (with_reducible repeat (first | refine blk_drewN ?_ _ | refine blk_drew ?_ | refine blk_alloc ?_ _)); exact BK357.out) hb); have n7_ := Aside0.mk (blk_below (g := gb362) (o := .cells #[.slice Ao32 t358.length co32] 41 (0, 0)) (by (with_reducible repeat (first | refine blk_drewN ?_ _ | refine blk_drew ?_ | refine blk_alloc ?_ _)); exact BK362.out) hb); have n8_ := Aside0.mk (below_step (by repeat (first | (with_reducible first | exact HB.out | apply below_alloc | apply pw_below_drewN | apply below_drew1 | refine below_set ?_ GE344.out | refine below_set ?_ GE353.out | refine below_set ?_ GE357.out | refine below_set ?_ GE362.out) | exact HB.out)) hb); clear HO_354000; clear HO_358000; clear HO_363000; clear BK344; clear BK353; clear BK357; clear BK362; clear HB; have HO_354000 := n0_; have HO_358000 := n1_; have HO_363000 := n2_; have HO376 := n3_; have BK344 := n4_; have BK353 := n5_; have BK357 := n6_; have BK362 := n7_; have HB := n8_; clear n0_ n1_ n2_ n3_ n4_ n5_ n6_ n7_ n8_; (try clear hb); (try clear hb2); (try clear hk); (try clear hi); (try clear ho0); obtain ⟨Ao115, co115, eo115⟩ := Kd.R_slice HO376.out; subst eo115) | ((with_reducible refine gate_callee (f := 49) rfl ?_); refine goesL_ (some 76) rfl rfl Try.func49 (by kernel_rfl) rfl #[.agg #[.slice Ao115 t374.length co115]] rfl (by (try simp only [List.map_toArray, List.map_cons, List.map_nil]); first | done | rfl | (simp only [List.length_drop, List.length_take]; rfl)) ?_; (with_reducible refine (impl_BlowUp.calls kj59 _ _ t374 t377 t380 _ ?side1 ?side2 A102.out).mono ?_); (case side1 => repeat (first | exact (Kd.R_reads' HO376.out).2.2 | (with_reducible refine Kd.C_alloc ?_ _) | (with_reducible refine Kd.C_drewN ?_ _) | (with_reducible refine Kd.C_drew ?_))); (case side2 => exact (Kd.R_reads' HO376.out).2.1); rintro e w116 ⟨v378, rfl, ho0, hb⟩; refine ⟨_, rfl, ?_⟩; have n0_ := Aside0.mk (Kd.R_elder' (by (with_reducible repeat (first | apply Kd.R_alloc | apply Kd.R_drewN | apply Kd.R_drew)); exact HO_354000.out) (Kd.R_base ho0) hb); have n1_ := Aside0.mk (Kd.R_elder' (by (with_reducible repeat (first | apply Kd.R_alloc | apply Kd.R_drewN | apply Kd.R_drew)); exact HO_358000.out) (Kd.R_base ho0) hb); have n2_ := Aside0.mk (Kd.R_elder' (by (with_reducible repeat (first | apply Kd.R_alloc | apply Kd.R_drewN | apply Kd.R_drew)); exact HO_363000.out) (Kd.R_base ho0) hb); have n3_ := Aside0.mk (Kd.R_elder' (by (with_reducible repeat (first | apply Kd.R_alloc | apply Kd.R_drewN | apply Kd.R_drew)); exact HO376.out) (Kd.R_base ho0) hb); have n4_ := Aside0.mk (Kd.R_lower (Kd.R_new' (Kd.R_new' (Kd.R_new' (Kd.R_new' ho0 (Kd.R_lt (by (with_reducible repeat (first | apply Kd.R_alloc | apply Kd.R_drewN | apply Kd.R_drew)); exact HO_354000.out))) (Kd.R_lt (by (with_reducible repeat (first | apply Kd.R_alloc | apply Kd.R_drewN | apply Kd.R_drew)); exact HO_358000.out))) (Kd.R_lt (by (with_reducible repeat (first | apply Kd.R_alloc | apply Kd.R_drewN | apply Kd.R_drew)); exact HO_363000.out))) (Kd.R_lt (by (with_reducible repeat (first | apply Kd.R_alloc | apply Kd.R_drewN | apply Kd.R_drew)); exact HO376.out))) (below_size (by repeat (first | (with_reducible first | exact HB.out | apply below_alloc | apply pw_below_drewN | apply below_drew1 | refine below_set ?_ GE344.out | refine below_set ?_ GE353.out | refine below_set ?_ GE357.out | refine below_set ?_ GE362.out) | exact HB.out)))); have n5_ := Aside0.mk (blk_below (g := gb344) (o := .cells #[.slice A0_0 l0_0.length c0_0] 46 (0, 0)) (by (with_reducible repeat (first | refine blk_drewN ?_ _ | refine blk_drew ?_ | refine blk_alloc ?_ _)); exact BK344.out) hb); have n6_ := Aside0.mk (blk_below (g := gb353) (o := .cells #[.slice Ao20 t349.length co20] 41 (0, 0)) (by (with_reducible repeat (first | refine blk_drewN ?_ _ | refine blk_drew ?_ | refine blk_alloc ?_ _)); exact BK353.out) hb); have n7_ := Aside0.mk (blk_below (g := gb357) (o := .cells #[.slice Ao26 t369.length co26] 41 (0, 0)) (by (with_reducible repeat (first | refine blk_drewN ?_ _ | refine blk_drew ?_ | refine blk_alloc ?_ _)); exact BK357.out) hb); have n8_ := Aside0.mk (blk_below (g := gb362) (o := .cells #[.slice Ao32 t358.length co32] 41 (0, 0)) (by (with_reducible repeat (first | refine blk_drewN ?_ _ | refine blk_drew ?_ | refine blk_alloc ?_ _)); exact BK362.out) hb); have n9_ := Aside0.mk (below_step (by repeat (first | (with_reducible first | exact HB.out | apply below_alloc | apply pw_below_drewN | apply below_drew1 | refine below_set ?_ GE344.out | refine below_set ?_ GE353.out | refine below_set ?_ GE357.out | refine below_set ?_ GE362.out) | exact HB.out)) hb); clear HO_354000; clear HO_358000; clear HO_363000; clear HO376; clear BK344; clear BK353; clear BK357; clear BK362; clear HB; have HO_354000 := n0_; have HO_358000 := n1_; have HO_363000 := n2_; have HO376 := n3_; have HO379 := n4_; have BK344 := n5_; have BK353 := n6_; have BK357 := n7_; have BK362 := n8_; have HB := n9_; clear n0_ n1_ n2_ n3_ n4_ n5_ n6_ n7_ n8_ n9_; (try clear hb); (try clear hb2); (try clear hk); (try clear hi); (try clear ho0)) | ((with_reducible refine gate_dst (N := 12) rfl ?_); refine box_event ?hg (N := 12) ?hd (cs := #[.slice none 0 0]) (t := 41) ?hr ?_; (case hd => rfl); (case hg => rfl); (case hr => first | (go_simp; done) | (go_simp; rfl)); intro gb381 hg w117 hbox hb; have n0_ := Aside0.mk (Kd.R_below (by (with_reducible repeat (first | apply Kd.R_alloc | apply Kd.R_drewN | apply Kd.R_drew)); exact HO_354000.out) hb); have n1_ := Aside0.mk (Kd.R_below (by (with_reducible repeat (first | apply Kd.R_alloc | apply Kd.R_drewN | apply Kd.R_drew)); exact HO_358000.out) hb); have n2_ := Aside0.mk (Kd.R_below (by (with_reducible repeat (first | apply Kd.R_alloc | apply Kd.R_drewN | apply Kd.R_drew)); exact HO_363000.out) hb); have n3_ := Aside0.mk (Kd.R_below (by (with_reducible repeat (first | apply Kd.R_alloc | apply Kd.R_drewN | apply Kd.R_drew)); exact HO376.out) hb); have n4_ := Aside0.mk (Kd.R_below (by (with_reducible repeat (first | apply Kd.R_alloc | apply Kd.R_drewN | apply Kd.R_drew)); exact HO379.out) hb); have n5_ := Aside0.mk (blk_below (g := gb344) (o := .cells #[.slice A0_0 l0_0.length c0_0] 46 (0, 0)) (by (with_reducible repeat (first | refine blk_drewN ?_ _ | refine blk_drew ?_ | refine blk_alloc ?_ _)); exact BK344.out) hb); have n6_ := Aside0.mk (blk_below (g := gb353) (o := .cells #[.slice Ao20 t349.length co20] 41 (0, 0)) (by (with_reducible repeat (first | refine blk_drewN ?_ _ | refine blk_drew ?_ | refine blk_alloc ?_ _)); exact BK353.out) hb); have n7_ := Aside0.mk (blk_below (g := gb357) (o := .cells #[.slice Ao26 t369.length co26] 41 (0, 0)) (by (with_reducible repeat (first | refine blk_drewN ?_ _ | refine blk_drew ?_ | refine blk_alloc ?_ _)); exact BK357.out) hb); have n8_ := Aside0.mk (blk_below (g := gb362) (o := .cells #[.slice Ao32 t358.length co32] 41 (0, 0)) (by (with_reducible repeat (first | refine blk_drewN ?_ _ | refine blk_drew ?_ | refine blk_alloc ?_ _)); exact BK362.out) hb); have n9_ := Aside0.mk (below_step (by repeat (first | (with_reducible first | exact HB.out | apply below_alloc | apply pw_below_drewN | apply below_drew1 | refine below_set ?_ GE344.out | refine below_set ?_ GE353.out | refine below_set ?_ GE357.out | refine below_set ?_ GE362.out) | exact HB.out)) hb); have n10_ := Aside0.mk (hbox); have n11_ := Aside0.mk ((by rw [hg]; exact (below_size (by repeat (first | (with_reducible first | exact HB.out | apply below_alloc | apply pw_below_drewN | apply below_drew1 | refine below_set ?_ GE344.out | refine below_set ?_ GE353.out | refine below_set ?_ GE357.out | refine below_set ?_ GE362.out) | exact HB.out))) : w.heap.size ≤ gb381)); have n12_ := Aside0.mk ((by rw [hg]; exact (below_size (by repeat (first | (with_reducible first | exact HB.out | apply below_alloc | apply pw_below_drewN | apply below_drew1 | refine below_set ?_ GE344.out | refine below_set ?_ GE353.out | refine below_set ?_ GE357.out | refine below_set ?_ GE362.out) | exact HB.out))) : w.heap.size ≤ gb381)); have n13_ := Aside0.mk ((by rw [hg]; exact Nat.ne_of_lt (blk_lt (g := gb344) (o := .cells #[.slice A0_0 l0_0.length c0_0] 46 (0, 0)) (by (with_reducible repeat (first | refine blk_drewN ?_ _ | refine blk_drew ?_ | refine blk_alloc ?_ _)); exact BK344.out)) : gb344 ≠ gb381)); have n14_ := Aside0.mk ((by rw [hg]; exact Nat.ne_of_gt (blk_lt (g := gb344) (o := .cells #[.slice A0_0 l0_0.length c0_0] 46 (0, 0)) (by (with_reducible repeat (first | refine blk_drewN ?_ _ | refine blk_drew ?_ | refine blk_alloc ?_ _)); exact BK344.out)) : gb381 ≠ gb344)); have n15_ := Aside0.mk ((by rw [hg]; exact Nat.ne_of_lt (blk_lt (g := gb353) (o := .cells #[.slice Ao20 t349.length co20] 41 (0, 0)) (by (with_reducible repeat (first | refine blk_drewN ?_ _ | refine blk_drew ?_ | refine blk_alloc ?_ _)); exact BK353.out)) : gb353 ≠ gb381)); have n16_ := Aside0.mk ((by rw [hg]; exact Nat.ne_of_gt (blk_lt (g := gb353) (o := .cells #[.slice Ao20 t349.length co20] 41 (0, 0)) (by (with_reducible repeat (first | refine blk_drewN ?_ _ | refine blk_drew ?_ | refine blk_alloc ?_ _)); exact BK353.out)) : gb381 ≠ gb353)); have n17_ := Aside0.mk ((by rw [hg]; exact Nat.ne_of_lt (blk_lt (g := gb357) (o := .cells #[.slice Ao26 t369.length co26] 41 (0, 0)) (by (with_reducible repeat (first | refine blk_drewN ?_ _ | refine blk_drew ?_ | refine blk_alloc ?_ _)); exact BK357.out)) : gb357 ≠ gb381)); have n18_ := Aside0.mk ((by rw [hg]; exact Nat.ne_of_gt (blk_lt (g := gb357) (o := .cells #[.slice Ao26 t369.length co26] 41 (0, 0)) (by (with_reducible repeat (first | refine blk_drewN ?_ _ | refine blk_drew ?_ | refine blk_alloc ?_ _)); exact BK357.out)) : gb381 ≠ gb357)); have n19_ := Aside0.mk ((by rw [hg]; exact Nat.ne_of_lt (blk_lt (g := gb362) (o := .cells #[.slice Ao32 t358.length co32] 41 (0, 0)) (by (with_reducible repeat (first | refine blk_drewN ?_ _ | refine blk_drew ?_ | refine blk_alloc ?_ _)); exact BK362.out)) : gb362 ≠ gb381)); have n20_ := Aside0.mk ((by rw [hg]; exact Nat.ne_of_gt (blk_lt (g := gb362) (o := .cells #[.slice Ao32 t358.length co32] 41 (0, 0)) (by (with_reducible repeat (first | refine blk_drewN ?_ _ | refine blk_drew ?_ | refine blk_alloc ?_ _)); exact BK362.out)) : gb381 ≠ gb362)); clear HO_354000; clear HO_358000; clear HO_363000; clear HO376; clear HO379; clear BK344; clear BK353; clear BK357; clear BK362; clear HB; have HO_354000 := n0_; have HO_358000 := n1_; have HO_363000 := n2_; have HO376 := n3_; have HO379 := n4_; have BK344 := n5_; have BK353 := n6_; have BK357 := n7_; have BK362 := n8_; have HB := n9_; have BK381 := n10_; have GW381 := n11_; have GE381 := n12_; have NB344_381 := n13_; have NB381_344 := n14_; have NB353_381 := n15_; have NB381_353 := n16_; have NB357_381 := n17_; have NB381_357 := n18_; have NB362_381 := n19_; have NB381_362 := n20_; clear n0_ n1_ n2_ n3_ n4_ n5_ n6_ n7_ n8_ n9_ n10_ n11_ n12_ n13_ n14_ n15_ n16_ n17_ n18_ n19_ n20_; clear hb hbox hg; obtain ⟨Ao118, co118, eo118⟩ := Kd.R_slice HO379.out; subst eo118; have hnb119 := NB381_344.out; have hnc119 := NB344_381.out; have hnb120 := NB381_353.out; have hnc120 := NB353_381.out; have hnb121 := NB381_357.out; have hnc121 := NB357_381.out; have hnb122 := NB381_362.out; have hnc122 := NB362_381.out; have hcz123_0 : w117.cell? ⟨gb381, 0, none⟩ = some (.slice none 0 0) := (blk_cell BK381.out 0).trans rfl; have hfz123_0 := blk_frozen BK381.out 0))
           (try simp only [Act.put, List.setIfInBounds_toArray, List.set_cons_zero, List.set_cons_succ])
           go_cut [87] (fun v87 wc => ∃ (kq : Nat) (x87_102 : Bool), v87 = .bool x87_102 ∧ Aside0 (laws_FnExactBlowUp.j2 kq t371 x87_102 t372 = some r) ∧ Aside0 (kq ≤ kj59) ∧ Aside0 (Kd.R (Kd.int .i64) 3 wc w.heap.size (fun k_ => some k_ ≠ ((.slice Ao26 t369.length co26) : Value).ownBlock ∧ some k_ ≠ ((.slice Ao32 t358.length co32) : Value).ownBlock ∧ some k_ ≠ ((.slice Ao118 t377.length co118) : Value).ownBlock) (.slice Ao20 t349.length co20) t349) ∧ Aside0 (Kd.R (Kd.int .i64) 3 wc w.heap.size (fun k_ => some k_ ≠ ((.slice Ao20 t349.length co20) : Value).ownBlock ∧ some k_ ≠ ((.slice Ao32 t358.length co32) : Value).ownBlock ∧ some k_ ≠ ((.slice Ao118 t377.length co118) : Value).ownBlock) (.slice Ao26 t369.length co26) t369) ∧ Aside0 (Kd.R (Kd.int .i64) 3 wc w.heap.size (fun k_ => some k_ ≠ ((.slice Ao20 t349.length co20) : Value).ownBlock ∧ some k_ ≠ ((.slice Ao26 t369.length co26) : Value).ownBlock ∧ some k_ ≠ ((.slice Ao118 t377.length co118) : Value).ownBlock) (.slice Ao32 t358.length co32) t372) ∧ Aside0 (Kd.R (Kd.int .i64) 3 wc w.heap.size (fun k_ => some k_ ≠ ((.slice Ao20 t349.length co20) : Value).ownBlock ∧ some k_ ≠ ((.slice Ao26 t369.length co26) : Value).ownBlock ∧ some k_ ≠ ((.slice Ao32 t358.length co32) : Value).ownBlock) (.slice Ao118 t377.length co118) t377) ∧ Aside0 (wc.heap[gb344]? = some (.cells #[(.slice A0_0 l0_0.length c0_0)] 46 (0, 0))) ∧ Aside0 (wc.heap[gb353]? = some (.cells #[(.slice Ao20 t349.length co20)] 41 (0, 0))) ∧ Aside0 (wc.heap[gb357]? = some (.cells #[(.slice Ao26 t369.length co26)] 41 (0, 0))) ∧ Aside0 (wc.heap[gb362]? = some (.cells #[(.slice Ao32 t358.length co32)] 41 (0, 0))) ∧ Aside0 (wc.heap[gb381]? = some (.cells #[(.slice Ao118 t377.length co118)] 41 (0, 0))) ∧ Aside0 (Below w.heap.size w wc))
           case first =>
            have H := HC103.out
            clear HC103
            replace H := Option.bind_eq_some_iff.mp H
            obtain ⟨t382, A1240, H⟩ := H
            replace H : (if t382 = true then (laws_FnExactBlowUp.j2 kj59 t371 (t380 != t352) t372) else (laws_FnExactBlowUp.j2 kj59 t371 true t372)) = some r := H
            have A124 := Aside0.mk A1240
            clear A1240
            by_cases c125 : t382 = true
            ·subst c125
             have H1 : (laws_FnExactBlowUp.j2 kj59 t371 (t380 != t352) t372) = some r := by rw [if_pos rfl] at H; exact H
             clear H
             have H := H1
             clear H1
             have H' := Aside0.mk H
             clear H
             have hnb126 := NB381_344.out
             have hnc126 := NB344_381.out
             have hnb127 := NB381_353.out
             have hnc127 := NB353_381.out
             have hnb128 := NB381_357.out
             have hnc128 := NB357_381.out
             have hnb129 := NB381_362.out
             have hnc129 := NB362_381.out
             have hcz130_0 : w117.cell? ⟨gb381, 0, none⟩ = some (.slice none 0 0) := (blk_cell BK381.out 0).trans rfl
             have hfz130_0 := blk_frozen BK381.out 0
             have hnb131 := NB353_344.out
             have hnc131 := NB344_353.out
             have hnb132 := NB353_357.out
             have hnc132 := NB357_353.out
             have hnb133 := NB353_362.out
             have hnc133 := NB362_353.out
             have hcz134_0 : w117.cell? ⟨gb353, 0, none⟩ = some (.slice Ao20 t349.length co20) := (blk_cell BK353.out 0).trans rfl
             have hfz134_0 := blk_frozen BK353.out 0
             go_wp2_with (first | ((with_reducible refine gate_callee (f := 50) rfl ?_); refine goesL_ (some 81) rfl rfl Try.func50 (by kernel_rfl) rfl #[.agg #[.slice Ao118 t377.length co118], .agg #[.slice Ao20 t349.length co20]] rfl (by (try simp only [List.map_toArray, List.map_cons, List.map_nil]); first | done | rfl | (simp only [List.length_drop, List.length_take]; rfl)) ?_; (with_reducible refine (laws_eqSemigroup.calls kj59 _ _ t377 _ _ t349 true _ ?side1 ?side2 ?side3 ?side4 A124.out).mono ?_); (case side1 => refine (Kd.R_reads' (e := 3) (base := w.heap.size) (ok := fun k_ => ((((True ∧ some k_ ≠ (.slice Ao20 t349.length co20 : Value).ownBlock) ∧ some k_ ≠ (.slice Ao26 t369.length co26 : Value).ownBlock) ∧ some k_ ≠ (.slice Ao32 t358.length co32 : Value).ownBlock) ∧ some k_ ≠ (.slice Ao115 t374.length co115 : Value).ownBlock)) (n := t377.length) (c := co118) ?_).2.2; exact (by (with_reducible repeat (first | apply Kd.R_alloc | apply Kd.R_drewN | apply Kd.R_drew)); exact (Kd.R_mono (Kd.R_far (p := ⟨gb381, 0, none⟩) (Kd.R_types HO379.out BK381.out (by decide)) (fun _ hk => hk.2) (.slice Ao118 t377.length co118)) (fun _ h_ => h_.1)))); (case side2 => exact (Kd.R_reads' HO379.out).2.1); (case side3 => refine (Kd.R_reads' (e := 3) (base := w.heap.size) (ok := fun k_ => (((some k_ ≠ (.slice Ao26 t369.length co26 : Value).ownBlock ∧ some k_ ≠ (.slice Ao32 t358.length co32 : Value).ownBlock) ∧ some k_ ≠ (.slice Ao115 t374.length co115 : Value).ownBlock) ∧ some k_ ≠ (.slice Ao118 t377.length co118 : Value).ownBlock)) (n := t349.length) (c := co20) ?_).2.2; exact (by (with_reducible repeat (first | apply Kd.R_alloc | apply Kd.R_drewN | apply Kd.R_drew)); exact (Kd.R_mono (Kd.R_far (p := ⟨gb381, 0, none⟩) (Kd.R_types HO_354000.out BK381.out (by decide)) (fun _ hk => hk.2) (.slice Ao118 t377.length co118)) (fun _ h_ => h_.1)))); (case side4 => exact (Kd.R_reads' HO_354000.out).2.1); rintro e w135 ⟨rfl, hb⟩; refine ⟨_, rfl, ?_⟩; have n0_ := Aside0.mk (Kd.R_below (by (with_reducible repeat (first | apply Kd.R_alloc | apply Kd.R_drewN | apply Kd.R_drew)); exact (Kd.R_mono (Kd.R_far (p := ⟨gb381, 0, none⟩) (Kd.R_types HO_354000.out BK381.out (by decide)) (fun _ hk => hk.2) (.slice Ao118 t377.length co118)) (fun _ h_ => h_.1))) hb); have n1_ := Aside0.mk (Kd.R_below (by (with_reducible repeat (first | apply Kd.R_alloc | apply Kd.R_drewN | apply Kd.R_drew)); exact (Kd.R_mono (Kd.R_far (p := ⟨gb381, 0, none⟩) (Kd.R_types HO_358000.out BK381.out (by decide)) (fun _ hk => hk.2) (.slice Ao118 t377.length co118)) (fun _ h_ => h_.1))) hb); have n2_ := Aside0.mk (Kd.R_below (by (with_reducible repeat (first | apply Kd.R_alloc | apply Kd.R_drewN | apply Kd.R_drew)); exact (Kd.R_mono (Kd.R_far (p := ⟨gb381, 0, none⟩) (Kd.R_types HO_363000.out BK381.out (by decide)) (fun _ hk => hk.2) (.slice Ao118 t377.length co118)) (fun _ h_ => h_.1))) hb); have n3_ := Aside0.mk (Kd.R_below (by (with_reducible repeat (first | apply Kd.R_alloc | apply Kd.R_drewN | apply Kd.R_drew)); exact (Kd.R_mono (Kd.R_far (p := ⟨gb381, 0, none⟩) (Kd.R_types HO376.out BK381.out (by decide)) (fun _ hk => hk.2) (.slice Ao118 t377.length co118)) (fun _ h_ => h_.1))) hb); have n4_ := Aside0.mk (Kd.R_below (by (with_reducible repeat (first | apply Kd.R_alloc | apply Kd.R_drewN | apply Kd.R_drew)); exact (Kd.R_mono (Kd.R_far (p := ⟨gb381, 0, none⟩) (Kd.R_types HO379.out BK381.out (by decide)) (fun _ hk => hk.2) (.slice Ao118 t377.length co118)) (fun _ h_ => h_.1))) hb); have n5_ := Aside0.mk (blk_below (g := gb344) (o := .cells #[.slice A0_0 l0_0.length c0_0] 46 (0, 0)) (by (with_reducible repeat (first | refine blk_drewN ?_ _ | refine blk_drew ?_ | refine blk_alloc ?_ _)); refine blk_far ?_ NB344_381.out _; (with_reducible repeat (first | refine blk_drewN ?_ _ | refine blk_drew ?_ | refine blk_alloc ?_ _)); exact BK344.out) hb); have n6_ := Aside0.mk (blk_below (g := gb353) (o := .cells #[.slice Ao20 t349.length co20] 41 (0, 0)) (by (with_reducible repeat (first | refine blk_drewN ?_ _ | refine blk_drew ?_ | refine blk_alloc ?_ _)); refine blk_far ?_ NB353_381.out _; (with_reducible repeat (first | refine blk_drewN ?_ _ | refine blk_drew ?_ | refine blk_alloc ?_ _)); exact BK353.out) hb); have n7_ := Aside0.mk (blk_below (g := gb357) (o := .cells #[.slice Ao26 t369.length co26] 41 (0, 0)) (by (with_reducible repeat (first | refine blk_drewN ?_ _ | refine blk_drew ?_ | refine blk_alloc ?_ _)); refine blk_far ?_ NB357_381.out _; (with_reducible repeat (first | refine blk_drewN ?_ _ | refine blk_drew ?_ | refine blk_alloc ?_ _)); exact BK357.out) hb); have n8_ := Aside0.mk (blk_below (g := gb362) (o := .cells #[.slice Ao32 t358.length co32] 41 (0, 0)) (by (with_reducible repeat (first | refine blk_drewN ?_ _ | refine blk_drew ?_ | refine blk_alloc ?_ _)); refine blk_far ?_ NB362_381.out _; (with_reducible repeat (first | refine blk_drewN ?_ _ | refine blk_drew ?_ | refine blk_alloc ?_ _)); exact BK362.out) hb); have n9_ := Aside0.mk (blk_below (g := gb381) (o := .cells #[.slice Ao118 t377.length co118] 41 (0, 0)) (by (with_reducible repeat (first | refine blk_drewN ?_ _ | refine blk_drew ?_ | refine blk_alloc ?_ _)); refine blk_put (cs := #[.slice none 0 0]) ?_ 0 _ rfl; (with_reducible repeat (first | refine blk_drewN ?_ _ | refine blk_drew ?_ | refine blk_alloc ?_ _)); exact BK381.out) hb); have n10_ := Aside0.mk (below_step (by repeat (first | (with_reducible first | exact HB.out | apply below_alloc | apply pw_below_drewN | apply below_drew1 | refine below_set ?_ GE344.out | refine below_set ?_ GE353.out | refine below_set ?_ GE357.out | refine below_set ?_ GE362.out | refine below_set ?_ GE381.out) | exact HB.out)) hb); clear HO_354000; clear HO_358000; clear HO_363000; clear HO376; clear HO379; clear BK344; clear BK353; clear BK357; clear BK362; clear BK381; clear HB; have HO_354000 := n0_; have HO_358000 := n1_; have HO_363000 := n2_; have HO376 := n3_; have HO379 := n4_; have BK344 := n5_; have BK353 := n6_; have BK357 := n7_; have BK362 := n8_; have BK381 := n9_; have HB := n10_; clear n0_ n1_ n2_ n3_ n4_ n5_ n6_ n7_ n8_ n9_ n10_; (try clear hb); (try clear hb2); (try clear hk); (try clear hi)))
             go_meet
             case rel => exact ⟨_, ((t380 != t352)), (by first | rfl | (simp; done) | (simp [*]; done)), H', ⟨by have := HJ10.out; have := HJ59.out; first | omega | exact Nat.le_refl _⟩, ⟨by (try simp only [hl358000_59]); (with_reducible repeat (first | apply Kd.R_alloc | apply Kd.R_drewN | apply Kd.R_drew)); exact Kd.R_mono HO_354000.out (fun _ hk => ⟨hk.1.1.1, ⟨hk.1.1.2, hk.2⟩⟩)⟩, ⟨by (try simp only [hl358000_59]); (with_reducible repeat (first | apply Kd.R_alloc | apply Kd.R_drewN | apply Kd.R_drew)); exact Kd.R_mono HO_358000.out (fun _ hk => ⟨hk.1.1.1, ⟨hk.1.1.2, hk.2⟩⟩)⟩, ⟨by (try simp only [hl358000_59]); (with_reducible repeat (first | apply Kd.R_alloc | apply Kd.R_drewN | apply Kd.R_drew)); exact Kd.R_mono HO_363000.out (fun _ hk => ⟨hk.1.1.1, ⟨hk.1.1.2, hk.2⟩⟩)⟩, ⟨by (try simp only [hl358000_59]); (with_reducible repeat (first | apply Kd.R_alloc | apply Kd.R_drewN | apply Kd.R_drew)); exact Kd.R_mono HO379.out (fun _ hk => ⟨hk.1.1.1.2, ⟨hk.1.1.2, hk.1.2⟩⟩)⟩, ⟨by (try simp only [hl358000_59]); (with_reducible repeat (first | refine blk_drewN ?_ _ | refine blk_drew ?_ | refine blk_alloc ?_ _)); exact BK344.out⟩, ⟨by (try simp only [hl358000_59]); (with_reducible repeat (first | refine blk_drewN ?_ _ | refine blk_drew ?_ | refine blk_alloc ?_ _)); exact BK353.out⟩, ⟨by (try simp only [hl358000_59]); (with_reducible repeat (first | refine blk_drewN ?_ _ | refine blk_drew ?_ | refine blk_alloc ?_ _)); exact BK357.out⟩, ⟨by (try simp only [hl358000_59]); (with_reducible repeat (first | refine blk_drewN ?_ _ | refine blk_drew ?_ | refine blk_alloc ?_ _)); exact BK362.out⟩, ⟨by (try simp only [hl358000_59]); (with_reducible repeat (first | refine blk_drewN ?_ _ | refine blk_drew ?_ | refine blk_alloc ?_ _)); exact BK381.out⟩, ⟨by repeat (first | (with_reducible first | exact HB.out | apply below_alloc | apply pw_below_drewN | apply below_drew1 | refine below_set ?_ GE344.out | refine below_set ?_ GE353.out | refine below_set ?_ GE357.out | refine below_set ?_ GE362.out | refine below_set ?_ GE381.out) | exact HB.out)⟩⟩
            ·replace c125 := Bool.eq_false_iff.mpr c125
             subst c125
             have H1 : (laws_FnExactBlowUp.j2 kj59 t371 true t372) = some r := by rw [if_neg (show ¬ (false = true) by decide)] at H; exact H
             clear H
             have H := H1
             clear H1
             have H' := Aside0.mk H
             clear H
             have hnb136 := NB381_344.out
             have hnc136 := NB344_381.out
             have hnb137 := NB381_353.out
             have hnc137 := NB353_381.out
             have hnb138 := NB381_357.out
             have hnc138 := NB357_381.out
             have hnb139 := NB381_362.out
             have hnc139 := NB362_381.out
             have hcz140_0 : w117.cell? ⟨gb381, 0, none⟩ = some (.slice none 0 0) := (blk_cell BK381.out 0).trans rfl
             have hfz140_0 := blk_frozen BK381.out 0
             have hnb141 := NB353_344.out
             have hnc141 := NB344_353.out
             have hnb142 := NB353_357.out
             have hnc142 := NB357_353.out
             have hnb143 := NB353_362.out
             have hnc143 := NB362_353.out
             have hcz144_0 : w117.cell? ⟨gb353, 0, none⟩ = some (.slice Ao20 t349.length co20) := (blk_cell BK353.out 0).trans rfl
             have hfz144_0 := blk_frozen BK353.out 0
             go_wp2_with (first | ((with_reducible refine gate_callee (f := 50) rfl ?_); refine goesL_ (some 81) rfl rfl Try.func50 (by kernel_rfl) rfl #[.agg #[.slice Ao118 t377.length co118], .agg #[.slice Ao20 t349.length co20]] rfl (by (try simp only [List.map_toArray, List.map_cons, List.map_nil]); first | done | rfl | (simp only [List.length_drop, List.length_take]; rfl)) ?_; (with_reducible refine (laws_eqSemigroup.calls kj59 _ _ t377 _ _ t349 false _ ?side1 ?side2 ?side3 ?side4 A124.out).mono ?_); (case side1 => refine (Kd.R_reads' (e := 3) (base := w.heap.size) (ok := fun k_ => ((((True ∧ some k_ ≠ (.slice Ao20 t349.length co20 : Value).ownBlock) ∧ some k_ ≠ (.slice Ao26 t369.length co26 : Value).ownBlock) ∧ some k_ ≠ (.slice Ao32 t358.length co32 : Value).ownBlock) ∧ some k_ ≠ (.slice Ao115 t374.length co115 : Value).ownBlock)) (n := t377.length) (c := co118) ?_).2.2; exact (by (with_reducible repeat (first | apply Kd.R_alloc | apply Kd.R_drewN | apply Kd.R_drew)); exact (Kd.R_mono (Kd.R_far (p := ⟨gb381, 0, none⟩) (Kd.R_types HO379.out BK381.out (by decide)) (fun _ hk => hk.2) (.slice Ao118 t377.length co118)) (fun _ h_ => h_.1)))); (case side2 => exact (Kd.R_reads' HO379.out).2.1); (case side3 => refine (Kd.R_reads' (e := 3) (base := w.heap.size) (ok := fun k_ => (((some k_ ≠ (.slice Ao26 t369.length co26 : Value).ownBlock ∧ some k_ ≠ (.slice Ao32 t358.length co32 : Value).ownBlock) ∧ some k_ ≠ (.slice Ao115 t374.length co115 : Value).ownBlock) ∧ some k_ ≠ (.slice Ao118 t377.length co118 : Value).ownBlock)) (n := t349.length) (c := co20) ?_).2.2; exact (by (with_reducible repeat (first | apply Kd.R_alloc | apply Kd.R_drewN | apply Kd.R_drew)); exact (Kd.R_mono (Kd.R_far (p := ⟨gb381, 0, none⟩) (Kd.R_types HO_354000.out BK381.out (by decide)) (fun _ hk => hk.2) (.slice Ao118 t377.length co118)) (fun _ h_ => h_.1)))); (case side4 => exact (Kd.R_reads' HO_354000.out).2.1); rintro e w145 ⟨rfl, hb⟩; refine ⟨_, rfl, ?_⟩; have n0_ := Aside0.mk (Kd.R_below (by (with_reducible repeat (first | apply Kd.R_alloc | apply Kd.R_drewN | apply Kd.R_drew)); exact (Kd.R_mono (Kd.R_far (p := ⟨gb381, 0, none⟩) (Kd.R_types HO_354000.out BK381.out (by decide)) (fun _ hk => hk.2) (.slice Ao118 t377.length co118)) (fun _ h_ => h_.1))) hb); have n1_ := Aside0.mk (Kd.R_below (by (with_reducible repeat (first | apply Kd.R_alloc | apply Kd.R_drewN | apply Kd.R_drew)); exact (Kd.R_mono (Kd.R_far (p := ⟨gb381, 0, none⟩) (Kd.R_types HO_358000.out BK381.out (by decide)) (fun _ hk => hk.2) (.slice Ao118 t377.length co118)) (fun _ h_ => h_.1))) hb); have n2_ := Aside0.mk (Kd.R_below (by (with_reducible repeat (first | apply Kd.R_alloc | apply Kd.R_drewN | apply Kd.R_drew)); exact (Kd.R_mono (Kd.R_far (p := ⟨gb381, 0, none⟩) (Kd.R_types HO_363000.out BK381.out (by decide)) (fun _ hk => hk.2) (.slice Ao118 t377.length co118)) (fun _ h_ => h_.1))) hb); have n3_ := Aside0.mk (Kd.R_below (by (with_reducible repeat (first | apply Kd.R_alloc | apply Kd.R_drewN | apply Kd.R_drew)); exact (Kd.R_mono (Kd.R_far (p := ⟨gb381, 0, none⟩) (Kd.R_types HO376.out BK381.out (by decide)) (fun _ hk => hk.2) (.slice Ao118 t377.length co118)) (fun _ h_ => h_.1))) hb); have n4_ := Aside0.mk (Kd.R_below (by (with_reducible repeat (first | apply Kd.R_alloc | apply Kd.R_drewN | apply Kd.R_drew)); exact (Kd.R_mono (Kd.R_far (p := ⟨gb381, 0, none⟩) (Kd.R_types HO379.out BK381.out (by decide)) (fun _ hk => hk.2) (.slice Ao118 t377.length co118)) (fun _ h_ => h_.1))) hb); have n5_ := Aside0.mk (blk_below (g := gb344) (o := .cells #[.slice A0_0 l0_0.length c0_0] 46 (0, 0)) (by (with_reducible repeat (first | refine blk_drewN ?_ _ | refine blk_drew ?_ | refine blk_alloc ?_ _)); refine blk_far ?_ NB344_381.out _; (with_reducible repeat (first | refine blk_drewN ?_ _ | refine blk_drew ?_ | refine blk_alloc ?_ _)); exact BK344.out) hb); have n6_ := Aside0.mk (blk_below (g := gb353) (o := .cells #[.slice Ao20 t349.length co20] 41 (0, 0)) (by (with_reducible repeat (first | refine blk_drewN ?_ _ | refine blk_drew ?_ | refine blk_alloc ?_ _)); refine blk_far ?_ NB353_381.out _; (with_reducible repeat (first | refine blk_drewN ?_ _ | refine blk_drew ?_ | refine blk_alloc ?_ _)); exact BK353.out) hb); have n7_ := Aside0.mk (blk_below (g := gb357) (o := .cells #[.slice Ao26 t369.length co26] 41 (0, 0)) (by (with_reducible repeat (first | refine blk_drewN ?_ _ | refine blk_drew ?_ | refine blk_alloc ?_ _)); refine blk_far ?_ NB357_381.out _; (with_reducible repeat (first | refine blk_drewN ?_ _ | refine blk_drew ?_ | refine blk_alloc ?_ _)); exact BK357.out) hb); have n8_ := Aside0.mk (blk_below (g := gb362) (o := .cells #[.slice Ao32 t358.length co32] 41 (0, 0)) (by (with_reducible repeat (first | refine blk_drewN ?_ _ | refine blk_drew ?_ | refine blk_alloc ?_ _)); refine blk_far ?_ NB362_381.out _; (with_reducible repeat (first | refine blk_drewN ?_ _ | refine blk_drew ?_ | refine blk_alloc ?_ _)); exact BK362.out) hb); have n9_ := Aside0.mk (blk_below (g := gb381) (o := .cells #[.slice Ao118 t377.length co118] 41 (0, 0)) (by (with_reducible repeat (first | refine blk_drewN ?_ _ | refine blk_drew ?_ | refine blk_alloc ?_ _)); refine blk_put (cs := #[.slice none 0 0]) ?_ 0 _ rfl; (with_reducible repeat (first | refine blk_drewN ?_ _ | refine blk_drew ?_ | refine blk_alloc ?_ _)); exact BK381.out) hb); have n10_ := Aside0.mk (below_step (by repeat (first | (with_reducible first | exact HB.out | apply below_alloc | apply pw_below_drewN | apply below_drew1 | refine below_set ?_ GE344.out | refine below_set ?_ GE353.out | refine below_set ?_ GE357.out | refine below_set ?_ GE362.out | refine below_set ?_ GE381.out) | exact HB.out)) hb); clear HO_354000; clear HO_358000; clear HO_363000; clear HO376; clear HO379; clear BK344; clear BK353; clear BK357; clear BK362; clear BK381; clear HB; have HO_354000 := n0_; have HO_358000 := n1_; have HO_363000 := n2_; have HO376 := n3_; have HO379 := n4_; have BK344 := n5_; have BK353 := n6_; have BK357 := n7_; have BK362 := n8_; have BK381 := n9_; have HB := n10_; clear n0_ n1_ n2_ n3_ n4_ n5_ n6_ n7_ n8_ n9_ n10_; (try clear hb); (try clear hb2); (try clear hk); (try clear hi)))
             go_meet
             case rel => exact ⟨_, (true), (by first | rfl | (simp; done) | (simp [*]; done)), H', ⟨by have := HJ10.out; have := HJ59.out; first | omega | exact Nat.le_refl _⟩, ⟨by (try simp only [hl358000_59]); (with_reducible repeat (first | apply Kd.R_alloc | apply Kd.R_drewN | apply Kd.R_drew)); exact Kd.R_mono HO_354000.out (fun _ hk => ⟨hk.1.1.1, ⟨hk.1.1.2, hk.2⟩⟩)⟩, ⟨by (try simp only [hl358000_59]); (with_reducible repeat (first | apply Kd.R_alloc | apply Kd.R_drewN | apply Kd.R_drew)); exact Kd.R_mono HO_358000.out (fun _ hk => ⟨hk.1.1.1, ⟨hk.1.1.2, hk.2⟩⟩)⟩, ⟨by (try simp only [hl358000_59]); (with_reducible repeat (first | apply Kd.R_alloc | apply Kd.R_drewN | apply Kd.R_drew)); exact Kd.R_mono HO_363000.out (fun _ hk => ⟨hk.1.1.1, ⟨hk.1.1.2, hk.2⟩⟩)⟩, ⟨by (try simp only [hl358000_59]); (with_reducible repeat (first | apply Kd.R_alloc | apply Kd.R_drewN | apply Kd.R_drew)); exact Kd.R_mono HO379.out (fun _ hk => ⟨hk.1.1.1.2, ⟨hk.1.1.2, hk.1.2⟩⟩)⟩, ⟨by (try simp only [hl358000_59]); (with_reducible repeat (first | refine blk_drewN ?_ _ | refine blk_drew ?_ | refine blk_alloc ?_ _)); exact BK344.out⟩, ⟨by (try simp only [hl358000_59]); (with_reducible repeat (first | refine blk_drewN ?_ _ | refine blk_drew ?_ | refine blk_alloc ?_ _)); exact BK353.out⟩, ⟨by (try simp only [hl358000_59]); (with_reducible repeat (first | refine blk_drewN ?_ _ | refine blk_drew ?_ | refine blk_alloc ?_ _)); exact BK357.out⟩, ⟨by (try simp only [hl358000_59]); (with_reducible repeat (first | refine blk_drewN ?_ _ | refine blk_drew ?_ | refine blk_alloc ?_ _)); exact BK362.out⟩, ⟨by (try simp only [hl358000_59]); (with_reducible repeat (first | refine blk_drewN ?_ _ | refine blk_drew ?_ | refine blk_alloc ?_ _)); exact BK381.out⟩, ⟨by repeat (first | (with_reducible first | exact HB.out | apply below_alloc | apply pw_below_drewN | apply below_drew1 | refine below_set ?_ GE344.out | refine below_set ?_ GE353.out | refine below_set ?_ GE357.out | refine below_set ?_ GE362.out | refine below_set ?_ GE381.out) | exact HB.out)⟩⟩
           case rest =>
            clear HC103
            try clear c1
            try clear c2
            try clear p2
            try clear c3
            try clear c3b0
            try clear c4
            try clear c5
            try clear c6
            try clear c7
            try clear c8
            try clear c9
            try clear c10
            try clear c11
            try clear c12
            try clear c13
            try clear c14
            try clear c21
            try clear c27
            try clear c28
            try clear c33
            try clear c34
            try clear c35
            try clear c38
            try clear c39
            try clear c40
            try clear c41
            try clear c43
            try clear c44
            try clear c46
            try clear c47
            try clear c48
            try clear c49
            try clear c50
            try clear c51
            try clear c52
            try clear c55
            try clear c58
            try clear c65
            try clear c66
            try clear c67
            try clear c70
            try clear c70b0
            try clear c72
            try clear c73
            try clear c74
            try clear c75
            try clear c77
            try clear c78
            try clear c81
            try clear c82
            try clear c83
            try clear c85
            try clear c86
            try clear c89
            try clear c92
            try clear c92b0
            try clear c93
            try clear c94
            try clear c95
            try clear c100
            try clear c100b0
            try clear c100b1
            try clear c104
            try clear c105
            try clear c106
            try clear c111
            try clear c112
            try clear c119
            try clear c120
            try clear c121
            try clear c122
            try clear c125
            try clear c126
            try clear c127
            try clear c128
            try clear c129
            try clear c131
            try clear c132
            try clear c133
            try clear c136
            try clear c137
            try clear c138
            try clear c139
            try clear c141
            try clear c142
            try clear c143
            try clear hcz107_0
            try clear hcz109_0
            try clear hcz113_0
            try clear hcz123_0
            try clear hcz130_0
            try clear hcz134_0
            try clear hcz13_0
            try clear hcz140_0
            try clear hcz144_0
            try clear hcz15_0
            try clear hcz22_0
            try clear hcz23_0
            try clear hcz29_0
            try clear hcz36_0
            try clear hcz42_0
            try clear hcz45_0
            try clear hcz50_0
            try clear hcz53_0
            try clear hcz5_0
            try clear hcz68_0
            try clear hcz76_0
            try clear hcz79_0
            try clear hcz84_0
            try clear hcz87_0
            try clear hcz96_0
            try clear hcz98_0
            try clear hfz107_0
            try clear hfz109_0
            try clear hfz113_0
            try clear hfz123_0
            try clear hfz130_0
            try clear hfz134_0
            try clear hfz13_0
            try clear hfz140_0
            try clear hfz144_0
            try clear hfz15_0
            try clear hfz22_0
            try clear hfz23_0
            try clear hfz29_0
            try clear hfz36_0
            try clear hfz42_0
            try clear hfz45_0
            try clear hfz50_0
            try clear hfz53_0
            try clear hfz5_0
            try clear hfz68_0
            try clear hfz76_0
            try clear hfz79_0
            try clear hfz84_0
            try clear hfz87_0
            try clear hfz96_0
            try clear hfz98_0
            try clear p2
            obtain ⟨kq, x87_102, rfl, HA, HJ102, HO_354000, HO_358000, HO_363000, HO_382000, BK344, BK353, BK357, BK362, BK381, HB⟩ := hcut
            have hl363000_102 := (Kd.R_reads' HO_363000.out).1
            rw [hl363000_102] at HO_363000
            (try simp only [hl363000_102])
            (try simp only [hl363000_102] at BK344)
            (try simp only [hl363000_102] at BK353)
            (try simp only [hl363000_102] at BK357)
            (try simp only [hl363000_102] at BK362)
            (try simp only [hl363000_102] at BK381)
            (try simp only [hl363000_102] at HO_354000)
            (try simp only [hl363000_102] at HO_358000)
            (try simp only [hl363000_102] at HO_382000)
            cases kq with
            | zero => exact absurd HA.out (by simp [laws_FnExactBlowUp.j2])
            | succ kj102 =>
             have H := HA.out
             clear HA
             simp only [laws_FnExactBlowUp.j2] at H
             by_cases c146 : x87_102 = true
             ·subst c146
              have H1 : (some false) = some r := by rw [if_pos rfl] at H; exact H
              clear H
              have H := H1
              clear H1
              obtain rfl := Option.some.inj H
              go_wp2
              go_ret
              exact ⟨by first | rfl | (simp [errW_none, errW_some] <;> rfl) | (simp [*, errW_none, errW_some] <;> rfl), by repeat (first | (with_reducible first | exact HB.out | apply below_alloc | apply pw_below_drewN | apply below_drew1 | refine below_set ?_ GE344.out | refine below_set ?_ GE353.out | refine below_set ?_ GE357.out | refine below_set ?_ GE362.out | refine below_set ?_ GE381.out) | exact HB.out)⟩
             ·replace c146 := Bool.eq_false_iff.mpr c146
              subst c146
              have H1 : ((laws_heldSemigroup.f kj102 t372 1).bind fun t383 => (if t383 < 0 then (some false) else (if t383 = t371 then (some true) else (some false)))) = some r := by rw [if_neg (show ¬ (false = true) by decide)] at H; exact H
              clear H
              have H := H1
              clear H1
              replace H := Option.bind_eq_some_iff.mp H
              obtain ⟨t383, A1470, H⟩ := H
              replace H : (if t383 < 0 then (some false) else (if t383 = t371 then (some true) else (some false))) = some r := H
              have A147 := Aside0.mk A1470
              clear A1470
              by_cases c148 : t383 < 0
              ·rw [if_pos c148] at H
               have c148b0 : decide (t383 < 0) = true := decide_eq_true c148
               clear c148
               obtain rfl := Option.some.inj H
               have hnb149 := NB362_344.out
               have hnc149 := NB344_362.out
               have hnb150 := NB362_353.out
               have hnc150 := NB353_362.out
               have hnb151 := NB362_357.out
               have hnc151 := NB357_362.out
               have hnb152 := NB362_381.out
               have hnc152 := NB381_362.out
               have hcz153_0 : wc.cell? ⟨gb362, 0, none⟩ = some (.slice Ao32 t372.length co32) := (blk_cell BK362.out 0).trans rfl
               have hfz153_0 := blk_frozen BK362.out 0
               go_wp2_with (first | ((with_reducible refine gate_callee (f := 52) rfl ?_); refine goesL_ (some 90) rfl rfl Try.func52 (by kernel_rfl) rfl #[.agg #[.slice Ao32 t372.length co32], .int .i64 1] rfl (by (try simp only [List.map_toArray, List.map_cons, List.map_nil]); first | done | rfl | (simp only [List.length_drop, List.length_take]; rfl)) ?_; (with_reducible refine (laws_heldSemigroup.calls kj102 _ _ t372 1 t383 _ ?side1 ?side2 A147.out).mono ?_); (case side1 => repeat (first | exact (Kd.R_reads' HO_363000.out).2.2 | (with_reducible refine Kd.C_alloc ?_ _) | (with_reducible refine Kd.C_drewN ?_ _) | (with_reducible refine Kd.C_drew ?_))); (case side2 => exact (Kd.R_reads' HO_363000.out).2.1); rintro e w154 ⟨rfl, hb⟩; refine ⟨_, rfl, ?_⟩; have n0_ := Aside0.mk (Kd.R_below (by (with_reducible repeat (first | apply Kd.R_alloc | apply Kd.R_drewN | apply Kd.R_drew)); exact HO_354000.out) hb); have n1_ := Aside0.mk (Kd.R_below (by (with_reducible repeat (first | apply Kd.R_alloc | apply Kd.R_drewN | apply Kd.R_drew)); exact HO_358000.out) hb); have n2_ := Aside0.mk (Kd.R_below (by (with_reducible repeat (first | apply Kd.R_alloc | apply Kd.R_drewN | apply Kd.R_drew)); exact HO_363000.out) hb); have n3_ := Aside0.mk (Kd.R_below (by (with_reducible repeat (first | apply Kd.R_alloc | apply Kd.R_drewN | apply Kd.R_drew)); exact HO_382000.out) hb); have n4_ := Aside0.mk (blk_below (g := gb344) (o := .cells #[.slice A0_0 l0_0.length c0_0] 46 (0, 0)) (by (with_reducible repeat (first | refine blk_drewN ?_ _ | refine blk_drew ?_ | refine blk_alloc ?_ _)); exact BK344.out) hb); have n5_ := Aside0.mk (blk_below (g := gb353) (o := .cells #[.slice Ao20 t349.length co20] 41 (0, 0)) (by (with_reducible repeat (first | refine blk_drewN ?_ _ | refine blk_drew ?_ | refine blk_alloc ?_ _)); exact BK353.out) hb); have n6_ := Aside0.mk (blk_below (g := gb357) (o := .cells #[.slice Ao26 t369.length co26] 41 (0, 0)) (by (with_reducible repeat (first | refine blk_drewN ?_ _ | refine blk_drew ?_ | refine blk_alloc ?_ _)); exact BK357.out) hb); have n7_ := Aside0.mk (blk_below (g := gb362) (o := .cells #[.slice Ao32 t372.length co32] 41 (0, 0)) (by (with_reducible repeat (first | refine blk_drewN ?_ _ | refine blk_drew ?_ | refine blk_alloc ?_ _)); exact BK362.out) hb); have n8_ := Aside0.mk (blk_below (g := gb381) (o := .cells #[.slice Ao118 t377.length co118] 41 (0, 0)) (by (with_reducible repeat (first | refine blk_drewN ?_ _ | refine blk_drew ?_ | refine blk_alloc ?_ _)); exact BK381.out) hb); have n9_ := Aside0.mk (below_step (by repeat (first | (with_reducible first | exact HB.out | apply below_alloc | apply pw_below_drewN | apply below_drew1 | refine below_set ?_ GE344.out | refine below_set ?_ GE353.out | refine below_set ?_ GE357.out | refine below_set ?_ GE362.out | refine below_set ?_ GE381.out) | exact HB.out)) hb); clear HO_354000; clear HO_358000; clear HO_363000; clear HO_382000; clear BK344; clear BK353; clear BK357; clear BK362; clear BK381; clear HB; have HO_354000 := n0_; have HO_358000 := n1_; have HO_363000 := n2_; have HO_382000 := n3_; have BK344 := n4_; have BK353 := n5_; have BK357 := n6_; have BK362 := n7_; have BK381 := n8_; have HB := n9_; clear n0_ n1_ n2_ n3_ n4_ n5_ n6_ n7_ n8_ n9_; (try clear hb); (try clear hb2); (try clear hk); (try clear hi)))
               go_ret
               exact ⟨by first | rfl | (simp [errW_none, errW_some] <;> rfl) | (simp [*, errW_none, errW_some] <;> rfl), by repeat (first | (with_reducible first | exact HB.out | apply below_alloc | apply pw_below_drewN | apply below_drew1 | refine below_set ?_ GE344.out | refine below_set ?_ GE353.out | refine below_set ?_ GE357.out | refine below_set ?_ GE362.out | refine below_set ?_ GE381.out) | exact HB.out)⟩
              ·rw [if_neg c148] at H
               have c148b0 : decide (t383 < 0) = false := decide_eq_false c148
               clear c148
               by_cases c155 : t383 = t371
               ·rw [if_pos c155] at H
                have c155b0 : (t383 == t371) = true := beq_iff_eq.mpr c155
                have c155b1 : (t383 != t371) = false := bne_eq_false_iff_eq.mpr c155
                clear c155
                obtain rfl := Option.some.inj H
                have hnb156 := NB362_344.out
                have hnc156 := NB344_362.out
                have hnb157 := NB362_353.out
                have hnc157 := NB353_362.out
                have hnb158 := NB362_357.out
                have hnc158 := NB357_362.out
                have hnb159 := NB362_381.out
                have hnc159 := NB381_362.out
                have hcz160_0 : wc.cell? ⟨gb362, 0, none⟩ = some (.slice Ao32 t372.length co32) := (blk_cell BK362.out 0).trans rfl
                have hfz160_0 := blk_frozen BK362.out 0
                go_wp2_with (first | ((with_reducible refine gate_callee (f := 52) rfl ?_); refine goesL_ (some 90) rfl rfl Try.func52 (by kernel_rfl) rfl #[.agg #[.slice Ao32 t372.length co32], .int .i64 1] rfl (by (try simp only [List.map_toArray, List.map_cons, List.map_nil]); first | done | rfl | (simp only [List.length_drop, List.length_take]; rfl)) ?_; (with_reducible refine (laws_heldSemigroup.calls kj102 _ _ t372 1 t383 _ ?side1 ?side2 A147.out).mono ?_); (case side1 => repeat (first | exact (Kd.R_reads' HO_363000.out).2.2 | (with_reducible refine Kd.C_alloc ?_ _) | (with_reducible refine Kd.C_drewN ?_ _) | (with_reducible refine Kd.C_drew ?_))); (case side2 => exact (Kd.R_reads' HO_363000.out).2.1); rintro e w161 ⟨rfl, hb⟩; refine ⟨_, rfl, ?_⟩; have n0_ := Aside0.mk (Kd.R_below (by (with_reducible repeat (first | apply Kd.R_alloc | apply Kd.R_drewN | apply Kd.R_drew)); exact HO_354000.out) hb); have n1_ := Aside0.mk (Kd.R_below (by (with_reducible repeat (first | apply Kd.R_alloc | apply Kd.R_drewN | apply Kd.R_drew)); exact HO_358000.out) hb); have n2_ := Aside0.mk (Kd.R_below (by (with_reducible repeat (first | apply Kd.R_alloc | apply Kd.R_drewN | apply Kd.R_drew)); exact HO_363000.out) hb); have n3_ := Aside0.mk (Kd.R_below (by (with_reducible repeat (first | apply Kd.R_alloc | apply Kd.R_drewN | apply Kd.R_drew)); exact HO_382000.out) hb); have n4_ := Aside0.mk (blk_below (g := gb344) (o := .cells #[.slice A0_0 l0_0.length c0_0] 46 (0, 0)) (by (with_reducible repeat (first | refine blk_drewN ?_ _ | refine blk_drew ?_ | refine blk_alloc ?_ _)); exact BK344.out) hb); have n5_ := Aside0.mk (blk_below (g := gb353) (o := .cells #[.slice Ao20 t349.length co20] 41 (0, 0)) (by (with_reducible repeat (first | refine blk_drewN ?_ _ | refine blk_drew ?_ | refine blk_alloc ?_ _)); exact BK353.out) hb); have n6_ := Aside0.mk (blk_below (g := gb357) (o := .cells #[.slice Ao26 t369.length co26] 41 (0, 0)) (by (with_reducible repeat (first | refine blk_drewN ?_ _ | refine blk_drew ?_ | refine blk_alloc ?_ _)); exact BK357.out) hb); have n7_ := Aside0.mk (blk_below (g := gb362) (o := .cells #[.slice Ao32 t372.length co32] 41 (0, 0)) (by (with_reducible repeat (first | refine blk_drewN ?_ _ | refine blk_drew ?_ | refine blk_alloc ?_ _)); exact BK362.out) hb); have n8_ := Aside0.mk (blk_below (g := gb381) (o := .cells #[.slice Ao118 t377.length co118] 41 (0, 0)) (by (with_reducible repeat (first | refine blk_drewN ?_ _ | refine blk_drew ?_ | refine blk_alloc ?_ _)); exact BK381.out) hb); have n9_ := Aside0.mk (below_step (by repeat (first | (with_reducible first | exact HB.out | apply below_alloc | apply pw_below_drewN | apply below_drew1 | refine below_set ?_ GE344.out | refine below_set ?_ GE353.out | refine below_set ?_ GE357.out | refine below_set ?_ GE362.out | refine below_set ?_ GE381.out) | exact HB.out)) hb); clear HO_354000; clear HO_358000; clear HO_363000; clear HO_382000; clear BK344; clear BK353; clear BK357; clear BK362; clear BK381; clear HB; have HO_354000 := n0_; have HO_358000 := n1_; have HO_363000 := n2_; have HO_382000 := n3_; have BK344 := n4_; have BK353 := n5_; have BK357 := n6_; have BK362 := n7_; have BK381 := n8_; have HB := n9_; clear n0_ n1_ n2_ n3_ n4_ n5_ n6_ n7_ n8_ n9_; (try clear hb); (try clear hb2); (try clear hk); (try clear hi)))
                go_ret
                exact ⟨by first | rfl | (simp [errW_none, errW_some] <;> rfl) | (simp [*, errW_none, errW_some] <;> rfl), by repeat (first | (with_reducible first | exact HB.out | apply below_alloc | apply pw_below_drewN | apply below_drew1 | refine below_set ?_ GE344.out | refine below_set ?_ GE353.out | refine below_set ?_ GE357.out | refine below_set ?_ GE362.out | refine below_set ?_ GE381.out) | exact HB.out)⟩
               ·rw [if_neg c155] at H
                have c155b0 : (t383 == t371) = false := beq_eq_false_iff_ne.mpr c155
                have c155b1 : (t383 != t371) = true := bne_iff_ne.mpr c155
                obtain rfl := Option.some.inj H
                have hnb162 := NB362_344.out
                have hnc162 := NB344_362.out
                have hnb163 := NB362_353.out
                have hnc163 := NB353_362.out
                have hnb164 := NB362_357.out
                have hnc164 := NB357_362.out
                have hnb165 := NB362_381.out
                have hnc165 := NB381_362.out
                have hcz166_0 : wc.cell? ⟨gb362, 0, none⟩ = some (.slice Ao32 t372.length co32) := (blk_cell BK362.out 0).trans rfl
                have hfz166_0 := blk_frozen BK362.out 0
                go_wp2_with (first | ((with_reducible refine gate_callee (f := 52) rfl ?_); refine goesL_ (some 90) rfl rfl Try.func52 (by kernel_rfl) rfl #[.agg #[.slice Ao32 t372.length co32], .int .i64 1] rfl (by (try simp only [List.map_toArray, List.map_cons, List.map_nil]); first | done | rfl | (simp only [List.length_drop, List.length_take]; rfl)) ?_; (with_reducible refine (laws_heldSemigroup.calls kj102 _ _ t372 1 t383 _ ?side1 ?side2 A147.out).mono ?_); (case side1 => repeat (first | exact (Kd.R_reads' HO_363000.out).2.2 | (with_reducible refine Kd.C_alloc ?_ _) | (with_reducible refine Kd.C_drewN ?_ _) | (with_reducible refine Kd.C_drew ?_))); (case side2 => exact (Kd.R_reads' HO_363000.out).2.1); rintro e w167 ⟨rfl, hb⟩; refine ⟨_, rfl, ?_⟩; have n0_ := Aside0.mk (Kd.R_below (by (with_reducible repeat (first | apply Kd.R_alloc | apply Kd.R_drewN | apply Kd.R_drew)); exact HO_354000.out) hb); have n1_ := Aside0.mk (Kd.R_below (by (with_reducible repeat (first | apply Kd.R_alloc | apply Kd.R_drewN | apply Kd.R_drew)); exact HO_358000.out) hb); have n2_ := Aside0.mk (Kd.R_below (by (with_reducible repeat (first | apply Kd.R_alloc | apply Kd.R_drewN | apply Kd.R_drew)); exact HO_363000.out) hb); have n3_ := Aside0.mk (Kd.R_below (by (with_reducible repeat (first | apply Kd.R_alloc | apply Kd.R_drewN | apply Kd.R_drew)); exact HO_382000.out) hb); have n4_ := Aside0.mk (blk_below (g := gb344) (o := .cells #[.slice A0_0 l0_0.length c0_0] 46 (0, 0)) (by (with_reducible repeat (first | refine blk_drewN ?_ _ | refine blk_drew ?_ | refine blk_alloc ?_ _)); exact BK344.out) hb); have n5_ := Aside0.mk (blk_below (g := gb353) (o := .cells #[.slice Ao20 t349.length co20] 41 (0, 0)) (by (with_reducible repeat (first | refine blk_drewN ?_ _ | refine blk_drew ?_ | refine blk_alloc ?_ _)); exact BK353.out) hb); have n6_ := Aside0.mk (blk_below (g := gb357) (o := .cells #[.slice Ao26 t369.length co26] 41 (0, 0)) (by (with_reducible repeat (first | refine blk_drewN ?_ _ | refine blk_drew ?_ | refine blk_alloc ?_ _)); exact BK357.out) hb); have n7_ := Aside0.mk (blk_below (g := gb362) (o := .cells #[.slice Ao32 t372.length co32] 41 (0, 0)) (by (with_reducible repeat (first | refine blk_drewN ?_ _ | refine blk_drew ?_ | refine blk_alloc ?_ _)); exact BK362.out) hb); have n8_ := Aside0.mk (blk_below (g := gb381) (o := .cells #[.slice Ao118 t377.length co118] 41 (0, 0)) (by (with_reducible repeat (first | refine blk_drewN ?_ _ | refine blk_drew ?_ | refine blk_alloc ?_ _)); exact BK381.out) hb); have n9_ := Aside0.mk (below_step (by repeat (first | (with_reducible first | exact HB.out | apply below_alloc | apply pw_below_drewN | apply below_drew1 | refine below_set ?_ GE344.out | refine below_set ?_ GE353.out | refine below_set ?_ GE357.out | refine below_set ?_ GE362.out | refine below_set ?_ GE381.out) | exact HB.out)) hb); clear HO_354000; clear HO_358000; clear HO_363000; clear HO_382000; clear BK344; clear BK353; clear BK357; clear BK362; clear BK381; clear HB; have HO_354000 := n0_; have HO_358000 := n1_; have HO_363000 := n2_; have HO_382000 := n3_; have BK344 := n4_; have BK353 := n5_; have BK357 := n6_; have BK362 := n7_; have BK381 := n8_; have HB := n9_; clear n0_ n1_ n2_ n3_ n4_ n5_ n6_ n7_ n8_ n9_; (try clear hb); (try clear hb2); (try clear hk); (try clear hi)))
                go_ret
                exact ⟨by first | rfl | (simp [errW_none, errW_some] <;> rfl) | (simp [*, errW_none, errW_some] <;> rfl), by repeat (first | (with_reducible first | exact HB.out | apply below_alloc | apply pw_below_drewN | apply below_drew1 | refine below_set ?_ GE344.out | refine below_set ?_ GE353.out | refine below_set ?_ GE357.out | refine below_set ?_ GE362.out | refine below_set ?_ GE381.out) | exact HB.out)⟩
          ·rw [if_neg c100] at H
           have c100b0 : (t373 == t371) = false := beq_eq_false_iff_ne.mpr c100
           have c100b1 : (t373 != t371) = true := bne_iff_ne.mpr c100
           obtain rfl := Option.some.inj H
           have hnb168 := NB362_344.out
           have hnc168 := NB344_362.out
           have hnb169 := NB362_353.out
           have hnc169 := NB353_362.out
           have hnb170 := NB362_357.out
           have hnc170 := NB357_362.out
           have hcz171_0 : wc.cell? ⟨gb362, 0, none⟩ = some (.slice Ao32 t358.length co32) := (blk_cell BK362.out 0).trans rfl
           have hfz171_0 := blk_frozen BK362.out 0
           go_wp2_with (first | ((with_reducible refine gate_callee (f := 51) rfl ?_); refine goesL_ (some 64) rfl rfl Try.func51 (by kernel_rfl) rfl #[.agg #[.slice Ao32 t358.length co32], .int .i64 1] rfl (by (try simp only [List.map_toArray, List.map_cons, List.map_nil]); first | done | rfl | (simp only [List.length_drop, List.length_take]; rfl)) ?_; (with_reducible refine (laws_markSemigroup.calls kj59 (fun k_ => some k_ = (.slice Ao32 t358.length co32 : Value).ownBlock) (.slice Ao32 t358.length co32) t358 1 t371 t372 w _ ?side1 ?side2 A90.out).mono ?_); (case side1 => repeat (first | (with_reducible first | exact HB.out | apply below_alloc | apply pw_below_drewN | apply below_drew1 | refine below_set ?_ GE344.out | refine below_set ?_ GE353.out | refine below_set ?_ GE357.out | refine below_set ?_ GE362.out) | exact HB.out)); (case side2 => exact Kd.R_tight rfl HO_363000.out); rintro e w172 ⟨rfl, hy0, hb, hkp⟩; refine ⟨_, rfl, ?_⟩; have n0_ := Aside0.mk (Kd.R_mono (ok' := fun k_ => some k_ ≠ (.slice Ao26 t369.length co26 : Value).ownBlock ∧ some k_ ≠ (.slice Ao32 t358.length co32 : Value).ownBlock) (Kd.R_keptB (HO_354000.out) hkp (fun k_ hk_ hs_ => (hk_.2) hs_)) (fun k_ hk_ => ⟨hk_.1.1, hk_.1.2⟩)); have n1_ := Aside0.mk (Kd.R_mono (ok' := fun k_ => some k_ ≠ (.slice Ao20 t349.length co20 : Value).ownBlock ∧ some k_ ≠ (.slice Ao32 t358.length co32 : Value).ownBlock) (Kd.R_keptB (HO_358000.out) hkp (fun k_ hk_ hs_ => (hk_.2) hs_)) (fun k_ hk_ => ⟨hk_.1.1, hk_.1.2⟩)); have n2_ := Aside0.mk (Kd.R_reok rfl hy0 (fun k_ e_ => HO_363000.out.1 k_ e_)); have n3_ := Aside0.mk (blk_kept (by (with_reducible repeat (first | refine blk_drewN ?_ _ | refine blk_drew ?_ | refine blk_alloc ?_ _)); exact BK344.out) hkp (fun hs_ => (fun e_ => (Kd.R_ne HO_363000.out BK344.out (by decide)) e_) hs_)); have n4_ := Aside0.mk (blk_kept (by (with_reducible repeat (first | refine blk_drewN ?_ _ | refine blk_drew ?_ | refine blk_alloc ?_ _)); exact BK353.out) hkp (fun hs_ => (fun e_ => (Kd.R_ne HO_363000.out BK353.out (by decide)) e_) hs_)); have n5_ := Aside0.mk (blk_kept (by (with_reducible repeat (first | refine blk_drewN ?_ _ | refine blk_drew ?_ | refine blk_alloc ?_ _)); exact BK357.out) hkp (fun hs_ => (fun e_ => (Kd.R_ne HO_363000.out BK357.out (by decide)) e_) hs_)); have n6_ := Aside0.mk (blk_kept (by (with_reducible repeat (first | refine blk_drewN ?_ _ | refine blk_drew ?_ | refine blk_alloc ?_ _)); exact BK362.out) hkp (fun hs_ => (fun e_ => (Kd.R_ne HO_363000.out BK362.out (by decide)) e_) hs_)); have n7_ := Aside0.mk (hb); clear HO_354000; clear HO_358000; clear HO_363000; clear BK344; clear BK353; clear BK357; clear BK362; clear HB; have HO_354000 := n0_; have HO_358000 := n1_; have HO_363000 := n2_; have BK344 := n3_; have BK353 := n4_; have BK357 := n5_; have BK362 := n6_; have HB := n7_; clear n0_ n1_ n2_ n3_ n4_ n5_ n6_ n7_; (try clear hb); (try clear hkp); (try clear hy0); have hcz173_0 : w172.cell? ⟨gb362, 0, none⟩ = some (.slice Ao32 t358.length co32) := (blk_cell BK362.out 0).trans rfl; have hfz173_0 := blk_frozen BK362.out 0) | ((with_reducible refine gate_callee (f := 52) rfl ?_); refine goesL_ (some 67) rfl rfl Try.func52 (by kernel_rfl) rfl #[.agg #[.slice Ao32 t372.length co32], .int .i64 1] rfl (by (try simp only [List.map_toArray, List.map_cons, List.map_nil]); first | done | (rw [show t372.length = t358.length from (Kd.R_reads' HO_363000.out).1.symm] <;> rfl) | rfl | (simp only [List.length_drop, List.length_take]; rfl)) ?_; (with_reducible refine (laws_heldSemigroup.calls kj59 _ _ t372 1 t373 _ ?side1 ?side2 A91.out).mono ?_); (case side1 => repeat (first | exact (Kd.R_reads' HO_363000.out).2.2 | (with_reducible refine Kd.C_alloc ?_ _) | (with_reducible refine Kd.C_drewN ?_ _) | (with_reducible refine Kd.C_drew ?_))); (case side2 => rw [show t372.length = t358.length from (Kd.R_reads' HO_363000.out).1.symm]; exact (Kd.R_reads' HO_363000.out).2.1); rintro e w174 ⟨rfl, hb⟩; refine ⟨_, rfl, ?_⟩; have n0_ := Aside0.mk (Kd.R_below (by (with_reducible repeat (first | apply Kd.R_alloc | apply Kd.R_drewN | apply Kd.R_drew)); exact HO_354000.out) hb); have n1_ := Aside0.mk (Kd.R_below (by (with_reducible repeat (first | apply Kd.R_alloc | apply Kd.R_drewN | apply Kd.R_drew)); exact HO_358000.out) hb); have n2_ := Aside0.mk (Kd.R_below (by (with_reducible repeat (first | apply Kd.R_alloc | apply Kd.R_drewN | apply Kd.R_drew)); exact HO_363000.out) hb); have n3_ := Aside0.mk (blk_below (g := gb344) (o := .cells #[.slice A0_0 l0_0.length c0_0] 46 (0, 0)) (by (with_reducible repeat (first | refine blk_drewN ?_ _ | refine blk_drew ?_ | refine blk_alloc ?_ _)); exact BK344.out) hb); have n4_ := Aside0.mk (blk_below (g := gb353) (o := .cells #[.slice Ao20 t349.length co20] 41 (0, 0)) (by (with_reducible repeat (first | refine blk_drewN ?_ _ | refine blk_drew ?_ | refine blk_alloc ?_ _)); exact BK353.out) hb); have n5_ := Aside0.mk (blk_below (g := gb357) (o := .cells #[.slice Ao26 t369.length co26] 41 (0, 0)) (by (with_reducible repeat (first | refine blk_drewN ?_ _ | refine blk_drew ?_ | refine blk_alloc ?_ _)); exact BK357.out) hb); have n6_ := Aside0.mk (blk_below (g := gb362) (o := .cells #[.slice Ao32 t358.length co32] 41 (0, 0)) (by (with_reducible repeat (first | refine blk_drewN ?_ _ | refine blk_drew ?_ | refine blk_alloc ?_ _)); exact BK362.out) hb); have n7_ := Aside0.mk (below_step (by repeat (first | (with_reducible first | exact HB.out | apply below_alloc | apply pw_below_drewN | apply below_drew1 | refine below_set ?_ GE344.out | refine below_set ?_ GE353.out | refine below_set ?_ GE357.out | refine below_set ?_ GE362.out) | exact HB.out)) hb); clear HO_354000; clear HO_358000; clear HO_363000; clear BK344; clear BK353; clear BK357; clear BK362; clear HB; have HO_354000 := n0_; have HO_358000 := n1_; have HO_363000 := n2_; have BK344 := n3_; have BK353 := n4_; have BK357 := n5_; have BK362 := n6_; have HB := n7_; clear n0_ n1_ n2_ n3_ n4_ n5_ n6_ n7_; (try clear hb); (try clear hb2); (try clear hk); (try clear hi)))
           go_ret
           exact ⟨by first | rfl | (simp [errW_none, errW_some] <;> rfl) | (simp [*, errW_none, errW_some] <;> rfl), by repeat (first | (with_reducible first | exact HB.out | apply below_alloc | apply pw_below_drewN | apply below_drew1 | refine below_set ?_ GE344.out | refine below_set ?_ GE353.out | refine below_set ?_ GE357.out | refine below_set ?_ GE362.out) | exact HB.out)⟩
     ·replace c58 := Bool.eq_false_iff.mpr c58
      subst c58
      have H1 : (some false) = some r := by rw [if_neg (show ¬ (false = true) by decide)] at H; exact H
      clear H
      have H := H1
      clear H1
      obtain rfl := Option.some.inj H
      try go_wp2
      have n0_ := Aside0.mk (Kd.R_drew HO_354000.out)
      have n1_ := Aside0.mk (Kd.R_drew HO_358000.out)
      have n2_ := Aside0.mk (Kd.R_drew HO_363000.out)
      have n3_ := Aside0.mk (blk_drew BK344.out)
      have n4_ := Aside0.mk (blk_drew BK353.out)
      have n5_ := Aside0.mk (blk_drew BK357.out)
      have n6_ := Aside0.mk (blk_drew BK362.out)
      have n7_ := Aside0.mk (below_drew1 HB.out)
      clear HO_354000
      clear HO_358000
      clear HO_363000
      clear BK344
      clear BK353
      clear BK357
      clear BK362
      clear HB
      have HO_354000 := n0_
      have HO_358000 := n1_
      have HO_363000 := n2_
      have BK344 := n3_
      have BK353 := n4_
      have BK357 := n5_
      have BK362 := n6_
      have HB := n7_
      clear n0_ n1_ n2_ n3_ n4_ n5_ n6_ n7_
      refine start_ (n := 5) (S := fun w' => w'.cell? ⟨gb357, 0, none⟩ = some (.slice Ao26 t354.length co26) ∧ w'.cell? ⟨gb344, 0, none⟩ = some (.slice A0_0 l0_0.length c0_0)) (ds := []) #[f_,f_,f_,f_,f_] (by kernel_rfl) rfl rfl ⟨(blk_cell BK357.out 0).trans rfl, (blk_cell BK344.out 0).trans rfl⟩ (fun hHeld => ?_)
      generalize wc.drew = w175 at HO_354000 HO_358000 HO_363000 BK344 BK353 BK357 BK362 HB hHeld ⊢
      refine take_ (i := 0) (N := some 41) (v := ?_) (a' := ?_) #[t_,f_,f_,f_,f_] rfl rfl (by kernel_rfl) (fun _ _ _ h => h) (Or.inl ⟨by rfl, ?_⟩) hHeld ?_ ?_
      rotate_left
      ·rintro w' ⟨s0, s1⟩
       go_simp
       with_reducible rfl
      rotate_left
      ·simp only [Act.put, List.setIfInBounds_toArray, List.set_cons_zero, List.set_cons_succ, i64_w, i32_w]
       rfl
      refine take_ (i := 1) (N := some 42) (v := ?_) (a' := ?_) #[t_,t_,f_,f_,f_] rfl rfl (by kernel_rfl) (fun _ _ _ h => h) (Or.inl ⟨by rfl, ?_⟩) hHeld ?_ ?_
      rotate_left
      ·rintro w' ⟨s0, s1⟩
       go_simp
       with_reducible rfl
      rotate_left
      ·simp only [Act.put, List.setIfInBounds_toArray, List.set_cons_zero, List.set_cons_succ, i64_w, i32_w]
       rfl
      refine one_ (i := 2) (N := some 43) #[t_,t_,t_,f_,f_] rfl rfl (by kernel_rfl) (by decide) (fun K hK => ?_)
      refine goes_ Try.func48 (by kernel_rfl) rfl #[.agg #[.slice A0_0 l0_0.length c0_0]] (by rfl) rfl rfl (by (try simp only [List.map_toArray, List.map_cons, List.map_nil]); first | done | rfl | (simp only [List.length_drop, List.length_take]; rfl)) ?_
      with_reducible refine (laws_toSemigroup.calls kj10 _ _ l0_0 t364 _ ?side1 ?side2 A56.out).mono ?_
      (case side1 => repeat (first | exact (Kd.C_below HR0_0.out HB.out) | exact HR0_0.out | (with_reducible refine Kd.C_alloc ?_ _) | (with_reducible refine Kd.C_drewN ?_ _) | (with_reducible refine Kd.C_drew ?_)))
      (case side2 => exact HC0_0.out)
      rintro e w176 ⟨v365, rfl, ho0, hb⟩
      refine ⟨_, rfl, ?_⟩
      have n0_ := Aside0.mk (Kd.R_elder' (by (with_reducible repeat (first | apply Kd.R_alloc | apply Kd.R_drewN | apply Kd.R_drew)); exact HO_354000.out) (Kd.R_base ho0) hb)
      have n1_ := Aside0.mk (Kd.R_elder' (by (with_reducible repeat (first | apply Kd.R_alloc | apply Kd.R_drewN | apply Kd.R_drew)); exact HO_358000.out) (Kd.R_base ho0) hb)
      have n2_ := Aside0.mk (Kd.R_elder' (by (with_reducible repeat (first | apply Kd.R_alloc | apply Kd.R_drewN | apply Kd.R_drew)); exact HO_363000.out) (Kd.R_base ho0) hb)
      have n3_ := Aside0.mk (Kd.R_lower (Kd.R_new' (Kd.R_new' (Kd.R_new' ho0 (Kd.R_lt (by (with_reducible repeat (first | apply Kd.R_alloc | apply Kd.R_drewN | apply Kd.R_drew)); exact HO_354000.out))) (Kd.R_lt (by (with_reducible repeat (first | apply Kd.R_alloc | apply Kd.R_drewN | apply Kd.R_drew)); exact HO_358000.out))) (Kd.R_lt (by (with_reducible repeat (first | apply Kd.R_alloc | apply Kd.R_drewN | apply Kd.R_drew)); exact HO_363000.out))) (below_size (by repeat (first | (with_reducible first | exact HB.out | apply below_alloc | apply pw_below_drewN | apply below_drew1 | refine below_set ?_ GE344.out | refine below_set ?_ GE353.out | refine below_set ?_ GE357.out | refine below_set ?_ GE362.out) | exact HB.out))))
      have n4_ := Aside0.mk (blk_below (g := gb344) (o := .cells #[.slice A0_0 l0_0.length c0_0] 46 (0, 0)) (by (with_reducible repeat (first | refine blk_drewN ?_ _ | refine blk_drew ?_ | refine blk_alloc ?_ _)); exact BK344.out) hb)
      have n5_ := Aside0.mk (blk_below (g := gb353) (o := .cells #[.slice Ao20 t349.length co20] 41 (0, 0)) (by (with_reducible repeat (first | refine blk_drewN ?_ _ | refine blk_drew ?_ | refine blk_alloc ?_ _)); exact BK353.out) hb)
      have n6_ := Aside0.mk (blk_below (g := gb357) (o := .cells #[.slice Ao26 t354.length co26] 41 (0, 0)) (by (with_reducible repeat (first | refine blk_drewN ?_ _ | refine blk_drew ?_ | refine blk_alloc ?_ _)); exact BK357.out) hb)
      have n7_ := Aside0.mk (blk_below (g := gb362) (o := .cells #[.slice Ao32 t358.length co32] 41 (0, 0)) (by (with_reducible repeat (first | refine blk_drewN ?_ _ | refine blk_drew ?_ | refine blk_alloc ?_ _)); exact BK362.out) hb)
      have n8_ := Aside0.mk (below_step (by repeat (first | (with_reducible first | exact HB.out | apply below_alloc | apply pw_below_drewN | apply below_drew1 | refine below_set ?_ GE344.out | refine below_set ?_ GE353.out | refine below_set ?_ GE357.out | refine below_set ?_ GE362.out) | exact HB.out)) hb)
      clear HO_354000
      clear HO_358000
      clear HO_363000
      clear BK344
      clear BK353
      clear BK357
      clear BK362
      clear HB
      have HO_354000 := n0_
      have HO_358000 := n1_
      have HO_363000 := n2_
      have HO366 := n3_
      have BK344 := n4_
      have BK353 := n5_
      have BK357 := n6_
      have BK362 := n7_
      have HB := n8_
      clear n0_ n1_ n2_ n3_ n4_ n5_ n6_ n7_ n8_
      (try clear hb)
      (try clear hb2)
      (try clear hk)
      (try clear hi)
      (try clear ho0)
      obtain ⟨Ao177, co177, eo177⟩ := Kd.R_slice HO366.out
      (first | subst eo177 | (injection eo177 with f1_ f2_ f3_; have f4_ := f1_.symm; have f5_ := f3_.symm; clear f1_ f2_ f3_; subst f4_; subst f5_))
      refine hK.out _ _ ⟨(blk_cell BK357.out 0).trans rfl, (blk_cell BK344.out 0).trans rfl⟩ (fun hHeld => ?_)
      clear hK K
      refine norm_ (a' := ?_) ?_ ?_
      rotate_left
      ·show Act.put _ (some 43) _ = _
       simp only [Act.put, List.setIfInBounds_toArray, List.set_cons_zero, List.set_cons_succ, i64_w, i32_w]
       rfl
      refine one_ (i := 3) (N := some 44) #[t_,t_,t_,t_,f_] rfl rfl (by kernel_rfl) (by decide) (fun K hK => ?_)
      refine goes_ Try.func50 (by kernel_rfl) rfl #[.agg #[.slice Ao26 t354.length co26], .agg #[.slice Ao177 t364.length co177]] (by rfl) rfl rfl (by (try simp only [List.map_toArray, List.map_cons, List.map_nil]); first | done | rfl | (simp only [List.length_drop, List.length_take]; rfl)) ?_
      with_reducible refine (laws_eqSemigroup.calls kj10 _ _ t354 _ _ t364 false _ ?side1 ?side2 ?side3 ?side4 A57.out).mono ?_
      (case side1 => repeat (first | exact (Kd.R_reads' HO_358000.out).2.2 | (with_reducible refine Kd.C_alloc ?_ _) | (with_reducible refine Kd.C_drewN ?_ _) | (with_reducible refine Kd.C_drew ?_)))
      (case side2 => exact (Kd.R_reads' HO_358000.out).2.1)
      (case side3 => repeat (first | exact (Kd.R_reads' HO366.out).2.2 | (with_reducible refine Kd.C_alloc ?_ _) | (with_reducible refine Kd.C_drewN ?_ _) | (with_reducible refine Kd.C_drew ?_)))
      (case side4 => exact (Kd.R_reads' HO366.out).2.1)
      rintro e w178 ⟨rfl, hb⟩
      refine ⟨_, rfl, ?_⟩
      have n0_ := Aside0.mk (Kd.R_below (by (with_reducible repeat (first | apply Kd.R_alloc | apply Kd.R_drewN | apply Kd.R_drew)); exact HO_354000.out) hb)
      have n1_ := Aside0.mk (Kd.R_below (by (with_reducible repeat (first | apply Kd.R_alloc | apply Kd.R_drewN | apply Kd.R_drew)); exact HO_358000.out) hb)
      have n2_ := Aside0.mk (Kd.R_below (by (with_reducible repeat (first | apply Kd.R_alloc | apply Kd.R_drewN | apply Kd.R_drew)); exact HO_363000.out) hb)
      have n3_ := Aside0.mk (Kd.R_below (by (with_reducible repeat (first | apply Kd.R_alloc | apply Kd.R_drewN | apply Kd.R_drew)); exact HO366.out) hb)
      have n4_ := Aside0.mk (blk_below (g := gb344) (o := .cells #[.slice A0_0 l0_0.length c0_0] 46 (0, 0)) (by (with_reducible repeat (first | refine blk_drewN ?_ _ | refine blk_drew ?_ | refine blk_alloc ?_ _)); exact BK344.out) hb)
      have n5_ := Aside0.mk (blk_below (g := gb353) (o := .cells #[.slice Ao20 t349.length co20] 41 (0, 0)) (by (with_reducible repeat (first | refine blk_drewN ?_ _ | refine blk_drew ?_ | refine blk_alloc ?_ _)); exact BK353.out) hb)
      have n6_ := Aside0.mk (blk_below (g := gb357) (o := .cells #[.slice Ao26 t354.length co26] 41 (0, 0)) (by (with_reducible repeat (first | refine blk_drewN ?_ _ | refine blk_drew ?_ | refine blk_alloc ?_ _)); exact BK357.out) hb)
      have n7_ := Aside0.mk (blk_below (g := gb362) (o := .cells #[.slice Ao32 t358.length co32] 41 (0, 0)) (by (with_reducible repeat (first | refine blk_drewN ?_ _ | refine blk_drew ?_ | refine blk_alloc ?_ _)); exact BK362.out) hb)
      have n8_ := Aside0.mk (below_step (by repeat (first | (with_reducible first | exact HB.out | apply below_alloc | apply pw_below_drewN | apply below_drew1 | refine below_set ?_ GE344.out | refine below_set ?_ GE353.out | refine below_set ?_ GE357.out | refine below_set ?_ GE362.out) | exact HB.out)) hb)
      clear HO_354000
      clear HO_358000
      clear HO_363000
      clear HO366
      clear BK344
      clear BK353
      clear BK357
      clear BK362
      clear HB
      have HO_354000 := n0_
      have HO_358000 := n1_
      have HO_363000 := n2_
      have HO366 := n3_
      have BK344 := n4_
      have BK353 := n5_
      have BK357 := n6_
      have BK362 := n7_
      have HB := n8_
      clear n0_ n1_ n2_ n3_ n4_ n5_ n6_ n7_ n8_
      (try clear hb)
      (try clear hb2)
      (try clear hk)
      (try clear hi)
      refine hK.out _ _ ⟨(blk_cell BK357.out 0).trans rfl, (blk_cell BK344.out 0).trans rfl⟩ (fun hHeld => ?_)
      clear hK K
      refine norm_ (a' := ?_) ?_ ?_
      rotate_left
      ·show Act.put _ (some 44) _ = _
       simp only [Act.put, List.setIfInBounds_toArray, List.set_cons_zero, List.set_cons_succ, i64_w, i32_w]
       rfl
      refine pure_ (i := 4) (N := some 45) (v := ?_) (a' := ?_) #[t_,t_,t_,t_,t_] rfl rfl (by kernel_rfl) (fun _ _ _ h => h) (Or.inl ⟨by rfl, ?_⟩) ?_ ?_
      rotate_left
      ·intro w'
       go_simp
       with_reducible rfl
      rotate_left
      ·simp only [Act.put, List.setIfInBounds_toArray, List.set_cons_zero, List.set_cons_succ, i64_w, i32_w]
       rfl
      refine done_ (by kernel_rfl) ?_
      try go_wp2
      go_ret
      exact ⟨by first | rfl | (simp [errW_none, errW_some] <;> rfl) | (simp [*, errW_none, errW_some] <;> rfl), by repeat (first | (with_reducible first | exact HB.out | apply below_alloc | apply pw_below_drewN | apply below_drew1 | refine below_set ?_ GE344.out | refine below_set ?_ GE353.out | refine below_set ?_ GE357.out | refine below_set ?_ GE362.out) | exact HB.out)⟩
end Go.Proofs.Ytbjbolblahlhcaa.PFnExactBlowUp
