/- Part 8 of the claim for FnGlued, of the chain from the printed contracts and the plain laws to the row. It has no condition of its own. -/
import Derived.Test.YtbjbolblahlhcaaG1ZFnGlued
import Derived.Test.YtbjbolblahlhcaaG3ZFnGlued
import Derived.Test.YtbjbolblahlhcaaG7ZFnGlued
namespace Go.Proofs.Ytbjbolblahlhcaa.PFnGlued
open Go.RowKit Go.Proofs.YtbjbolblahlhcaaW.PrintWords Go.Proofs.YtbjbolblahlhcaaW.PrintLast Go.Proofs.YtbjbolblahlhcaaW.PrintMore
open Go.Proofs.Ytbjbolblahlhcaa.SortW (bk_ kr_ t_ f_)
open Go.Proofs.Ytbjbolblahlhcaa.SqW
attribute [local go_sem] max2_int min2_int max_two min_two max_three min_three max_four min_four
set_option maxHeartbeats 8000000
set_option maxRecDepth 100000
set_option linter.unusedVariables false
set_option linter.unusedSimpArgs false
def spec_l1Once.f (s0_0 : List Int) (s0_1 : Int) (s0_2 : Int) (a1 : Int) : Option (Bool × Int × Int) := (spec_l1Below.f s0_0 s0_1 s0_2 a1).bind fun bt453 => (some ((bt453.1 == 0), bt453.2.1, bt453.2.2))
theorem spec_l1Once.calls (g : Nat) (s0_0 : List Int) (s0_1 : Int) (s0_2 : Int) (a1 : Int) (r1 : Bool) (r2 : Int) (r3 : Int) (w0 w : World) (hI : IsS95 w0 w g s0_0 s0_1 s0_2) (hB : Below w0.heap.size w0 w) (h : spec_l1Once.f s0_0 s0_1 s0_2 a1 = some (r1, r2, r3)) :
 Calls Try.prog 148 #[.pointer (some ⟨g, 0, none⟩), .int .i64 a1] w fun e w' => e = .returned (.bool r1) ∧ IsS95 w0 w' g s0_0 r2 r3 ∧ Below w0.heap.size w0 w' ∧ KeepBut w w' g none := by
 have HI0 := Aside0.mk hI
 have HK := Aside0.mk (KeepBut.refl w g none)
 have HL := Aside0.mk hB.size
 clear hI
 have HW0 := Aside0.mk hB.size
 have HB := Aside0.mk hB
 clear hB
 have H := h
 clear h
 unfold spec_l1Once.f at H
 replace H := Option.bind_eq_some_iff.mp H
 obtain ⟨⟨t453, t454, t455⟩, A30, H⟩ := H
 (try dsimp only at H)
 have A3 := Aside0.mk A30
 clear A30
 simp only [Option.some.injEq, Prod.mk.injEq] at H
 obtain ⟨rfl, rfl, rfl⟩ := H
 go_enter Try.func148, Try.ntmps148
 go_wp2_with (first | ((with_reducible refine gate_callee (f := 82) rfl ?_); refine gl_ 7 Try.func82 #[.pointer (some ⟨g, 0, none⟩), .int .i64 a1] ?_; (with_reducible refine (spec_l1Below.calls g s0_0 s0_1 s0_2 a1 t453 t454 t455 w0 _ ?side1 ?side2 A3.out).mono ?_); (case side1 => exact hi_ HI0.out); (case side2 => exact bl_ HB.out); rintro e w4 ⟨rfl, hi, hb, hk⟩; refine ⟨_, rfl, ?_⟩; replace HK := Aside0.mk (KeepBut.trans (kp_ HK.out) hk (.inl rfl)); replace HB := Aside0.mk (hb); replace HI0 := Aside0.mk (hi); (try clear hb); (try clear hb2); (try clear hk); (try clear hi)))
 go_ret
 exact ⟨er_, hi_ HI0.out, bl_ HB.out, kp_ HK.out⟩
def spec_l3List.f (s0_0 : List Int) (s0_1 : Int) (s0_2 : Int) : Option (List Int × Int × Int) := (spec_l1Below.f s0_0 s0_1 s0_2 8).bind fun bt456 => (if bt456.1 = 0 then (some ((([1] : List Int)), bt456.2.1, bt456.2.2)) else (if bt456.1 = 1 then (some ((([3, 5] : List Int)), bt456.2.1, bt456.2.2)) else (if bt456.1 = 2 then (some ((([4, 6, 9] : List Int)), bt456.2.1, bt456.2.2)) else (if bt456.1 = 3 then (some ((([3, 4, 5] : List Int)), bt456.2.1, bt456.2.2)) else (if bt456.1 = 4 then (some ((([6, 9, 20] : List Int)), bt456.2.1, bt456.2.2)) else (if bt456.1 = 5 then (some ((([5, 7, 9, 11] : List Int)), bt456.2.1, bt456.2.2)) else (if bt456.1 = 6 then (some ((([2, 3] : List Int)), bt456.2.1, bt456.2.2)) else (some ((([4, 5, 11] : List Int)), bt456.2.1, bt456.2.2)))))))))
theorem spec_l3List.calls (g : Nat) (s0_0 : List Int) (s0_1 : Int) (s0_2 : Int) (r1 : List Int) (r2 : Int) (r3 : Int) (w0 w : World) (hI : IsS95 w0 w g s0_0 s0_1 s0_2) (hB : Below w0.heap.size w0 w) (h : spec_l3List.f s0_0 s0_1 s0_2 = some (r1, r2, r3)) :
 Calls Try.prog 150 #[.pointer (some ⟨g, 0, none⟩)] w fun e w' => ∃ v0_ : Value, e = .returned (v0_) ∧ Kd.R (Kd.int .i64) 3 w' w.heap.size (fun _ => True) v0_ r1 ∧ IsS95 w0 w' g s0_0 r2 r3 ∧ Below w0.heap.size w0 w' ∧ KeepBut w w' g none := by
 have HI0 := Aside0.mk hI
 have HK := Aside0.mk (KeepBut.refl w g none)
 have HL := Aside0.mk hB.size
 clear hI
 have HW0 := Aside0.mk hB.size
 have HB := Aside0.mk hB
 clear hB
 have H := h
 clear h
 unfold spec_l3List.f at H
 replace H := Option.bind_eq_some_iff.mp H
 obtain ⟨⟨t456, t457, t458⟩, A20, H⟩ := H
 (try dsimp only at H)
 have A2 := Aside0.mk A20
 clear A20
 by_cases c3 : t456 = 0
 ·rw [if_pos c3] at H
  have c3b0 : (t456 == 0) = true := beq_iff_eq.mpr c3
  have c3b1 : (t456 != 0) = false := bne_eq_false_iff_eq.mpr c3
  clear c3
  obtain ⟨y459, hy459⟩ : ∃ y_ : List Int, y_ = (([1] : List Int)) := ⟨_, rfl⟩
  replace H : (some (y459, t457, t458)) = some (r1, r2, r3) := hr_ hy459 H
  have Ny459 := Aside0.mk hy459
  clear hy459
  simp only [Option.some.injEq, Prod.mk.injEq] at H
  obtain ⟨rfl, rfl, rfl⟩ := H
  go_enter Try.func150, Try.ntmps150
  go_wp2_with (first | ((with_reducible refine gate_callee (f := 82) rfl ?_); refine gl_ 4 Try.func82 #[.pointer (some ⟨g, 0, none⟩), .int .i64 8] ?_; (with_reducible refine (spec_l1Below.calls g s0_0 s0_1 s0_2 8 t456 t457 t458 w0 _ ?side1 ?side2 A2.out).mono ?_); (case side1 => exact hi_ HI0.out); (case side2 => exact bl_ HB.out); rintro e w4 ⟨rfl, hi, hb, hk⟩; refine ⟨_, rfl, ?_⟩; replace HK := Aside0.mk (KeepBut.trans (kp_ HK.out) hk (.inl rfl)); replace HB := Aside0.mk (hb); replace HI0 := Aside0.mk (hi); (try clear hb); (try clear hb2); (try clear hk); (try clear hi)) | ((with_reducible refine gate_dst (N := 7) rfl ?_); refine Kd.R_lit (Kd.int .i64) _ 3 ?hg (N := 7) ?hd (xs := ([1] : List Int)) (inner := [.int .i64 1]) (ok := fun _ => True) (okp := fun _ => True) ?hr ?hp (fun _ hk => hk) trivial (Below.refl _ _) (Nat.le_refl _) (by simp) ?_; (case hd => rfl); (case hg => rfl); (case hr => first | (go_simp; done) | (go_simp; rfl)); (case hp => exact (Reps.one (show Kd.M (Kd.int .i64) _ _ _ 1 [.int .i64 1] from rfl) (Reps.none _ _))); intro v460 w5 ho6 hb hg_ hnew_; clear hg_ hnew_; (first | rw [← Ny459.out] at ho6 | (simp only [Int.reduceToNat] at ho6; rw [← Ny459.out] at ho6)); have HO461 := Aside0.mk (Kd.R_lower ho6 (keep_size (w := w) (g := g) (row := none) (kp_ HK.out))); replace HI0 := Aside0.mk (IsS95.below (hi_ HI0.out) hb); replace HK := Aside0.mk (KeepBut.trans (kp_ HK.out) (KeepBut.of_below hb g none) (.inl rfl)); replace HB := bs_ HB hb; clear hb ho6))
  go_ret
  exact ⟨_, er_, kr_ HO461.out, hi_ HI0.out, bl_ HB.out, kp_ HK.out⟩
 ·rw [if_neg c3] at H
  have c3b0 : (t456 == 0) = false := beq_eq_false_iff_ne.mpr c3
  have c3b1 : (t456 != 0) = true := bne_iff_ne.mpr c3
  by_cases c7 : t456 = 1
  ·rw [if_pos c7] at H
   have c7b0 : (t456 == 1) = true := beq_iff_eq.mpr c7
   have c7b1 : (t456 != 1) = false := bne_eq_false_iff_eq.mpr c7
   clear c7
   obtain ⟨y462, hy462⟩ : ∃ y_ : List Int, y_ = (([3, 5] : List Int)) := ⟨_, rfl⟩
   replace H : (some (y462, t457, t458)) = some (r1, r2, r3) := hr_ hy462 H
   have Ny462 := Aside0.mk hy462
   clear hy462
   simp only [Option.some.injEq, Prod.mk.injEq] at H
   obtain ⟨rfl, rfl, rfl⟩ := H
   go_enter Try.func150, Try.ntmps150
   go_wp2_with (first | ((with_reducible refine gate_callee (f := 82) rfl ?_); refine gl_ 4 Try.func82 #[.pointer (some ⟨g, 0, none⟩), .int .i64 8] ?_; (with_reducible refine (spec_l1Below.calls g s0_0 s0_1 s0_2 8 t456 t457 t458 w0 _ ?side1 ?side2 A2.out).mono ?_); (case side1 => exact hi_ HI0.out); (case side2 => exact bl_ HB.out); rintro e w8 ⟨rfl, hi, hb, hk⟩; refine ⟨_, rfl, ?_⟩; replace HK := Aside0.mk (KeepBut.trans (kp_ HK.out) hk (.inl rfl)); replace HB := Aside0.mk (hb); replace HI0 := Aside0.mk (hi); (try clear hb); (try clear hb2); (try clear hk); (try clear hi)) | ((with_reducible refine gate_dst (N := 10) rfl ?_); refine Kd.R_lit (Kd.int .i64) _ 3 ?hg (N := 10) ?hd (xs := ([3, 5] : List Int)) (inner := [.int .i64 3, .int .i64 5]) (ok := fun _ => True) (okp := fun _ => True) ?hr ?hp (fun _ hk => hk) trivial (Below.refl _ _) (Nat.le_refl _) (by simp) ?_; (case hd => rfl); (case hg => rfl); (case hr => first | (go_simp; done) | (go_simp; rfl)); (case hp => exact (Reps.one (show Kd.M (Kd.int .i64) _ _ _ 3 [.int .i64 3] from rfl) (Reps.one (show Kd.M (Kd.int .i64) _ _ _ 5 [.int .i64 5] from rfl) (Reps.none _ _)))); intro v463 w9 ho10 hb hg_ hnew_; clear hg_ hnew_; (first | rw [← Ny462.out] at ho10 | (simp only [Int.reduceToNat] at ho10; rw [← Ny462.out] at ho10)); have HO464 := Aside0.mk (Kd.R_lower ho10 (keep_size (w := w) (g := g) (row := none) (kp_ HK.out))); replace HI0 := Aside0.mk (IsS95.below (hi_ HI0.out) hb); replace HK := Aside0.mk (KeepBut.trans (kp_ HK.out) (KeepBut.of_below hb g none) (.inl rfl)); replace HB := bs_ HB hb; clear hb ho10))
   go_ret
   exact ⟨_, er_, kr_ HO464.out, hi_ HI0.out, bl_ HB.out, kp_ HK.out⟩
  ·rw [if_neg c7] at H
   have c7b0 : (t456 == 1) = false := beq_eq_false_iff_ne.mpr c7
   have c7b1 : (t456 != 1) = true := bne_iff_ne.mpr c7
   by_cases c11 : t456 = 2
   ·rw [if_pos c11] at H
    have c11b0 : (t456 == 2) = true := beq_iff_eq.mpr c11
    have c11b1 : (t456 != 2) = false := bne_eq_false_iff_eq.mpr c11
    clear c11
    obtain ⟨y465, hy465⟩ : ∃ y_ : List Int, y_ = (([4, 6, 9] : List Int)) := ⟨_, rfl⟩
    replace H : (some (y465, t457, t458)) = some (r1, r2, r3) := hr_ hy465 H
    have Ny465 := Aside0.mk hy465
    clear hy465
    simp only [Option.some.injEq, Prod.mk.injEq] at H
    obtain ⟨rfl, rfl, rfl⟩ := H
    go_enter Try.func150, Try.ntmps150
    go_wp2_with (first | ((with_reducible refine gate_callee (f := 82) rfl ?_); refine gl_ 4 Try.func82 #[.pointer (some ⟨g, 0, none⟩), .int .i64 8] ?_; (with_reducible refine (spec_l1Below.calls g s0_0 s0_1 s0_2 8 t456 t457 t458 w0 _ ?side1 ?side2 A2.out).mono ?_); (case side1 => exact hi_ HI0.out); (case side2 => exact bl_ HB.out); rintro e w12 ⟨rfl, hi, hb, hk⟩; refine ⟨_, rfl, ?_⟩; replace HK := Aside0.mk (KeepBut.trans (kp_ HK.out) hk (.inl rfl)); replace HB := Aside0.mk (hb); replace HI0 := Aside0.mk (hi); (try clear hb); (try clear hb2); (try clear hk); (try clear hi)) | ((with_reducible refine gate_dst (N := 13) rfl ?_); refine Kd.R_lit (Kd.int .i64) _ 3 ?hg (N := 13) ?hd (xs := ([4, 6, 9] : List Int)) (inner := [.int .i64 4, .int .i64 6, .int .i64 9]) (ok := fun _ => True) (okp := fun _ => True) ?hr ?hp (fun _ hk => hk) trivial (Below.refl _ _) (Nat.le_refl _) (by simp) ?_; (case hd => rfl); (case hg => rfl); (case hr => first | (go_simp; done) | (go_simp; rfl)); (case hp => exact (Reps.one (show Kd.M (Kd.int .i64) _ _ _ 4 [.int .i64 4] from rfl) (Reps.one (show Kd.M (Kd.int .i64) _ _ _ 6 [.int .i64 6] from rfl) (Reps.one (show Kd.M (Kd.int .i64) _ _ _ 9 [.int .i64 9] from rfl) (Reps.none _ _))))); intro v466 w13 ho14 hb hg_ hnew_; clear hg_ hnew_; (first | rw [← Ny465.out] at ho14 | (simp only [Int.reduceToNat] at ho14; rw [← Ny465.out] at ho14)); have HO467 := Aside0.mk (Kd.R_lower ho14 (keep_size (w := w) (g := g) (row := none) (kp_ HK.out))); replace HI0 := Aside0.mk (IsS95.below (hi_ HI0.out) hb); replace HK := Aside0.mk (KeepBut.trans (kp_ HK.out) (KeepBut.of_below hb g none) (.inl rfl)); replace HB := bs_ HB hb; clear hb ho14))
    go_ret
    exact ⟨_, er_, kr_ HO467.out, hi_ HI0.out, bl_ HB.out, kp_ HK.out⟩
   ·rw [if_neg c11] at H
    have c11b0 : (t456 == 2) = false := beq_eq_false_iff_ne.mpr c11
    have c11b1 : (t456 != 2) = true := bne_iff_ne.mpr c11
    by_cases c15 : t456 = 3
    ·rw [if_pos c15] at H
     have c15b0 : (t456 == 3) = true := beq_iff_eq.mpr c15
     have c15b1 : (t456 != 3) = false := bne_eq_false_iff_eq.mpr c15
     clear c15
     obtain ⟨y468, hy468⟩ : ∃ y_ : List Int, y_ = (([3, 4, 5] : List Int)) := ⟨_, rfl⟩
     replace H : (some (y468, t457, t458)) = some (r1, r2, r3) := hr_ hy468 H
     have Ny468 := Aside0.mk hy468
     clear hy468
     simp only [Option.some.injEq, Prod.mk.injEq] at H
     obtain ⟨rfl, rfl, rfl⟩ := H
     go_enter Try.func150, Try.ntmps150
     go_wp2_with (first | ((with_reducible refine gate_callee (f := 82) rfl ?_); refine gl_ 4 Try.func82 #[.pointer (some ⟨g, 0, none⟩), .int .i64 8] ?_; (with_reducible refine (spec_l1Below.calls g s0_0 s0_1 s0_2 8 t456 t457 t458 w0 _ ?side1 ?side2 A2.out).mono ?_); (case side1 => exact hi_ HI0.out); (case side2 => exact bl_ HB.out); rintro e w16 ⟨rfl, hi, hb, hk⟩; refine ⟨_, rfl, ?_⟩; replace HK := Aside0.mk (KeepBut.trans (kp_ HK.out) hk (.inl rfl)); replace HB := Aside0.mk (hb); replace HI0 := Aside0.mk (hi); (try clear hb); (try clear hb2); (try clear hk); (try clear hi)) | ((with_reducible refine gate_dst (N := 16) rfl ?_); refine Kd.R_lit (Kd.int .i64) _ 3 ?hg (N := 16) ?hd (xs := ([3, 4, 5] : List Int)) (inner := [.int .i64 3, .int .i64 4, .int .i64 5]) (ok := fun _ => True) (okp := fun _ => True) ?hr ?hp (fun _ hk => hk) trivial (Below.refl _ _) (Nat.le_refl _) (by simp) ?_; (case hd => rfl); (case hg => rfl); (case hr => first | (go_simp; done) | (go_simp; rfl)); (case hp => exact (Reps.one (show Kd.M (Kd.int .i64) _ _ _ 3 [.int .i64 3] from rfl) (Reps.one (show Kd.M (Kd.int .i64) _ _ _ 4 [.int .i64 4] from rfl) (Reps.one (show Kd.M (Kd.int .i64) _ _ _ 5 [.int .i64 5] from rfl) (Reps.none _ _))))); intro v469 w17 ho18 hb hg_ hnew_; clear hg_ hnew_; (first | rw [← Ny468.out] at ho18 | (simp only [Int.reduceToNat] at ho18; rw [← Ny468.out] at ho18)); have HO470 := Aside0.mk (Kd.R_lower ho18 (keep_size (w := w) (g := g) (row := none) (kp_ HK.out))); replace HI0 := Aside0.mk (IsS95.below (hi_ HI0.out) hb); replace HK := Aside0.mk (KeepBut.trans (kp_ HK.out) (KeepBut.of_below hb g none) (.inl rfl)); replace HB := bs_ HB hb; clear hb ho18))
     go_ret
     exact ⟨_, er_, kr_ HO470.out, hi_ HI0.out, bl_ HB.out, kp_ HK.out⟩
    ·rw [if_neg c15] at H
     have c15b0 : (t456 == 3) = false := beq_eq_false_iff_ne.mpr c15
     have c15b1 : (t456 != 3) = true := bne_iff_ne.mpr c15
     by_cases c19 : t456 = 4
     ·rw [if_pos c19] at H
      have c19b0 : (t456 == 4) = true := beq_iff_eq.mpr c19
      have c19b1 : (t456 != 4) = false := bne_eq_false_iff_eq.mpr c19
      clear c19
      obtain ⟨y471, hy471⟩ : ∃ y_ : List Int, y_ = (([6, 9, 20] : List Int)) := ⟨_, rfl⟩
      replace H : (some (y471, t457, t458)) = some (r1, r2, r3) := hr_ hy471 H
      have Ny471 := Aside0.mk hy471
      clear hy471
      simp only [Option.some.injEq, Prod.mk.injEq] at H
      obtain ⟨rfl, rfl, rfl⟩ := H
      go_enter Try.func150, Try.ntmps150
      go_wp2_with (first | ((with_reducible refine gate_callee (f := 82) rfl ?_); refine gl_ 4 Try.func82 #[.pointer (some ⟨g, 0, none⟩), .int .i64 8] ?_; (with_reducible refine (spec_l1Below.calls g s0_0 s0_1 s0_2 8 t456 t457 t458 w0 _ ?side1 ?side2 A2.out).mono ?_); (case side1 => exact hi_ HI0.out); (case side2 => exact bl_ HB.out); rintro e w20 ⟨rfl, hi, hb, hk⟩; refine ⟨_, rfl, ?_⟩; replace HK := Aside0.mk (KeepBut.trans (kp_ HK.out) hk (.inl rfl)); replace HB := Aside0.mk (hb); replace HI0 := Aside0.mk (hi); (try clear hb); (try clear hb2); (try clear hk); (try clear hi)) | ((with_reducible refine gate_dst (N := 19) rfl ?_); refine Kd.R_lit (Kd.int .i64) _ 3 ?hg (N := 19) ?hd (xs := ([6, 9, 20] : List Int)) (inner := [.int .i64 6, .int .i64 9, .int .i64 20]) (ok := fun _ => True) (okp := fun _ => True) ?hr ?hp (fun _ hk => hk) trivial (Below.refl _ _) (Nat.le_refl _) (by simp) ?_; (case hd => rfl); (case hg => rfl); (case hr => first | (go_simp; done) | (go_simp; rfl)); (case hp => exact (Reps.one (show Kd.M (Kd.int .i64) _ _ _ 6 [.int .i64 6] from rfl) (Reps.one (show Kd.M (Kd.int .i64) _ _ _ 9 [.int .i64 9] from rfl) (Reps.one (show Kd.M (Kd.int .i64) _ _ _ 20 [.int .i64 20] from rfl) (Reps.none _ _))))); intro v472 w21 ho22 hb hg_ hnew_; clear hg_ hnew_; (first | rw [← Ny471.out] at ho22 | (simp only [Int.reduceToNat] at ho22; rw [← Ny471.out] at ho22)); have HO473 := Aside0.mk (Kd.R_lower ho22 (keep_size (w := w) (g := g) (row := none) (kp_ HK.out))); replace HI0 := Aside0.mk (IsS95.below (hi_ HI0.out) hb); replace HK := Aside0.mk (KeepBut.trans (kp_ HK.out) (KeepBut.of_below hb g none) (.inl rfl)); replace HB := bs_ HB hb; clear hb ho22))
      go_ret
      exact ⟨_, er_, kr_ HO473.out, hi_ HI0.out, bl_ HB.out, kp_ HK.out⟩
     ·rw [if_neg c19] at H
      have c19b0 : (t456 == 4) = false := beq_eq_false_iff_ne.mpr c19
      have c19b1 : (t456 != 4) = true := bne_iff_ne.mpr c19
      by_cases c23 : t456 = 5
      ·rw [if_pos c23] at H
       have c23b0 : (t456 == 5) = true := beq_iff_eq.mpr c23
       have c23b1 : (t456 != 5) = false := bne_eq_false_iff_eq.mpr c23
       clear c23
       obtain ⟨y474, hy474⟩ : ∃ y_ : List Int, y_ = (([5, 7, 9, 11] : List Int)) := ⟨_, rfl⟩
       replace H : (some (y474, t457, t458)) = some (r1, r2, r3) := hr_ hy474 H
       have Ny474 := Aside0.mk hy474
       clear hy474
       simp only [Option.some.injEq, Prod.mk.injEq] at H
       obtain ⟨rfl, rfl, rfl⟩ := H
       go_enter Try.func150, Try.ntmps150
       go_wp2_with (first | ((with_reducible refine gate_callee (f := 82) rfl ?_); refine gl_ 4 Try.func82 #[.pointer (some ⟨g, 0, none⟩), .int .i64 8] ?_; (with_reducible refine (spec_l1Below.calls g s0_0 s0_1 s0_2 8 t456 t457 t458 w0 _ ?side1 ?side2 A2.out).mono ?_); (case side1 => exact hi_ HI0.out); (case side2 => exact bl_ HB.out); rintro e w24 ⟨rfl, hi, hb, hk⟩; refine ⟨_, rfl, ?_⟩; replace HK := Aside0.mk (KeepBut.trans (kp_ HK.out) hk (.inl rfl)); replace HB := Aside0.mk (hb); replace HI0 := Aside0.mk (hi); (try clear hb); (try clear hb2); (try clear hk); (try clear hi)) | ((with_reducible refine gate_dst (N := 22) rfl ?_); refine Kd.R_lit (Kd.int .i64) _ 3 ?hg (N := 22) ?hd (xs := ([5, 7, 9, 11] : List Int)) (inner := [.int .i64 5, .int .i64 7, .int .i64 9, .int .i64 11]) (ok := fun _ => True) (okp := fun _ => True) ?hr ?hp (fun _ hk => hk) trivial (Below.refl _ _) (Nat.le_refl _) (by simp) ?_; (case hd => rfl); (case hg => rfl); (case hr => first | (go_simp; done) | (go_simp; rfl)); (case hp => exact (Reps.one (show Kd.M (Kd.int .i64) _ _ _ 5 [.int .i64 5] from rfl) (Reps.one (show Kd.M (Kd.int .i64) _ _ _ 7 [.int .i64 7] from rfl) (Reps.one (show Kd.M (Kd.int .i64) _ _ _ 9 [.int .i64 9] from rfl) (Reps.one (show Kd.M (Kd.int .i64) _ _ _ 11 [.int .i64 11] from rfl) (Reps.none _ _)))))); intro v475 w25 ho26 hb hg_ hnew_; clear hg_ hnew_; (first | rw [← Ny474.out] at ho26 | (simp only [Int.reduceToNat] at ho26; rw [← Ny474.out] at ho26)); have HO476 := Aside0.mk (Kd.R_lower ho26 (keep_size (w := w) (g := g) (row := none) (kp_ HK.out))); replace HI0 := Aside0.mk (IsS95.below (hi_ HI0.out) hb); replace HK := Aside0.mk (KeepBut.trans (kp_ HK.out) (KeepBut.of_below hb g none) (.inl rfl)); replace HB := bs_ HB hb; clear hb ho26))
       go_ret
       exact ⟨_, er_, kr_ HO476.out, hi_ HI0.out, bl_ HB.out, kp_ HK.out⟩
      ·rw [if_neg c23] at H
       have c23b0 : (t456 == 5) = false := beq_eq_false_iff_ne.mpr c23
       have c23b1 : (t456 != 5) = true := bne_iff_ne.mpr c23
       by_cases c27 : t456 = 6
       ·rw [if_pos c27] at H
        have c27b0 : (t456 == 6) = true := beq_iff_eq.mpr c27
        have c27b1 : (t456 != 6) = false := bne_eq_false_iff_eq.mpr c27
        clear c27
        obtain ⟨y477, hy477⟩ : ∃ y_ : List Int, y_ = (([2, 3] : List Int)) := ⟨_, rfl⟩
        replace H : (some (y477, t457, t458)) = some (r1, r2, r3) := hr_ hy477 H
        have Ny477 := Aside0.mk hy477
        clear hy477
        simp only [Option.some.injEq, Prod.mk.injEq] at H
        obtain ⟨rfl, rfl, rfl⟩ := H
        go_enter Try.func150, Try.ntmps150
        go_wp2_with (first | ((with_reducible refine gate_callee (f := 82) rfl ?_); refine gl_ 4 Try.func82 #[.pointer (some ⟨g, 0, none⟩), .int .i64 8] ?_; (with_reducible refine (spec_l1Below.calls g s0_0 s0_1 s0_2 8 t456 t457 t458 w0 _ ?side1 ?side2 A2.out).mono ?_); (case side1 => exact hi_ HI0.out); (case side2 => exact bl_ HB.out); rintro e w28 ⟨rfl, hi, hb, hk⟩; refine ⟨_, rfl, ?_⟩; replace HK := Aside0.mk (KeepBut.trans (kp_ HK.out) hk (.inl rfl)); replace HB := Aside0.mk (hb); replace HI0 := Aside0.mk (hi); (try clear hb); (try clear hb2); (try clear hk); (try clear hi)) | ((with_reducible refine gate_dst (N := 25) rfl ?_); refine Kd.R_lit (Kd.int .i64) _ 3 ?hg (N := 25) ?hd (xs := ([2, 3] : List Int)) (inner := [.int .i64 2, .int .i64 3]) (ok := fun _ => True) (okp := fun _ => True) ?hr ?hp (fun _ hk => hk) trivial (Below.refl _ _) (Nat.le_refl _) (by simp) ?_; (case hd => rfl); (case hg => rfl); (case hr => first | (go_simp; done) | (go_simp; rfl)); (case hp => exact (Reps.one (show Kd.M (Kd.int .i64) _ _ _ 2 [.int .i64 2] from rfl) (Reps.one (show Kd.M (Kd.int .i64) _ _ _ 3 [.int .i64 3] from rfl) (Reps.none _ _)))); intro v478 w29 ho30 hb hg_ hnew_; clear hg_ hnew_; (first | rw [← Ny477.out] at ho30 | (simp only [Int.reduceToNat] at ho30; rw [← Ny477.out] at ho30)); have HO479 := Aside0.mk (Kd.R_lower ho30 (keep_size (w := w) (g := g) (row := none) (kp_ HK.out))); replace HI0 := Aside0.mk (IsS95.below (hi_ HI0.out) hb); replace HK := Aside0.mk (KeepBut.trans (kp_ HK.out) (KeepBut.of_below hb g none) (.inl rfl)); replace HB := bs_ HB hb; clear hb ho30))
        go_ret
        exact ⟨_, er_, kr_ HO479.out, hi_ HI0.out, bl_ HB.out, kp_ HK.out⟩
       ·rw [if_neg c27] at H
        have c27b0 : (t456 == 6) = false := beq_eq_false_iff_ne.mpr c27
        have c27b1 : (t456 != 6) = true := bne_iff_ne.mpr c27
        obtain ⟨y480, hy480⟩ : ∃ y_ : List Int, y_ = (([4, 5, 11] : List Int)) := ⟨_, rfl⟩
        replace H : (some (y480, t457, t458)) = some (r1, r2, r3) := hr_ hy480 H
        have Ny480 := Aside0.mk hy480
        clear hy480
        simp only [Option.some.injEq, Prod.mk.injEq] at H
        obtain ⟨rfl, rfl, rfl⟩ := H
        go_enter Try.func150, Try.ntmps150
        go_wp2_with (first | ((with_reducible refine gate_callee (f := 82) rfl ?_); refine gl_ 4 Try.func82 #[.pointer (some ⟨g, 0, none⟩), .int .i64 8] ?_; (with_reducible refine (spec_l1Below.calls g s0_0 s0_1 s0_2 8 t456 t457 t458 w0 _ ?side1 ?side2 A2.out).mono ?_); (case side1 => exact hi_ HI0.out); (case side2 => exact bl_ HB.out); rintro e w31 ⟨rfl, hi, hb, hk⟩; refine ⟨_, rfl, ?_⟩; replace HK := Aside0.mk (KeepBut.trans (kp_ HK.out) hk (.inl rfl)); replace HB := Aside0.mk (hb); replace HI0 := Aside0.mk (hi); (try clear hb); (try clear hb2); (try clear hk); (try clear hi)) | ((with_reducible refine gate_dst (N := 26) rfl ?_); refine Kd.R_lit (Kd.int .i64) _ 3 ?hg (N := 26) ?hd (xs := ([4, 5, 11] : List Int)) (inner := [.int .i64 4, .int .i64 5, .int .i64 11]) (ok := fun _ => True) (okp := fun _ => True) ?hr ?hp (fun _ hk => hk) trivial (Below.refl _ _) (Nat.le_refl _) (by simp) ?_; (case hd => rfl); (case hg => rfl); (case hr => first | (go_simp; done) | (go_simp; rfl)); (case hp => exact (Reps.one (show Kd.M (Kd.int .i64) _ _ _ 4 [.int .i64 4] from rfl) (Reps.one (show Kd.M (Kd.int .i64) _ _ _ 5 [.int .i64 5] from rfl) (Reps.one (show Kd.M (Kd.int .i64) _ _ _ 11 [.int .i64 11] from rfl) (Reps.none _ _))))); intro v481 w32 ho33 hb hg_ hnew_; clear hg_ hnew_; (first | rw [← Ny480.out] at ho33 | (simp only [Int.reduceToNat] at ho33; rw [← Ny480.out] at ho33)); have HO482 := Aside0.mk (Kd.R_lower ho33 (keep_size (w := w) (g := g) (row := none) (kp_ HK.out))); replace HI0 := Aside0.mk (IsS95.below (hi_ HI0.out) hb); replace HK := Aside0.mk (KeepBut.trans (kp_ HK.out) (KeepBut.of_below hb g none) (.inl rfl)); replace HB := bs_ HB hb; clear hb ho33))
        go_ret
        exact ⟨_, er_, kr_ HO482.out, hi_ HI0.out, bl_ HB.out, kp_ HK.out⟩
mutual
def spec_l3Draw.l0 : Nat → Int → List Int → Int → Int → Option (List Int × Int × Int)
 | 0, _, _, _, _ => none
 | k + 1, x5, x1000, x1001, x1002 => if x5 < 4 then ((spec_l1Below.f x1000 x1001 x1002 8).bind fun bt507 => ((spec_l1Below.f x1000 bt507.2.1 bt507.2.2 4).bind fun bt513 => (spec_l3Draw.l1 k x5 (([wrap64 (2 + bt507.1)] : List Int)) (wrap64 (1 + bt513.1)) 0 x1000 bt513.2.1 bt513.2.2))) else ((spec_l3List.f x1000 x1001 x1002).bind fun bt497 => ((spec_FromGens.f k bt497.1).bind fun bt502 => (some (bt502.1, bt497.2.1, bt497.2.2))))
def spec_l3Draw.l1 : Nat → Int → List Int → Int → Int → List Int → Int → Int → Option (List Int × Int × Int)
 | 0, _, _, _, _, _, _, _ => none
 | k + 1, x5, x6, x7, x8, x1000, x1001, x1002 => if x8 < x7 then (if 0 < (x6.length : Int) then ((spec_l1Below.f x1000 x1001 x1002 12).bind fun bt517 => (if x6.length < 17592186044416 then (spec_l3Draw.l1 k x5 (x6 ++ [wrap64 ((wrap64 ((rd x6 0) + 1)) + bt517.1)]) x7 (wrap64 (x8 + 1)) x1000 bt517.2.1 bt517.2.2) else (none))) else (none)) else ((spec_FromGens.f k x6).bind fun bt523 => (if bt523.2 = true then (some (bt523.1, x1001, x1002)) else (spec_l3Draw.l0 k (wrap64 (x5 + 1)) x1000 x1001 x1002)))
end
def spec_l3Draw.f (k : Nat) (s0_0 : List Int) (s0_1 : Int) (s0_2 : Int) : Option (List Int × Int × Int) := (spec_l1Once.f s0_0 s0_1 s0_2 4).bind fun bt484 => (if bt484.1 = true then ((spec_l3List.f s0_0 bt484.2.1 bt484.2.2).bind fun bt487 => ((spec_FromGens.f k bt487.1).bind fun bt492 => (some (bt492.1, bt487.2.1, bt487.2.2)))) else (spec_l3Draw.l0 k 0 s0_0 bt484.2.1 bt484.2.2))
def spec_l3Draw.T12 : Bool × List (List Nat × List Nat) := (true, [([], []), ([], []), ([1], [1]), ([2], [2]), ([3], [3]), ([], []), ([5], [5]), ([4, 6], [4, 6]), ([7], [7]), ([0, 8, 6], [0, 8]), ([9, 9, 0, 1, 2, 3, 4, 5, 6, 7, 8, 9], [0, 1, 9])])
def spec_l3Draw.B12 : List Nat := [0, 0, 2, 6, 14, 0, 32, 126, 254, 511, 1023]
theorem spec_l3Draw.tab12 : rtab .any (opsOf Try.f132 12) = spec_l3Draw.T12 := by kernel_rfl
theorem spec_l3Draw.bits12 : waitsOk spec_l3Draw.T12.2 spec_l3Draw.B12 = true := by kernel_rfl
theorem spec_l3Draw.calls (k : Nat) (g : Nat) (s0_0 : List Int) (s0_1 : Int) (s0_2 : Int) (r1 : List Int) (r2 : Int) (r3 : Int) (w0 w : World) (hI : IsS95 w0 w g s0_0 s0_1 s0_2) (hB : Below w0.heap.size w0 w) (h : spec_l3Draw.f k s0_0 s0_1 s0_2 = some (r1, r2, r3)) :
 Calls Try.prog 132 #[.pointer (some ⟨g, 0, none⟩)] w fun e w' => ∃ v0_ : Value, e = .returned (.agg #[v0_]) ∧ Kd.R (Kd.int .i64) 3 w' w.heap.size (fun _ => True) v0_ r1 ∧ IsS95 w0 w' g s0_0 r2 r3 ∧ Below w0.heap.size w0 w' ∧ KeepBut w w' g none := by
 have hu41 := Try.underlying41
 have HI0 := Aside0.mk hI
 have HK := Aside0.mk (KeepBut.refl w g none)
 have HL := Aside0.mk hB.size
 clear hI
 have HW0 := Aside0.mk hB.size
 have HB := Aside0.mk hB
 clear hB
 have H := h
 clear h
 unfold spec_l3Draw.f at H
 replace H := Option.bind_eq_some_iff.mp H
 obtain ⟨⟨t484, t485, t486⟩, A20, H⟩ := H
 (try dsimp only at H)
 have A2 := Aside0.mk A20
 clear A20
 by_cases c3 : t484 = true
 ·subst c3
  rw [if_pos rfl] at H
  replace H := Option.bind_eq_some_iff.mp H
  obtain ⟨⟨t487, t490, t491⟩, A40, H⟩ := H
  (try dsimp only at H)
  have A4 := Aside0.mk A40
  clear A40
  replace H := Option.bind_eq_some_iff.mp H
  obtain ⟨⟨t492, t495⟩, A50, H⟩ := H
  (try dsimp only at H)
  have A5 := Aside0.mk A50
  clear A50
  simp only [Option.some.injEq, Prod.mk.injEq] at H
  obtain ⟨rfl, rfl, rfl⟩ := H
  go_enter Try.func132, Try.ntmps132
  go_wp2_with (first | ((with_reducible refine gate_dst (N := 2) rfl ?_); refine be_ 2 #[.slice none 0 0] 41 fun gb483 hg w6 hbox hb => ?_; replace HB := bs_ HB hb; have BK483 := Aside0.mk (hbox); have GW483 := Aside0.mk ((by rw [hg]; exact (keep_size (w := w) (g := g) (row := none) (kp_ HK.out)) : w.heap.size ≤ gb483)); have GE483 := Aside0.mk ((Nat.le_trans HW0.out (by rw [hg]; exact (keep_size (w := w) (g := g) (row := none) (kp_ HK.out)) : w.heap.size ≤ gb483) : w0.heap.size ≤ gb483)); replace HK := Aside0.mk (KeepBut.trans (kp_ HK.out) (KeepBut.of_below hb g none) (.inl rfl)); have NB0_483 := Aside0.mk ((by rw [hg]; exact Nat.ne_of_lt (IsS95.lt (show IsS95 w0 _ g s0_0 s0_1 s0_2 from hi_ HI0.out)) : g ≠ gb483)); have NB483_0 := Aside0.mk ((by rw [hg]; exact Nat.ne_of_gt (IsS95.lt (show IsS95 w0 _ g s0_0 s0_1 s0_2 from hi_ HI0.out)) : gb483 ≠ g)); replace HI0 := Aside0.mk (IsS95.below (hi_ HI0.out) hb); clear hb hbox hg) | ((with_reducible refine gate_callee (f := 148) rfl ?_); refine gl_ 14 Try.func148 #[.pointer (some ⟨g, 0, none⟩), .int .i64 4] ?_; (with_reducible refine (spec_l1Once.calls g s0_0 s0_1 s0_2 4 true t485 t486 w0 _ ?side1 ?side2 A2.out).mono ?_); (case side1 => exact hi_ HI0.out); (case side2 => exact bl_ HB.out); rintro e w7 ⟨rfl, hi, hb, hk⟩; refine ⟨_, rfl, ?_⟩; replace BK483 := Aside0.mk (KeepBut.blk hk (g' := gb483) (o := .cells #[.slice none 0 0] 41 (0, 0)) (bk_ BK483.out) NB483_0.out (by simp)); replace HK := Aside0.mk (KeepBut.trans (kp_ HK.out) hk (.inl rfl)); replace HB := Aside0.mk (hb); replace HI0 := Aside0.mk (hi); (try clear hb); (try clear hb2); (try clear hk); (try clear hi)) | ((with_reducible refine gate_callee (f := 150) rfl ?_); refine gl_ 17 Try.func150 #[.pointer (some ⟨g, 0, none⟩)] ?_; (with_reducible refine (spec_l3List.calls g s0_0 t485 t486 t487 t490 t491 w0 _ ?side1 ?side2 A4.out).mono ?_); (case side1 => exact hi_ HI0.out); (case side2 => exact bl_ HB.out); rintro e w8 ⟨v488, rfl, ho0, hi, hb, hk⟩; refine ⟨_, rfl, ?_⟩; replace BK483 := Aside0.mk (KeepBut.blk hk (g' := gb483) (o := .cells #[.slice none 0 0] 41 (0, 0)) (bk_ BK483.out) NB483_0.out (by simp)); have HO489 := Aside0.mk (Kd.R_lower ho0 (keep_size (w := w) (g := g) (row := none) (kp_ HK.out))); replace HK := Aside0.mk (KeepBut.trans (kp_ HK.out) hk (.inl rfl)); replace HB := Aside0.mk (hb); replace HI0 := Aside0.mk (hi); (try clear hb); (try clear hb2); (try clear hk); (try clear hi); (try clear ho0); obtain ⟨Ao9, co9, eo9⟩ := Kd.R_slice HO489.out; subst eo9) | ((with_reducible refine gate_callee (f := 74) rfl ?_); refine gl_ 18 Try.func74 #[.slice Ao9 t487.length co9] ?_; (with_reducible refine (spec_FromGens.calls k _ _ t487 t492 t495 _ ?side1 ?side2 A5.out).mono ?_); (case side1 => exact rs_ HO489); (case side2 => exact (Kd.R_reads' HO489.out).2.1); rintro e w10 ⟨v493, rfl, ho0, hb⟩; refine ⟨_, rfl, ?_⟩; have HO494 := Aside0.mk (Kd.R_lower (Kd.R_new' ho0 (Kd.R_lt (kr_ HO489.out))) (keep_size (w := w) (g := g) (row := none) (kp_ HK.out))); replace HO489 := Aside0.mk (Kd.R_elder' (kr_ HO489.out) (Kd.R_base ho0) hb); replace HI0 := Aside0.mk (IsS95.below (hi_ HI0.out) hb); replace BK483 := bb_ BK483 hb; replace HK := Aside0.mk (KeepBut.trans (kp_ HK.out) (KeepBut.of_below hb g none) (.inl rfl)); replace HB := bs_ HB hb; (try clear hb); (try clear hb2); (try clear hk); (try clear hi); (try clear ho0)) | ((with_reducible refine gate_dst (N := 3) rfl ?_); refine be_ 3 #[.slice none 0 0] 41 fun gb496 hg w11 hbox hb => ?_; replace HO489 := rb_ HO489 hb; replace HO494 := rb_ HO494 hb; replace HB := bs_ HB hb; have BK496 := Aside0.mk (hbox); have GW496 := Aside0.mk ((by rw [hg]; exact (keep_size (w := w) (g := g) (row := none) (kp_ HK.out)) : w.heap.size ≤ gb496)); have GE496 := Aside0.mk ((Nat.le_trans HW0.out (by rw [hg]; exact (keep_size (w := w) (g := g) (row := none) (kp_ HK.out)) : w.heap.size ≤ gb496) : w0.heap.size ≤ gb496)); replace HK := Aside0.mk (KeepBut.trans (kp_ HK.out) (KeepBut.of_below hb g none) (.inl rfl)); have NB483_496 := nl_ hg BK483; have NB496_483 := ng_ hg BK483; replace BK483 := bb_ BK483 hb; have NB0_496 := Aside0.mk ((by rw [hg]; exact Nat.ne_of_lt (IsS95.lt (show IsS95 w0 _ g s0_0 t490 t491 from hi_ HI0.out)) : g ≠ gb496)); have NB496_0 := Aside0.mk ((by rw [hg]; exact Nat.ne_of_gt (IsS95.lt (show IsS95 w0 _ g s0_0 t490 t491 from hi_ HI0.out)) : gb496 ≠ g)); replace HI0 := Aside0.mk (IsS95.below (hi_ HI0.out) hb); clear hb hbox hg; obtain ⟨Ao12, co12, eo12⟩ := Kd.R_slice HO494.out; subst eo12; have hnb13 := NB496_483.out; have hnc13 := NB483_496.out; have hnb14 := NB496_0.out; have hnc14 := NB0_496.out; have hcz15_0 := bc_ BK496; have hfz15_0 := blk_frozen BK496.out 0; have hnb16 := NB483_0.out; have hnc16 := NB0_483.out; have hcz17_0 := bc_ BK483; have hfz17_0 := blk_frozen BK483.out 0))
  refine bodyPost_ret (results_cell_row rfl _ _ gb483 41 #[.slice Ao12 t492.length co12] (0, 0) _ rfl (by (with_reducible repeat (first | refine blk_drewN ?_ _ | refine blk_drew ?_ | refine blk_alloc ?_ _)); refine blk_put (cs := #[.slice none 0 0]) ?_ 0 _ rfl; (with_reducible repeat (first | refine blk_drewN ?_ _ | refine blk_drew ?_ | refine blk_alloc ?_ _)); refine blk_far ?_ NB483_496.out _; (with_reducible repeat (first | refine blk_drewN ?_ _ | refine blk_drew ?_ | refine blk_alloc ?_ _)); exact BK483.out) Try.underlying41 rfl (by kernel_rfl)) rfl ?_
  exact ⟨_, er_, kr_ (Kd.R_mono (Kd.R_far (p := ⟨gb483, 0, none⟩) (Kd.R_far (p := ⟨gb496, 0, none⟩) (Kd.R_types (Kd.R_types HO494.out BK496.out (by decide)) BK483.out (by decide)) (fun _ hk => hk.1.2) (.slice Ao12 t492.length co12)) (fun _ hk => hk.2) (.slice Ao12 t492.length co12)) (fun _ hk => trivial)), hi_ HI0.out, bl_ HB.out, kp_ HK.out⟩
 ·obtain rfl := Bool.eq_false_iff.mpr c3
  rw [if_neg nf_] at H
  have H' := Aside0.mk H
  clear H
  go_enter Try.func132, Try.ntmps132
  go_wp2_with (first | ((with_reducible refine gate_dst (N := 2) rfl ?_); refine be_ 2 #[.slice none 0 0] 41 fun gb483 hg w18 hbox hb => ?_; replace HB := bs_ HB hb; have BK483 := Aside0.mk (hbox); have GW483 := Aside0.mk ((by rw [hg]; exact (keep_size (w := w) (g := g) (row := none) (kp_ HK.out)) : w.heap.size ≤ gb483)); have GE483 := Aside0.mk ((Nat.le_trans HW0.out (by rw [hg]; exact (keep_size (w := w) (g := g) (row := none) (kp_ HK.out)) : w.heap.size ≤ gb483) : w0.heap.size ≤ gb483)); replace HK := Aside0.mk (KeepBut.trans (kp_ HK.out) (KeepBut.of_below hb g none) (.inl rfl)); have NB0_483 := Aside0.mk ((by rw [hg]; exact Nat.ne_of_lt (IsS95.lt (show IsS95 w0 _ g s0_0 s0_1 s0_2 from hi_ HI0.out)) : g ≠ gb483)); have NB483_0 := Aside0.mk ((by rw [hg]; exact Nat.ne_of_gt (IsS95.lt (show IsS95 w0 _ g s0_0 s0_1 s0_2 from hi_ HI0.out)) : gb483 ≠ g)); replace HI0 := Aside0.mk (IsS95.below (hi_ HI0.out) hb); clear hb hbox hg) | ((with_reducible refine gate_callee (f := 148) rfl ?_); refine gl_ 14 Try.func148 #[.pointer (some ⟨g, 0, none⟩), .int .i64 4] ?_; (with_reducible refine (spec_l1Once.calls g s0_0 s0_1 s0_2 4 false t485 t486 w0 _ ?side1 ?side2 A2.out).mono ?_); (case side1 => exact hi_ HI0.out); (case side2 => exact bl_ HB.out); rintro e w19 ⟨rfl, hi, hb, hk⟩; refine ⟨_, rfl, ?_⟩; replace BK483 := Aside0.mk (KeepBut.blk hk (g' := gb483) (o := .cells #[.slice none 0 0] 41 (0, 0)) (bk_ BK483.out) NB483_0.out (by simp)); replace HK := Aside0.mk (KeepBut.trans (kp_ HK.out) hk (.inl rfl)); replace HB := Aside0.mk (hb); replace HI0 := Aside0.mk (hi); (try clear hb); (try clear hb2); (try clear hk); (try clear hi)))
  go_loopg [5] k (fun kq v5 w' => ∃ (x5_1 : Int) (x1001_1 : Int) (x1002_1 : Int), v5 = .int .i64 x5_1 ∧ Aside0 (spec_l3Draw.l0 kq x5_1 s0_0 x1001_1 x1002_1 = some (r1, r2, r3)) ∧ Aside0 (kq ≤ k) ∧ Aside0 (w'.heap[gb483]? = some (.cells #[(.slice none 0 0)] 41 (0, 0))) ∧ Aside0 (IsS95 w0 w' g s0_0 x1001_1 x1002_1) ∧ Aside0 (KeepBut w w' g none) ∧ Aside0 (Below w0.heap.size w0 w'))
  case atStart => exact ⟨(0), (t485), (t486), sd_, H', ⟨Nat.le_refl _⟩, ⟨bk_ BK483.out⟩, ⟨hi_ HI0.out⟩, ⟨kp_ HK.out⟩, ⟨bl_ HB.out⟩⟩
  case round =>
   clear H'
   try clear c1
   try clear p2
   try clear c3
   try clear c7
   try clear c13
   try clear c14
   try clear c15
   try clear c16
   try clear hcz15_0
   try clear hcz17_0
   try clear hfz15_0
   try clear hfz17_0
   obtain ⟨x5_1, x1001_1, x1002_1, rfl, HA, HK1, BK483, HI0, HK, HB⟩ := hrel
   cases gk with
   | zero => exact absurd HA.out (by simp [spec_l3Draw.l0])
   | succ k1 =>
    have H := HA.out
    clear HA
    simp only [spec_l3Draw.l0] at H
    by_cases c20 : x5_1 < 4
    ·rw [if_pos c20] at H
     have c20b0 : decide (x5_1 < 4) = true := decide_eq_true c20
     clear c20
     replace H := Option.bind_eq_some_iff.mp H
     obtain ⟨⟨t507, t508, t509⟩, A210, H⟩ := H
     (try dsimp only at H)
     have A21 := Aside0.mk A210
     clear A210
     obtain ⟨y510, hy510⟩ : ∃ y_ : List Int, y_ = (([wrap64 (2 + t507)] : List Int)) := ⟨_, rfl⟩
     replace H : ((spec_l1Below.f s0_0 t508 t509 4).bind fun bt513 => (spec_l3Draw.l1 k1 x5_1 y510 (wrap64 (1 + bt513.1)) 0 s0_0 bt513.2.1 bt513.2.2)) = some (r1, r2, r3) := hr_ hy510 H
     have Ny510 := Aside0.mk hy510
     clear hy510
     replace H := Option.bind_eq_some_iff.mp H
     obtain ⟨⟨t513, t514, t515⟩, A220, H⟩ := H
     (try dsimp only at H)
     have A22 := Aside0.mk A220
     clear A220
     have H' := Aside0.mk H
     clear H
     go_wp2_with (first | ((with_reducible refine gate_callee (f := 82) rfl ?_); refine gl_ 27 Try.func82 #[.pointer (some ⟨g, 0, none⟩), .int .i64 8] ?_; (with_reducible refine (spec_l1Below.calls g s0_0 x1001_1 x1002_1 8 t507 t508 t509 w0 _ ?side1 ?side2 A21.out).mono ?_); (case side1 => exact hi_ HI0.out); (case side2 => exact bl_ HB.out); rintro e w23 ⟨rfl, hi, hb, hk⟩; refine ⟨_, rfl, ?_⟩; replace BK483 := Aside0.mk (KeepBut.blk hk (g' := gb483) (o := .cells #[.slice none 0 0] 41 (0, 0)) (bk_ BK483.out) NB483_0.out (by simp)); replace HK := Aside0.mk (KeepBut.trans (kp_ HK.out) hk (.inl rfl)); replace HB := Aside0.mk (hb); replace HI0 := Aside0.mk (hi); (try clear hb); (try clear hb2); (try clear hk); (try clear hi)) | ((with_reducible refine gate_dst (N := 29) rfl ?_); refine Kd.R_lit (Kd.int .i64) _ 3 ?hg (N := 29) ?hd (xs := ([wrap64 (2 + t507)] : List Int)) (inner := [.int .i64 (wrap64 (2 + t507))]) (ok := fun _ => True) (okp := fun _ => True) ?hr ?hp (fun _ hk => hk) trivial (Below.refl _ _) (Nat.le_refl _) (by simp) ?_; (case hd => rfl); (case hg => rfl); (case hr => first | (go_simp; done) | (go_simp; rfl)); (case hp => exact (Reps.one (show Kd.M (Kd.int .i64) _ _ _ (wrap64 (2 + t507)) [.int .i64 (wrap64 (2 + t507))] from rfl) (Reps.none _ _))); intro v511 w24 ho25 hb hg_ hnew_; clear hg_ hnew_; (first | rw [← Ny510.out] at ho25 | (simp only [Int.reduceToNat] at ho25; rw [← Ny510.out] at ho25)); have HO512 := Aside0.mk (Kd.R_lower ho25 (keep_size (w := w) (g := g) (row := none) (kp_ HK.out))); replace BK483 := bb_ BK483 hb; replace HI0 := Aside0.mk (IsS95.below (hi_ HI0.out) hb); replace HK := Aside0.mk (KeepBut.trans (kp_ HK.out) (KeepBut.of_below hb g none) (.inl rfl)); replace HB := bs_ HB hb; clear hb ho25) | ((with_reducible refine gate_callee (f := 82) rfl ?_); refine gl_ 31 Try.func82 #[.pointer (some ⟨g, 0, none⟩), .int .i64 4] ?_; (with_reducible refine (spec_l1Below.calls g s0_0 t508 t509 4 t513 t514 t515 w0 _ ?side1 ?side2 A22.out).mono ?_); (case side1 => exact hi_ HI0.out); (case side2 => exact bl_ HB.out); rintro e w26 ⟨rfl, hi, hb, hk⟩; refine ⟨_, rfl, ?_⟩; replace BK483 := Aside0.mk (KeepBut.blk hk (g' := gb483) (o := .cells #[.slice none 0 0] 41 (0, 0)) (bk_ BK483.out) NB483_0.out (by simp)); replace HO512 := Aside0.mk (Kd.R_mono (Kd.R_keep (IsS95.apart (show IsS95 w0 _ g s0_0 t508 t509 from hi_ HI0.out) (kr_ HO512.out) (by decide)) hk (fun _ h => h.2)) (fun _ h => h.1)); replace HK := Aside0.mk (KeepBut.trans (kp_ HK.out) hk (.inl rfl)); replace HB := Aside0.mk (hb); replace HI0 := Aside0.mk (hi); (try clear hb); (try clear hb2); (try clear hk); (try clear hi)))
     go_loopg [6, 8] k1 (fun kq v6 v8 w' => ∃ (x6_2 : List Int) (x8_2 : Int) (x1001_2 : Int) (x1002_2 : Int), v8 = .int .i64 x8_2 ∧ Aside0 (spec_l3Draw.l1 kq x5_1 x6_2 (wrap64 (1 + t513)) x8_2 s0_0 x1001_2 x1002_2 = some (r1, r2, r3)) ∧ Aside0 (kq ≤ k1) ∧ Aside0 (Kd.R (Kd.int .i64) 3 w' w.heap.size (fun _ => True) v6 x6_2) ∧ Aside0 (w'.heap[gb483]? = some (.cells #[(.slice none 0 0)] 41 (0, 0))) ∧ Aside0 (IsS95 w0 w' g s0_0 x1001_2 x1002_2) ∧ Aside0 (KeepBut w w' g none) ∧ Aside0 (Below w0.heap.size w0 w'))
     case atStart => exact ⟨(y510), (0), (t514), (t515), sd_, H', ⟨Nat.le_refl _⟩, ⟨kr_ HO512.out⟩, ⟨bk_ BK483.out⟩, ⟨hi_ HI0.out⟩, ⟨kp_ HK.out⟩, ⟨bl_ HB.out⟩⟩
     case round =>
      clear H'
      try clear c1
      try clear c2
      try clear p2
      try clear c3
      try clear p6
      try clear c7
      try clear c8
      try clear c13
      try clear c14
      try clear c15
      try clear c16
      try clear c20
      try clear c20b0
      try clear hcz15_0
      try clear hcz17_0
      try clear hfz15_0
      try clear hfz17_0
      try clear p2
      obtain ⟨x6_2, x8_2, x1001_2, x1002_2, rfl, HA, HK2, HO_6, BK483, HI0, HK, HB⟩ := hrel
      cases gk with
      | zero => exact absurd HA.out (by simp [spec_l3Draw.l1])
      | succ k2 =>
       have H := HA.out
       clear HA
       simp only [spec_l3Draw.l1] at H
       by_cases c27 : x8_2 < (wrap64 (1 + t513))
       ·rw [if_pos c27] at H
        have c27b0 : decide (x8_2 < (wrap64 (1 + t513))) = true := decide_eq_true c27
        clear c27
        by_cases c28 : 0 < (x6_2.length : Int)
        ·rw [if_pos c28] at H
         have c28b0 : decide (0 < (x6_2.length : Int)) = true := decide_eq_true c28
         have c28b1 : decide (0 < x6_2.length) = true := decide_eq_true (by omega)
         clear c28
         replace H := Option.bind_eq_some_iff.mp H
         obtain ⟨⟨t517, t518, t519⟩, A290, H⟩ := H
         (try dsimp only at H)
         have A29 := Aside0.mk A290
         clear A290
         by_cases c30 : x6_2.length < 17592186044416
         ·rw [if_pos c30] at H
          have LMc30 := Aside0.mk c30
          clear c30
          obtain ⟨y520, hy520⟩ : ∃ y_ : List Int, y_ = (x6_2 ++ [wrap64 ((wrap64 ((rd x6_2 0) + 1)) + t517)]) := ⟨_, rfl⟩
          replace H : (spec_l3Draw.l1 k2 x5_1 y520 (wrap64 (1 + t513)) (wrap64 (x8_2 + 1)) s0_0 t518 t519) = some (r1, r2, r3) := hr_ hy520 H
          have Ny520 := Aside0.mk hy520
          clear hy520
          have H' := Aside0.mk H
          clear H
          try go_wp2
          replace HO_6 := Aside0.mk (Kd.R_drew HO_6.out)
          replace BK483 := Aside0.mk (blk_drew BK483.out)
          replace HI0 := Aside0.mk (IsS95.drew HI0.out)
          replace HK := Aside0.mk (keep_drew HK.out)
          replace HB := Aside0.mk (below_drew1 HB.out)
          obtain ⟨Ao32, co32, eo32⟩ := Kd.R_slice HO_6.out
          (first | subst eo32 | (injection eo32 with f1_ f2_ f3_; have f4_ := f1_.symm; have f5_ := f3_.symm; clear f1_ f2_ f3_; subst f4_; subst f5_))
          have p516 : 0 ≤ (0 : Int) := (by omega)
          have q516 : 0 < (x6_2.length : Int) := od_
          obtain ⟨ad516, e516, hx516_0⟩ := Kd.at_int (Kd.R_reads' HO_6.out).2.2 0 p516 q516
          cases e516
          have qi516 : (0 < x6_2.length) = True := eq_true (by omega)
          (try rw [show ((0 : Int)).toNat = 0 from rfl] at hx516_0)
          (try rw [Addr.add_zero'] at hx516_0)
          replace p516 := eq_true p516
          replace q516 := eq_true q516
          refine start_ (n := 11) (S := fun w' => w'.cell? ad516 = some (.int .i64 (rd x6_2 0))) (ds := [8, 9]) (fl_ 11 0) (by kernel_rfl) rfl rfl (hx516_0) (fun hHeld => ?_); refine with_tabW spec_l3Draw.tab12 spec_l3Draw.bits12 (fun HT_ HW_ => ?_)
          generalize wr.drew = w31 at HO_6 BK483 HI0 HK HB hx516_0 hHeld ⊢
          refine pu_ 0 38 (fl_ 11 1) ?_
          refine pu_ 1 39 (fl_ 11 2) ?_
          refine pu_ 2 40 (fl_ 11 3) ?_
          refine pu_ 5 43 (fm_ 11 39) ?_
          refine ta_ 3 41 (fm_ 11 47) ?_
          refine pu_ 4 42 (fl_ 11 6) ?_
          refine on_ 6 44 (fl_ 11 7) fun K hK => ?_
          refine go_ Try.func82 #[.pointer (some ⟨g, 0, none⟩), .int .i64 12] ?_
          with_reducible refine (spec_l1Below.calls g s0_0 x1001_2 x1002_2 12 t517 t518 t519 w0 _ ?side1 ?side2 A29.out).mono ?_
          (case side1 => exact hi_ HI0.out)
          (case side2 => exact bl_ HB.out)
          rintro e w33 ⟨rfl, hi, hb, hk⟩
          have HS0_ := keep_cell hk (hHeld) (by first | (rw [add_block]; exact Kd.own_blk (IsS95.own_ne HI0.out HO_6.out (by decide))) | (show (Addr.add _ _).block ≠ _; rw [add_block]; exact Kd.own_blk (IsS95.own_ne HI0.out HO_6.out (by decide))) | exact Kd.own_blk (IsS95.own_ne HI0.out HO_6.out (by decide)))
          refine ⟨_, rfl, ?_⟩
          replace HO_6 := Aside0.mk (Kd.R_mono (Kd.R_keep (IsS95.apart (show IsS95 w0 _ g s0_0 x1001_2 x1002_2 from hi_ HI0.out) (kr_ HO_6.out) (by decide)) hk (fun _ h => h.2)) (fun _ h => h.1))
          replace BK483 := Aside0.mk (KeepBut.blk hk (g' := gb483) (o := .cells #[.slice none 0 0] 41 (0, 0)) (bk_ BK483.out) NB483_0.out (by simp))
          replace HK := Aside0.mk (KeepBut.trans (kp_ HK.out) hk (.inl rfl))
          replace HB := Aside0.mk (hb)
          replace HI0 := Aside0.mk (hi)
          (try clear hb)
          (try clear hb2)
          (try clear hk)
          (try clear hi)
          refine hK.out _ _ (HS0_) (fun hHeld => ?_)
          clear hK K
          refine no_ 44 ?_
          refine pu_ 7 45 (fl_ 11 8) ?_
          refine last_ (i := 8) (N := some 46) (fl_ 11 9) rfl rfl (one_of HT_.out (by kernel_rfl)) (by decide) (fun K hK => ?_)
          refine value_ (w1 := ?_) (v := ?_) (by rfl) rfl ?_ ?_
          rotate_left 2
          ·go_simp
           constructor
           ·rfl
           ·rfl
          refine hK.out _ _ ?_
          clear hK K
          refine no_ 46 ?_
          refine last_ (i := 9) (N := some 47) (fl_ 11 10) rfl rfl (one_of HT_.out (by kernel_rfl)) (by decide) (fun K hK => ?_)
          refine Kd.R_append_step (Kd.int .i64) w.heap.size (by rfl) (.tmp 38) (.tmp 46) 22 3 (.int .i64 0) 8 rfl Try.underlying22 info3 rfl (by decide) (by omega) (.slice (some ad516) x6_2.length co32) x6_2 (wrap64 ((wrap64 ((rd x6_2 0) + 1)) + t517)) [.int .i64 (wrap64 ((wrap64 ((rd x6_2 0) + 1)) + t517))] (fun _ => True) (fun _ => False) rfl rfl ?aP (fun _ hk => hk.elim) ?aF ?aO (Below.refl _ _) ?aS ?aL ?_
          (case aP => exact rfl)
          (case aF => exact (fun _ _ => trivial))
          (case aO => exact (kr_ HO_6.out))
          (case aS => exact (keep_size (w := w) (g := g) (row := none) (kp_ HK.out)))
          (case aL => have := LMc30.out; omega)
          intro v521 w34 ho hb hg hat
          rw [← Ny520.out] at ho
          have n0_ := Aside0.mk (blk_grown (g := gb483) (o := .cells #[.slice none 0 0] 41 (0, 0)) (bk_ BK483.out) hg (Kd.R_ne HO_6.out BK483.out (by decide)))
          have n1_ := Aside0.mk (IsS95.grown (hi_ HI0.out) hg (IsS95.own_ne HI0.out HO_6.out (by decide)))
          have n2_ := Aside0.mk (below_weaken (bl_ HB.out) HL.out hb)
          have n3_ := Aside0.mk (KeepBut.trans (kp_ HK.out) (KeepBut.of_grown hg g) (Kd.R_base2 HO_6.out))
          have n4_ := Aside0.mk (ho)
          clear BK483
          clear HI0
          clear HB
          clear HK
          clear HO_6
          have BK483 := n0_
          have HI0 := n1_
          have HB := n2_
          have HK := n3_
          have HO522 := n4_
          clear n0_ n1_ n2_ n3_ n4_
          clear ho hb hg hat
          refine hK.out _ _ ?_
          clear hK K
          refine no_ 47 ?_
          refine pu_ 10 6 (fl_ 11 11) ?_
          refine done_ (done_of HT_.out (by kernel_rfl)) ?_
          try go_wp2
          go_roundg k2
          case measure => have := HK1.out; have := HK2.out; omega
          case rel => exact ⟨(y520), (wrap64 (x8_2 + 1)), (t518), (t519), sd_, H', ⟨by have := HK1.out; have := HK2.out; omega⟩, ⟨kr_ HO522.out⟩, ⟨bk_ BK483.out⟩, ⟨hi_ HI0.out⟩, ⟨kp_ HK.out⟩, ⟨bl_ HB.out⟩⟩
         ·rw [if_neg c30] at H
          exact absurd H (by simp)
        ·rw [if_neg c28] at H
         exact absurd H (by simp)
       ·rw [if_neg c27] at H
        have c27b0 : decide (x8_2 < (wrap64 (1 + t513))) = false := decide_eq_false c27
        clear c27
        replace H := Option.bind_eq_some_iff.mp H
        obtain ⟨⟨t523, t526⟩, A350, H⟩ := H
        (try dsimp only at H)
        have A35 := Aside0.mk A350
        clear A350
        by_cases c36 : t526 = true
        ·subst c36
         rw [if_pos rfl] at H
         simp only [Option.some.injEq, Prod.mk.injEq] at H
         obtain ⟨rfl, rfl, rfl⟩ := H
         obtain ⟨Ao37, co37, eo37⟩ := Kd.R_slice HO_6.out
         subst eo37
         go_wp2_with (first | ((with_reducible refine gate_callee (f := 74) rfl ?_); refine gl_ 50 Try.func74 #[.slice Ao37 x6_2.length co37] ?_; (with_reducible refine (spec_FromGens.calls k2 _ _ x6_2 t523 true _ ?side1 ?side2 A35.out).mono ?_); (case side1 => exact rs_ HO_6); (case side2 => exact (Kd.R_reads' HO_6.out).2.1); rintro e w38 ⟨v524, rfl, ho0, hb⟩; refine ⟨_, rfl, ?_⟩; have HO525 := Aside0.mk (Kd.R_lower (Kd.R_new' ho0 (Kd.R_lt (kr_ HO_6.out))) (keep_size (w := w) (g := g) (row := none) (kp_ HK.out))); replace HO_6 := Aside0.mk (Kd.R_elder' (kr_ HO_6.out) (Kd.R_base ho0) hb); replace BK483 := bb_ BK483 hb; replace HI0 := Aside0.mk (IsS95.below (hi_ HI0.out) hb); replace HK := Aside0.mk (KeepBut.trans (kp_ HK.out) (KeepBut.of_below hb g none) (.inl rfl)); replace HB := bs_ HB hb; (try clear hb); (try clear hb2); (try clear hk); (try clear hi); (try clear ho0)) | ((with_reducible refine gate_dst (N := 9) rfl ?_); refine be_ 9 #[.slice none 0 0] 41 fun gb527 hg w39 hbox hb => ?_; replace HO_6 := rb_ HO_6 hb; replace HO525 := rb_ HO525 hb; replace HB := bs_ HB hb; have BK527 := Aside0.mk (hbox); have GW527 := Aside0.mk ((by rw [hg]; exact (keep_size (w := w) (g := g) (row := none) (kp_ HK.out)) : w.heap.size ≤ gb527)); have GE527 := Aside0.mk ((Nat.le_trans HW0.out (by rw [hg]; exact (keep_size (w := w) (g := g) (row := none) (kp_ HK.out)) : w.heap.size ≤ gb527) : w0.heap.size ≤ gb527)); replace HK := Aside0.mk (KeepBut.trans (kp_ HK.out) (KeepBut.of_below hb g none) (.inl rfl)); have NB483_527 := nl_ hg BK483; have NB527_483 := ng_ hg BK483; replace BK483 := bb_ BK483 hb; have NB0_527 := Aside0.mk ((by rw [hg]; exact Nat.ne_of_lt (IsS95.lt (show IsS95 w0 _ g s0_0 x1001_2 x1002_2 from hi_ HI0.out)) : g ≠ gb527)); have NB527_0 := Aside0.mk ((by rw [hg]; exact Nat.ne_of_gt (IsS95.lt (show IsS95 w0 _ g s0_0 x1001_2 x1002_2 from hi_ HI0.out)) : gb527 ≠ g)); replace HI0 := Aside0.mk (IsS95.below (hi_ HI0.out) hb); clear hb hbox hg; obtain ⟨Ao40, co40, eo40⟩ := Kd.R_slice HO525.out; subst eo40; have hnb41 := NB527_483.out; have hnc41 := NB483_527.out; have hnb42 := NB527_0.out; have hnc42 := NB0_527.out; have hcz43_0 := bc_ BK527; have hfz43_0 := blk_frozen BK527.out 0; have hnb44 := NB483_0.out; have hnc44 := NB0_483.out; have hcz45_0 := bc_ BK483; have hfz45_0 := blk_frozen BK483.out 0))
         refine bodyPost_ret (results_cell_row rfl _ _ gb483 41 #[.slice Ao40 t523.length co40] (0, 0) _ rfl (by (with_reducible repeat (first | refine blk_drewN ?_ _ | refine blk_drew ?_ | refine blk_alloc ?_ _)); refine blk_put (cs := #[.slice none 0 0]) ?_ 0 _ rfl; (with_reducible repeat (first | refine blk_drewN ?_ _ | refine blk_drew ?_ | refine blk_alloc ?_ _)); refine blk_far ?_ NB483_527.out _; (with_reducible repeat (first | refine blk_drewN ?_ _ | refine blk_drew ?_ | refine blk_alloc ?_ _)); exact BK483.out) Try.underlying41 rfl (by kernel_rfl)) rfl ?_
         exact ⟨_, er_, kr_ (Kd.R_mono (Kd.R_far (p := ⟨gb483, 0, none⟩) (Kd.R_far (p := ⟨gb527, 0, none⟩) (Kd.R_types (Kd.R_types HO525.out BK527.out (by decide)) BK483.out (by decide)) (fun _ hk => hk.1.2) (.slice Ao40 t523.length co40)) (fun _ hk => hk.2) (.slice Ao40 t523.length co40)) (fun _ hk => trivial)), hi_ HI0.out, bl_ HB.out, kp_ HK.out⟩
        ·obtain rfl := Bool.eq_false_iff.mpr c36
         rw [if_neg nf_] at H
         have H' := Aside0.mk H
         clear H
         obtain ⟨Ao46, co46, eo46⟩ := Kd.R_slice HO_6.out
         subst eo46
         go_wp2_with (first | ((with_reducible refine gate_callee (f := 74) rfl ?_); refine gl_ 50 Try.func74 #[.slice Ao46 x6_2.length co46] ?_; (with_reducible refine (spec_FromGens.calls k2 _ _ x6_2 t523 false _ ?side1 ?side2 A35.out).mono ?_); (case side1 => exact rs_ HO_6); (case side2 => exact (Kd.R_reads' HO_6.out).2.1); rintro e w47 ⟨v524, rfl, ho0, hb⟩; refine ⟨_, rfl, ?_⟩; have HO525 := Aside0.mk (Kd.R_lower (Kd.R_new' ho0 (Kd.R_lt (kr_ HO_6.out))) (keep_size (w := w) (g := g) (row := none) (kp_ HK.out))); replace HO_6 := Aside0.mk (Kd.R_elder' (kr_ HO_6.out) (Kd.R_base ho0) hb); replace BK483 := bb_ BK483 hb; replace HI0 := Aside0.mk (IsS95.below (hi_ HI0.out) hb); replace HK := Aside0.mk (KeepBut.trans (kp_ HK.out) (KeepBut.of_below hb g none) (.inl rfl)); replace HB := bs_ HB hb; (try clear hb); (try clear hb2); (try clear hk); (try clear hi); (try clear ho0)) | ((with_reducible refine gate_dst (N := 9) rfl ?_); refine be_ 9 #[.slice none 0 0] 41 fun gb527 hg w48 hbox hb => ?_; replace HO_6 := rb_ HO_6 hb; replace HO525 := rb_ HO525 hb; replace HB := bs_ HB hb; have BK527 := Aside0.mk (hbox); have GW527 := Aside0.mk ((by rw [hg]; exact (keep_size (w := w) (g := g) (row := none) (kp_ HK.out)) : w.heap.size ≤ gb527)); have GE527 := Aside0.mk ((Nat.le_trans HW0.out (by rw [hg]; exact (keep_size (w := w) (g := g) (row := none) (kp_ HK.out)) : w.heap.size ≤ gb527) : w0.heap.size ≤ gb527)); replace HK := Aside0.mk (KeepBut.trans (kp_ HK.out) (KeepBut.of_below hb g none) (.inl rfl)); have NB483_527 := nl_ hg BK483; have NB527_483 := ng_ hg BK483; replace BK483 := bb_ BK483 hb; have NB0_527 := Aside0.mk ((by rw [hg]; exact Nat.ne_of_lt (IsS95.lt (show IsS95 w0 _ g s0_0 x1001_2 x1002_2 from hi_ HI0.out)) : g ≠ gb527)); have NB527_0 := Aside0.mk ((by rw [hg]; exact Nat.ne_of_gt (IsS95.lt (show IsS95 w0 _ g s0_0 x1001_2 x1002_2 from hi_ HI0.out)) : gb527 ≠ g)); replace HI0 := Aside0.mk (IsS95.below (hi_ HI0.out) hb); clear hb hbox hg; obtain ⟨Ao49, co49, eo49⟩ := Kd.R_slice HO525.out; subst eo49; have hnb50 := NB527_483.out; have hnc50 := NB483_527.out; have hnb51 := NB527_0.out; have hnc51 := NB0_527.out; have hcz52_0 := bc_ BK527; have hfz52_0 := blk_frozen BK527.out 0))
         go_roundg k2
         case measure => have := HK1.out; have := HK2.out; omega
         case rel => exact ⟨(wrap64 (x5_1 + 1)), (x1001_2), (x1002_2), sd_, H', ⟨by have := HK1.out; have := HK2.out; omega⟩, ⟨bf_ BK483.out⟩, ⟨hi_ HI0.out⟩, ⟨kp_ HK.out⟩, ⟨bl_ HB.out⟩⟩
    ·rw [if_neg c20] at H
     have c20b0 : decide (x5_1 < 4) = false := decide_eq_false c20
     clear c20
     replace H := Option.bind_eq_some_iff.mp H
     obtain ⟨⟨t497, t500, t501⟩, A530, H⟩ := H
     (try dsimp only at H)
     have A53 := Aside0.mk A530
     clear A530
     replace H := Option.bind_eq_some_iff.mp H
     obtain ⟨⟨t502, t505⟩, A540, H⟩ := H
     (try dsimp only at H)
     have A54 := Aside0.mk A540
     clear A540
     simp only [Option.some.injEq, Prod.mk.injEq] at H
     obtain ⟨rfl, rfl, rfl⟩ := H
     go_wp2_with (first | ((with_reducible refine gate_callee (f := 150) rfl ?_); refine gl_ 57 Try.func150 #[.pointer (some ⟨g, 0, none⟩)] ?_; (with_reducible refine (spec_l3List.calls g s0_0 x1001_1 x1002_1 t497 t500 t501 w0 _ ?side1 ?side2 A53.out).mono ?_); (case side1 => exact hi_ HI0.out); (case side2 => exact bl_ HB.out); rintro e w55 ⟨v498, rfl, ho0, hi, hb, hk⟩; refine ⟨_, rfl, ?_⟩; replace BK483 := Aside0.mk (KeepBut.blk hk (g' := gb483) (o := .cells #[.slice none 0 0] 41 (0, 0)) (bk_ BK483.out) NB483_0.out (by simp)); have HO499 := Aside0.mk (Kd.R_lower ho0 (keep_size (w := w) (g := g) (row := none) (kp_ HK.out))); replace HK := Aside0.mk (KeepBut.trans (kp_ HK.out) hk (.inl rfl)); replace HB := Aside0.mk (hb); replace HI0 := Aside0.mk (hi); (try clear hb); (try clear hb2); (try clear hk); (try clear hi); (try clear ho0); obtain ⟨Ao56, co56, eo56⟩ := Kd.R_slice HO499.out; subst eo56) | ((with_reducible refine gate_callee (f := 74) rfl ?_); refine gl_ 58 Try.func74 #[.slice Ao56 t497.length co56] ?_; (with_reducible refine (spec_FromGens.calls k1 _ _ t497 t502 t505 _ ?side1 ?side2 A54.out).mono ?_); (case side1 => exact rs_ HO499); (case side2 => exact (Kd.R_reads' HO499.out).2.1); rintro e w57 ⟨v503, rfl, ho0, hb⟩; refine ⟨_, rfl, ?_⟩; have HO504 := Aside0.mk (Kd.R_lower (Kd.R_new' ho0 (Kd.R_lt (kr_ HO499.out))) (keep_size (w := w) (g := g) (row := none) (kp_ HK.out))); replace HO499 := Aside0.mk (Kd.R_elder' (kr_ HO499.out) (Kd.R_base ho0) hb); replace BK483 := bb_ BK483 hb; replace HI0 := Aside0.mk (IsS95.below (hi_ HI0.out) hb); replace HK := Aside0.mk (KeepBut.trans (kp_ HK.out) (KeepBut.of_below hb g none) (.inl rfl)); replace HB := bs_ HB hb; (try clear hb); (try clear hb2); (try clear hk); (try clear hi); (try clear ho0)) | ((with_reducible refine gate_dst (N := 11) rfl ?_); refine be_ 11 #[.slice none 0 0] 41 fun gb506 hg w58 hbox hb => ?_; replace HO499 := rb_ HO499 hb; replace HO504 := rb_ HO504 hb; replace HB := bs_ HB hb; have BK506 := Aside0.mk (hbox); have GW506 := Aside0.mk ((by rw [hg]; exact (keep_size (w := w) (g := g) (row := none) (kp_ HK.out)) : w.heap.size ≤ gb506)); have GE506 := Aside0.mk ((Nat.le_trans HW0.out (by rw [hg]; exact (keep_size (w := w) (g := g) (row := none) (kp_ HK.out)) : w.heap.size ≤ gb506) : w0.heap.size ≤ gb506)); replace HK := Aside0.mk (KeepBut.trans (kp_ HK.out) (KeepBut.of_below hb g none) (.inl rfl)); have NB483_506 := nl_ hg BK483; have NB506_483 := ng_ hg BK483; replace BK483 := bb_ BK483 hb; have NB0_506 := Aside0.mk ((by rw [hg]; exact Nat.ne_of_lt (IsS95.lt (show IsS95 w0 _ g s0_0 t500 t501 from hi_ HI0.out)) : g ≠ gb506)); have NB506_0 := Aside0.mk ((by rw [hg]; exact Nat.ne_of_gt (IsS95.lt (show IsS95 w0 _ g s0_0 t500 t501 from hi_ HI0.out)) : gb506 ≠ g)); replace HI0 := Aside0.mk (IsS95.below (hi_ HI0.out) hb); clear hb hbox hg; obtain ⟨Ao59, co59, eo59⟩ := Kd.R_slice HO504.out; subst eo59; have hnb60 := NB506_483.out; have hnc60 := NB483_506.out; have hnb61 := NB506_0.out; have hnc61 := NB0_506.out; have hcz62_0 := bc_ BK506; have hfz62_0 := blk_frozen BK506.out 0; have hnb63 := NB483_0.out; have hnc63 := NB0_483.out; have hcz64_0 := bc_ BK483; have hfz64_0 := blk_frozen BK483.out 0))
     refine bodyPost_ret (results_cell_row rfl _ _ gb483 41 #[.slice Ao59 t502.length co59] (0, 0) _ rfl (by (with_reducible repeat (first | refine blk_drewN ?_ _ | refine blk_drew ?_ | refine blk_alloc ?_ _)); refine blk_put (cs := #[.slice none 0 0]) ?_ 0 _ rfl; (with_reducible repeat (first | refine blk_drewN ?_ _ | refine blk_drew ?_ | refine blk_alloc ?_ _)); refine blk_far ?_ NB483_506.out _; (with_reducible repeat (first | refine blk_drewN ?_ _ | refine blk_drew ?_ | refine blk_alloc ?_ _)); exact BK483.out) Try.underlying41 rfl (by kernel_rfl)) rfl ?_
     exact ⟨_, er_, kr_ (Kd.R_mono (Kd.R_far (p := ⟨gb483, 0, none⟩) (Kd.R_far (p := ⟨gb506, 0, none⟩) (Kd.R_types (Kd.R_types HO504.out BK506.out (by decide)) BK483.out (by decide)) (fun _ hk => hk.1.2) (.slice Ao59 t502.length co59)) (fun _ hk => hk.2) (.slice Ao59 t502.length co59)) (fun _ hk => trivial)), hi_ HI0.out, bl_ HB.out, kp_ HK.out⟩
end Go.Proofs.Ytbjbolblahlhcaa.PFnGlued
