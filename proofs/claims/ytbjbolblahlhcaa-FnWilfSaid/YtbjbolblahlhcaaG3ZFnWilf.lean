/- Part 3 of the claim for FnWilf, of the chain from the printed contracts and the plain laws to the row. It has no condition of its own. -/
import Derived.Test.YtbjbolblahlhcaaG1ZFnWilf
section
namespace Go.Proofs.Ytbjbolblahlhcaa.PFnWilf
open Go.RowKit Go.Proofs.YtbjbolblahlhcaaW.PrintWords Go.Proofs.YtbjbolblahlhcaaW.PrintLast Go.Proofs.YtbjbolblahlhcaaW.PrintMore
open Go.Proofs.Ytbjbolblahlhcaa.SortW (bk_ kr_ t_ f_)
open Go.Proofs.Ytbjbolblahlhcaa.SqW
attribute [local go_sem] max2_int min2_int max_two min_two max_three min_three max_four min_four
set_option linter.unusedVariables false
set_option linter.unusedSimpArgs false
mutual
def spec_SortList.l0 : Nat → List Int → List Int → Int → Option (List Int)
 | 0, _, _, _ => none
 | k + 1, x0, x3, x4 => if x4 < (x0.length : Int) then (spec_SortList.l1 k x0 x3 x4 (x3.length : Int)) else (some x3)
def spec_SortList.l1 : Nat → List Int → List Int → Int → Int → Option (List Int)
 | 0, _, _, _, _ => none
 | k + 1, x0, x3, x4, x5 => if x5 > 0 then (if 0 ≤ (wrap64 (x5 - 1)) then (if (wrap64 (x5 - 1)) < (x3.length : Int) then (if 0 ≤ x4 then (if x4 < (x0.length : Int) then (if (rd x3 (wrap64 (x5 - 1))) > (rd x0 x4) then (spec_SortList.l1 k x0 x3 x4 (wrap64 (x5 - 1))) else (if (rd x3 (wrap64 (x5 - 1))) = (rd x0 x4) then (spec_SortList.l0 k x0 x3 (wrap64 (x4 + 1))) else ((some (([] : List Int) : List Int)).bind fun y145 => (if 0 ≤ x5 then (if x5 ≤ (x3.length : Int) then ((some (x3.drop (x5 : Int).toNat : List Int)).bind fun y148 => (if y145.length + y148.length < 17592186044416 then ((some (y145 ++ y148 : List Int)).bind fun y152 => ((some (x3.take (x5 : Int).toNat : List Int)).bind fun y155 => (if y155.length < 17592186044416 then ((some (y155 ++ [rd x0 x4] : List Int)).bind fun y159 => (if y159.length + y152.length < 17592186044416 then (spec_SortList.l0 k x0 (y159 ++ y152) (wrap64 (x4 + 1))) else (none))) else (none)))) else (none))) else (none)) else (none))))) else (none)) else (none)) else (none)) else (none)) else ((some (([] : List Int) : List Int)).bind fun y165 => (if 0 ≤ x5 then (if x5 ≤ (x3.length : Int) then ((some (x3.drop (x5 : Int).toNat : List Int)).bind fun y168 => (if y165.length + y168.length < 17592186044416 then ((some (y165 ++ y168 : List Int)).bind fun y172 => ((some (x3.take (x5 : Int).toNat : List Int)).bind fun y175 => (if 0 ≤ x4 then (if x4 < (x0.length : Int) then (if y175.length < 17592186044416 then ((some (y175 ++ [rd x0 x4] : List Int)).bind fun y179 => (if y179.length + y172.length < 17592186044416 then (spec_SortList.l0 k x0 (y179 ++ y172) (wrap64 (x4 + 1))) else (none))) else (none)) else (none)) else (none)))) else (none))) else (none)) else (none)))
end
def spec_SortList.f (k : Nat) (l0 : List Int) : Option (List Int) := spec_SortList.l0 k l0 (([] : List Int)) 0
def spec_SortList.T6 : Bool × List (List Nat × List Nat) := (true, [([], []), ([0], [0]), ([1], [1]), ([2], [2]), ([2], [2]), ([4, 2], [2, 4]), ([3, 5, 2], [2, 3, 5]), ([6, 2], [2, 6]), ([2], [2]), ([2], [2]), ([8, 9, 2], [2, 8, 9]), ([10, 2], [2, 10]), ([7, 11, 2], [2, 7, 11]), ([2, 12], [2, 12])])
def spec_SortList.B6 : List Nat := [0, 1, 3, 7, 7, 23, 63, 127, 7, 7, 775, 1799, 4095, 8191]
theorem spec_SortList.tab6 : rtab .any (opsOf Try.f139 6) = spec_SortList.T6 := by kernel_rfl
theorem spec_SortList.bits6 : waitsOk spec_SortList.T6.2 spec_SortList.B6 = true := by kernel_rfl
def spec_SortList.T8 : Bool × List (List Nat × List Nat) := (true, [([], []), ([0], [0]), ([1], [1]), ([2], [2]), ([2], [2]), ([4, 2], [2, 4]), ([3, 5, 2], [2, 3, 5]), ([6, 2], [2, 6]), ([2], [2]), ([2], [2]), ([8, 9, 2], [2, 8, 9]), ([10, 2], [2, 10]), ([7, 11, 2], [2, 7, 11]), ([2, 12], [2, 12])])
def spec_SortList.B8 : List Nat := [0, 1, 3, 7, 7, 23, 63, 127, 7, 7, 775, 1799, 4095, 8191]
theorem spec_SortList.tab8 : rtab .any (opsOf Try.f139 8) = spec_SortList.T8 := by kernel_rfl
theorem spec_SortList.bits8 : waitsOk spec_SortList.T8.2 spec_SortList.B8 = true := by kernel_rfl
def spec_SortList.T10 : Bool × List (List Nat × List Nat) := (true, [([], []), ([], []), ([0, 1], [0, 1]), ([], []), ([], []), ([3, 4], [3, 4]), ([5], [5]), ([6], [6]), ([2, 7], [2, 7]), ([], []), ([8, 9, 8], [8, 9]), ([10, 10, 0, 1, 2, 3, 4, 5, 6, 7, 8, 9, 10], [0, 10])])
def spec_SortList.B10 : List Nat := [0, 0, 3, 0, 0, 24, 56, 120, 255, 0, 1023, 2047]
theorem spec_SortList.tab10 : rtab .any (opsOf Try.f139 10) = spec_SortList.T10 := by kernel_rfl
theorem spec_SortList.bits10 : waitsOk spec_SortList.T10.2 spec_SortList.B10 = true := by kernel_rfl
set_option maxHeartbeats 8000000 in
set_option maxRecDepth 100000 in
theorem spec_SortList.calls (k : Nat) (A0 : Option Addr) (c0 : Nat) (l0 : List Int) (r : List Int) (w : World) (hr0 : Kd.C (Kd.int .i64) w A0 l0.length l0) (hc0 : l0.length ≤ c0) (h : spec_SortList.f k l0 = some r) :
 Calls Try.prog 139 #[.slice A0 l0.length c0] w fun e w' => ∃ v0_ : Value, e = .returned (v0_) ∧ Kd.R (Kd.int .i64) 3 w' w.heap.size (fun _ => True) v0_ r ∧ Below w.heap.size w w' := by
 have HR0 := Aside0.mk hr0
 have HC0 := Aside0.mk hc0
 clear hr0 hc0
 have HB := Aside0.mk (Below.refl w.heap.size w)
 have H := h
 clear h
 unfold spec_SortList.f at H
 obtain ⟨y138, hy138⟩ : ∃ y_ : List Int, y_ = (([] : List Int)) := ⟨_, rfl⟩
 replace H : (spec_SortList.l0 k l0 y138 0) = some r := by first | (rw [hy138]; with_reducible exact H) | (have H2_ := (Option.bind_some _ _).symm.trans H; rw [hy138]; with_reducible exact H2_) | (have H2_ := (Option.bind_some _ _).symm.trans H; with_reducible exact H2_) | with_reducible exact H | (rw [hy138]; exact H) | exact H
 have Ny138 := Aside0.mk hy138
 clear hy138
 have H' := Aside0.mk H
 clear H
 go_enter Try.func139, Try.ntmps139
 go_wp2_with (first | ((with_reducible refine gate_dst (N := 7) rfl ?_); refine Kd.R_lit (Kd.int .i64) _ 3 ?hg (N := 7) ?hd (xs := ([] : List Int)) (inner := []) (ok := fun _ => True) (okp := fun _ => True) ?hr ?hp (fun _ hk => hk) trivial (Below.refl _ _) (Nat.le_refl _) (by simp) ?_; (case hd => rfl); (case hg => rfl); (case hr => first | (go_simp; done) | (go_simp; rfl)); (case hp => exact (Reps.none _ _)); intro v139 w2 ho3 hb hg_ hnew_; clear hg_ hnew_; (first | rw [← Ny138.out] at ho3 | (simp only [Int.reduceToNat] at ho3; rw [← Ny138.out] at ho3)); have HO140 := rl_ ho3 HB; replace HB := bs_ HB hb; clear hb ho3))
 go_loopg [3, 4] k (fun kq v3 v4 w' => ∃ (x3_1 : List Int) (x4_1 : Int), v4 = .int .i64 x4_1 ∧ Aside0 (spec_SortList.l0 kq l0 x3_1 x4_1 = some r) ∧ Aside0 (kq ≤ k) ∧ Aside0 (Kd.R (Kd.int .i64) 3 w' w.heap.size (fun _ => True) v3 x3_1) ∧ Aside0 (Below w.heap.size w w'))
 case atStart => exact ⟨(y138), (0), sd_, H', ⟨Nat.le_refl _⟩, ⟨kr_ HO140.out⟩, ⟨bl_ HB.out⟩⟩
 case round =>
  clear H'
  try clear c1
  try clear p2
  obtain ⟨x3_1, x4_1, rfl, HA, HK1, HO_3, HB⟩ := hrel
  cases gk with
  | zero => exact absurd HA.out (by simp [spec_SortList.l0])
  | succ k1 =>
   have H := HA.out
   clear HA
   simp only [spec_SortList.l0] at H
   by_cases c4 : x4_1 < (l0.length : Int)
   ·rw [if_pos c4] at H
    have c4b0 : decide (x4_1 < (l0.length : Int)) = true := decide_eq_true c4
    clear c4
    have H' := Aside0.mk H
    clear H
    obtain ⟨Ao5, co5, eo5⟩ := Kd.R_slice HO_3.out
    subst eo5
    go_wp2
    go_loopg [5] k1 (fun kq v5 w' => ∃ (x5_2 : Int), v5 = .int .i64 x5_2 ∧ Aside0 (spec_SortList.l1 kq l0 x3_1 x4_1 x5_2 = some r) ∧ Aside0 (kq ≤ k1) ∧ Aside0 (Kd.R (Kd.int .i64) 3 w' w.heap.size (fun _ => True) (.slice Ao5 x3_1.length co5) x3_1) ∧ Aside0 (Below w.heap.size w w'))
    case atStart => exact ⟨((x3_1.length : Int)), sd_, H', ⟨Nat.le_refl _⟩, ⟨kr_ HO_3.out⟩, ⟨bl_ HB.out⟩⟩
    case round =>
     clear H'
     try clear c1
     try clear p2
     try clear c4
     try clear c4b0
     try clear p2
     obtain ⟨x5_2, rfl, HA, HK2, HO_3, HB⟩ := hrel
     cases gk with
     | zero => exact absurd HA.out (by simp [spec_SortList.l1])
     | succ k2 =>
      have H := HA.out
      clear HA
      simp only [spec_SortList.l1] at H
      by_cases c6 : x5_2 > 0
      ·rw [if_pos c6] at H
       have c6b0 : decide (0 < x5_2) = true := decide_eq_true c6
       clear c6
       obtain ⟨ji7, hji7⟩ : ∃ j_ : Int, (wrap64 (x5_2 - 1)) = j_ := ⟨_, rfl⟩
       replace H : (if 0 ≤ (ji7) then (if (ji7) < (x3_1.length : Int) then (if 0 ≤ x4_1 then (if x4_1 < (l0.length : Int) then (if (rd x3_1 (ji7)) > (rd l0 x4_1) then (spec_SortList.l1 k2 l0 x3_1 x4_1 ji7) else (if (rd x3_1 (ji7)) = (rd l0 x4_1) then (spec_SortList.l0 k2 l0 x3_1 (wrap64 (x4_1 + 1))) else ((some (([] : List Int) : List Int)).bind fun y145 => (if 0 ≤ x5_2 then (if x5_2 ≤ (x3_1.length : Int) then ((some (x3_1.drop (x5_2 : Int).toNat : List Int)).bind fun y148 => (if y145.length + y148.length < 17592186044416 then ((some (y145 ++ y148 : List Int)).bind fun y152 => ((some (x3_1.take (x5_2 : Int).toNat : List Int)).bind fun y155 => (if y155.length < 17592186044416 then ((some (y155 ++ [rd l0 x4_1] : List Int)).bind fun y159 => (if y159.length + y152.length < 17592186044416 then (spec_SortList.l0 k2 l0 (y159 ++ y152) (wrap64 (x4_1 + 1))) else (none))) else (none)))) else (none))) else (none)) else (none))))) else (none)) else (none)) else (none)) else (none)) = some r := by first | (rw [hji7] at H; exact H) | (simp only [hji7] at H ⊢; exact H)
       have hji7w : (IntKind.i64.wrap (x5_2 - 1)) = ji7 := (i64_w _).trans hji7
       by_cases c8 : 0 ≤ (ji7)
       ·rw [if_pos c8] at H
        have c8b0 : decide (0 ≤ (ji7)) = true := decide_eq_true c8
        clear c8
        by_cases c9 : (ji7) < (x3_1.length : Int)
        ·rw [if_pos c9] at H
         have c9b0 : decide ((ji7) < (x3_1.length : Int)) = true := decide_eq_true c9
         clear c9
         by_cases c10 : 0 ≤ x4_1
         ·rw [if_pos c10] at H
          have c10b0 : decide (0 ≤ x4_1) = true := decide_eq_true c10
          clear c10
          by_cases c11 : x4_1 < (l0.length : Int)
          ·rw [if_pos c11] at H
           have c11b0 : decide (x4_1 < (l0.length : Int)) = true := decide_eq_true c11
           clear c11
           by_cases c12 : (rd x3_1 (ji7)) > (rd l0 x4_1)
           ·rw [if_pos c12] at H
            have c12b0 : decide ((rd l0 x4_1) < (rd x3_1 (ji7))) = true := decide_eq_true c12
            clear c12
            have H' := Aside0.mk H
            clear H
            try go_wp2
            replace HO_3 := Aside0.mk (Kd.R_drew HO_3.out)
            replace HB := Aside0.mk (below_drew1 HB.out)
            have p141 : 0 ≤ ((ji7) : Int) := od_
            have q141 : (ji7) < (x3_1.length : Int) := od_
            obtain ⟨ad141, e141, hx141_0⟩ := Kd.at_int (Kd.R_reads' HO_3.out).2.2 (ji7) p141 q141
            cases e141
            replace p141 := eq_true p141
            replace q141 := eq_true q141
            have p142 : 0 ≤ (x4_1 : Int) := od_
            have q142 : x4_1 < (l0.length : Int) := od_
            obtain ⟨ad142, e142, hx142_0⟩ := Kd.at_int HR0.out x4_1 p142 q142
            have hw142_0 := hx142_0
            cases e142
            replace hx142_0 := (HB.out.cell (World.block_lt_of_cell? w _ hx142_0)).trans hx142_0
            replace p142 := eq_true p142
            replace q142 := eq_true q142
            refine start_ (n := 14) (S := fun w' => w'.cell? (ad141.add ((ji7)).toNat) = some (.int .i64 (rd x3_1 (ji7))) ∧ w'.cell? (ad142.add (x4_1).toNat) = some (.int .i64 (rd l0 x4_1))) (ds := []) (fl_ 14 0) (by kernel_rfl) rfl rfl ⟨hx141_0, ((HB.out.cell (World.block_lt_of_cell? w _ hw142_0)).trans hw142_0)⟩ (fun hHeld => ?_); refine with_tabW spec_SortList.tab6 spec_SortList.bits6 (fun HT_ HW_ => ?_)
            generalize wr.drew = w13 at HO_3 HB hx141_0 hx142_0 hHeld ⊢
            refine pu_ 0 16 (fl_ 14 1) ?_
            refine pu_ 1 17 (fl_ 14 2) ?_
            refine pu_ 2 18 (fl_ 14 3) ?_
            refine pu_ 3 19 (fl_ 14 4) ?_
            refine pu_ 4 20 (fl_ 14 5) ?_
            refine pu_ 5 21 (fl_ 14 6) ?_
            refine pu_ 6 22 (fl_ 14 7) ?_
            refine pu_ 8 24 (fm_ 14 383) ?_
            refine pu_ 9 25 (fm_ 14 895) ?_
            refine pu_ 10 26 (fm_ 14 1919) ?_
            refine ta_ 7 23 (fl_ 14 11) ?_
            refine ta_ 11 27 (fl_ 14 12) ?_
            refine pu_ 12 28 (fl_ 14 13) ?_
            refine pu_ 13 29 (fl_ 14 14) ?_
            refine done_ (done_of HT_.out (by kernel_rfl)) ?_
            try go_wp2
            go_roundg k2
            case measure => have := HK1.out; have := HK2.out; omega
            case rel => exact ⟨(ji7), (by first | rfl | (simp; done) | (simp only [← hji7] <;> (first | rfl | simp)) | (simp [*]; done)), H', ⟨by have := HK1.out; have := HK2.out; omega⟩, ⟨kr_ HO_3.out⟩, ⟨bl_ HB.out⟩⟩
           ·rw [if_neg c12] at H
            have c12b0 : decide ((rd l0 x4_1) < (rd x3_1 (ji7))) = false := decide_eq_false c12
            clear c12
            by_cases c14 : (rd x3_1 (ji7)) = (rd l0 x4_1)
            ·rw [if_pos c14] at H
             have c14b0 : ((rd x3_1 (ji7)) == (rd l0 x4_1)) = true := beq_iff_eq.mpr c14
             have c14b1 : ((rd x3_1 (ji7)) != (rd l0 x4_1)) = false := bne_eq_false_iff_eq.mpr c14
             clear c14
             have H' := Aside0.mk H
             clear H
             try go_wp2
             replace HO_3 := Aside0.mk (Kd.R_drew HO_3.out)
             replace HB := Aside0.mk (below_drew1 HB.out)
             have p141 : 0 ≤ ((ji7) : Int) := od_
             have q141 : (ji7) < (x3_1.length : Int) := od_
             obtain ⟨ad141, e141, hx141_0⟩ := Kd.at_int (Kd.R_reads' HO_3.out).2.2 (ji7) p141 q141
             cases e141
             replace p141 := eq_true p141
             replace q141 := eq_true q141
             have p142 : 0 ≤ (x4_1 : Int) := od_
             have q142 : x4_1 < (l0.length : Int) := od_
             obtain ⟨ad142, e142, hx142_0⟩ := Kd.at_int HR0.out x4_1 p142 q142
             have hw142_0 := hx142_0
             cases e142
             replace hx142_0 := (HB.out.cell (World.block_lt_of_cell? w _ hx142_0)).trans hx142_0
             replace p142 := eq_true p142
             replace q142 := eq_true q142
             refine start_ (n := 14) (S := fun w' => w'.cell? (ad141.add ((ji7)).toNat) = some (.int .i64 (rd x3_1 (ji7))) ∧ w'.cell? (ad142.add (x4_1).toNat) = some (.int .i64 (rd l0 x4_1))) (ds := []) (fl_ 14 0) (by kernel_rfl) rfl rfl ⟨hx141_0, ((HB.out.cell (World.block_lt_of_cell? w _ hw142_0)).trans hw142_0)⟩ (fun hHeld => ?_); refine with_tabW spec_SortList.tab6 spec_SortList.bits6 (fun HT_ HW_ => ?_)
             generalize wr.drew = w15 at HO_3 HB hx141_0 hx142_0 hHeld ⊢
             refine pu_ 0 16 (fl_ 14 1) ?_
             refine pu_ 1 17 (fl_ 14 2) ?_
             refine pu_ 2 18 (fl_ 14 3) ?_
             refine pu_ 3 19 (fl_ 14 4) ?_
             refine pu_ 4 20 (fl_ 14 5) ?_
             refine pu_ 5 21 (fl_ 14 6) ?_
             refine pu_ 6 22 (fl_ 14 7) ?_
             refine pu_ 8 24 (fm_ 14 383) ?_
             refine pu_ 9 25 (fm_ 14 895) ?_
             refine pu_ 10 26 (fm_ 14 1919) ?_
             refine ta_ 7 23 (fl_ 14 11) ?_
             refine ta_ 11 27 (fl_ 14 12) ?_
             refine pu_ 12 28 (fl_ 14 13) ?_
             refine pu_ 13 29 (fl_ 14 14) ?_
             refine done_ (done_of HT_.out (by kernel_rfl)) ?_
             try go_wp2
             replace HO_3 := Aside0.mk (Kd.R_drew HO_3.out)
             replace HB := Aside0.mk (below_drew1 HB.out)
             have p143 : 0 ≤ ((ji7) : Int) := od_
             have q143 : (ji7) < (x3_1.length : Int) := od_
             obtain ⟨ad143, e143, hx143_0⟩ := Kd.at_int (Kd.R_reads' HO_3.out).2.2 (ji7) p143 q143
             obtain rfl : ad141 = ad143 := (by injection e143)
             replace p143 := eq_true p143
             replace q143 := eq_true q143
             have p144 : 0 ≤ (x4_1 : Int) := od_
             have q144 : x4_1 < (l0.length : Int) := od_
             obtain ⟨ad144, e144, hx144_0⟩ := Kd.at_int HR0.out x4_1 p144 q144
             have hw144_0 := hx144_0
             obtain rfl : ad142 = ad144 := (by injection e144)
             replace hx144_0 := (HB.out.cell (World.block_lt_of_cell? w _ hx144_0)).trans hx144_0
             replace p144 := eq_true p144
             replace q144 := eq_true q144
             refine start_ (n := 14) (S := fun w' => w'.cell? (ad141.add ((ji7)).toNat) = some (.int .i64 (rd x3_1 (ji7))) ∧ w'.cell? (ad142.add (x4_1).toNat) = some (.int .i64 (rd l0 x4_1))) (ds := []) (fl_ 14 0) (by kernel_rfl) rfl rfl ⟨hx143_0, ((HB.out.cell (World.block_lt_of_cell? w _ hw144_0)).trans hw144_0)⟩ (fun hHeld => ?_); refine with_tabW spec_SortList.tab8 spec_SortList.bits8 (fun HT_ HW_ => ?_)
             generalize w15.drew = w16 at HO_3 HB hx143_0 hx144_0 hHeld ⊢
             refine pu_ 0 32 (fl_ 14 1) ?_
             refine pu_ 1 33 (fl_ 14 2) ?_
             refine pu_ 2 34 (fl_ 14 3) ?_
             refine pu_ 3 35 (fl_ 14 4) ?_
             refine pu_ 4 36 (fl_ 14 5) ?_
             refine pu_ 5 37 (fl_ 14 6) ?_
             refine pu_ 6 38 (fl_ 14 7) ?_
             refine pu_ 8 40 (fm_ 14 383) ?_
             refine pu_ 9 41 (fm_ 14 895) ?_
             refine pu_ 10 42 (fm_ 14 1919) ?_
             refine ta_ 7 39 (fl_ 14 11) ?_
             refine ta_ 11 43 (fl_ 14 12) ?_
             refine pu_ 12 44 (fl_ 14 13) ?_
             refine pu_ 13 45 (fl_ 14 14) ?_
             refine done_ (done_of HT_.out (by kernel_rfl)) ?_
             try go_wp2
             go_roundg k2
             case measure => have := HK1.out; have := HK2.out; omega
             case rel => exact ⟨(x3_1), (wrap64 (x4_1 + 1)), sd_, H', ⟨by have := HK1.out; have := HK2.out; omega⟩, ⟨kr_ HO_3.out⟩, ⟨bl_ HB.out⟩⟩
            ·rw [if_neg c14] at H
             have c14b0 : ((rd x3_1 (ji7)) == (rd l0 x4_1)) = false := beq_eq_false_iff_ne.mpr c14
             have c14b1 : ((rd x3_1 (ji7)) != (rd l0 x4_1)) = true := bne_iff_ne.mpr c14
             obtain ⟨y145, hy145⟩ : ∃ y_ : List Int, y_ = (([] : List Int)) := ⟨_, rfl⟩
             replace H : (if 0 ≤ x5_2 then (if x5_2 ≤ (x3_1.length : Int) then ((some (x3_1.drop (x5_2 : Int).toNat : List Int)).bind fun y148 => (if y145.length + y148.length < 17592186044416 then ((some (y145 ++ y148 : List Int)).bind fun y152 => ((some (x3_1.take (x5_2 : Int).toNat : List Int)).bind fun y155 => (if y155.length < 17592186044416 then ((some (y155 ++ [rd l0 x4_1] : List Int)).bind fun y159 => (if y159.length + y152.length < 17592186044416 then (spec_SortList.l0 k2 l0 (y159 ++ y152) (wrap64 (x4_1 + 1))) else (none))) else (none)))) else (none))) else (none)) else (none)) = some r := by first | (rw [hy145]; with_reducible exact H) | (have H2_ := (Option.bind_some _ _).symm.trans H; rw [hy145]; with_reducible exact H2_) | (have H2_ := (Option.bind_some _ _).symm.trans H; with_reducible exact H2_) | with_reducible exact H | (rw [hy145]; exact H) | exact H
             have Ny145 := Aside0.mk hy145
             clear hy145
             by_cases c17 : 0 ≤ x5_2
             ·rw [if_pos c17] at H
              have c17b0 := eq_true c17
              have c17b1 : decide (0 ≤ x5_2) = true := decide_eq_true c17
              clear c17
              by_cases c18 : x5_2 ≤ (x3_1.length : Int)
              ·rw [if_pos c18] at H
               have c18b0 := eq_true c18
               have c18b1 : decide (x5_2 ≤ (x3_1.length : Int)) = true := decide_eq_true c18
               clear c18
               obtain ⟨y148, hy148⟩ : ∃ y_ : List Int, y_ = (x3_1.drop (x5_2 : Int).toNat) := ⟨_, rfl⟩
               replace H : (if y145.length + y148.length < 17592186044416 then ((some (y145 ++ y148 : List Int)).bind fun y152 => ((some (x3_1.take (x5_2 : Int).toNat : List Int)).bind fun y155 => (if y155.length < 17592186044416 then ((some (y155 ++ [rd l0 x4_1] : List Int)).bind fun y159 => (if y159.length + y152.length < 17592186044416 then (spec_SortList.l0 k2 l0 (y159 ++ y152) (wrap64 (x4_1 + 1))) else (none))) else (none)))) else (none)) = some r := by first | (rw [hy148]; with_reducible exact H) | (have H2_ := (Option.bind_some _ _).symm.trans H; rw [hy148]; with_reducible exact H2_) | (have H2_ := (Option.bind_some _ _).symm.trans H; with_reducible exact H2_) | with_reducible exact H | (rw [hy148]; exact H) | exact H
               have Ny148 := Aside0.mk hy148
               clear hy148
               by_cases c19 : y145.length + y148.length < 17592186044416
               ·rw [if_pos c19] at H
                have LMc19 := Aside0.mk c19
                clear c19
                obtain ⟨y152, hy152⟩ : ∃ y_ : List Int, y_ = (y145 ++ y148) := ⟨_, rfl⟩
                replace H : ((some (x3_1.take (x5_2 : Int).toNat : List Int)).bind fun y155 => (if y155.length < 17592186044416 then ((some (y155 ++ [rd l0 x4_1] : List Int)).bind fun y159 => (if y159.length + y152.length < 17592186044416 then (spec_SortList.l0 k2 l0 (y159 ++ y152) (wrap64 (x4_1 + 1))) else (none))) else (none))) = some r := by first | (rw [hy152]; with_reducible exact H) | (have H2_ := (Option.bind_some _ _).symm.trans H; rw [hy152]; with_reducible exact H2_) | (have H2_ := (Option.bind_some _ _).symm.trans H; with_reducible exact H2_) | with_reducible exact H | (rw [hy152]; exact H) | exact H
                have Ny152 := Aside0.mk hy152
                clear hy152
                have c20b0 := eq_true (od_ : x5_2 ≤ (x3_1.length : Int))
                obtain ⟨y155, hy155⟩ : ∃ y_ : List Int, y_ = (x3_1.take (x5_2 : Int).toNat) := ⟨_, rfl⟩
                replace H : (if y155.length < 17592186044416 then ((some (y155 ++ [rd l0 x4_1] : List Int)).bind fun y159 => (if y159.length + y152.length < 17592186044416 then (spec_SortList.l0 k2 l0 (y159 ++ y152) (wrap64 (x4_1 + 1))) else (none))) else (none)) = some r := by first | (rw [hy155]; with_reducible exact H) | (have H2_ := (Option.bind_some _ _).symm.trans H; rw [hy155]; with_reducible exact H2_) | (have H2_ := (Option.bind_some _ _).symm.trans H; with_reducible exact H2_) | with_reducible exact H | (rw [hy155]; exact H) | exact H
                have Ny155 := Aside0.mk hy155
                clear hy155
                by_cases c21 : y155.length < 17592186044416
                ·rw [if_pos c21] at H
                 have LMc21 := Aside0.mk c21
                 clear c21
                 obtain ⟨y159, hy159⟩ : ∃ y_ : List Int, y_ = (y155 ++ [rd l0 x4_1]) := ⟨_, rfl⟩
                 replace H : (if y159.length + y152.length < 17592186044416 then (spec_SortList.l0 k2 l0 (y159 ++ y152) (wrap64 (x4_1 + 1))) else (none)) = some r := by first | (rw [hy159]; with_reducible exact H) | (have H2_ := (Option.bind_some _ _).symm.trans H; rw [hy159]; with_reducible exact H2_) | (have H2_ := (Option.bind_some _ _).symm.trans H; with_reducible exact H2_) | with_reducible exact H | (rw [hy159]; exact H) | exact H
                 have Ny159 := Aside0.mk hy159
                 clear hy159
                 by_cases c22 : y159.length + y152.length < 17592186044416
                 ·rw [if_pos c22] at H
                  have LMc22 := Aside0.mk c22
                  clear c22
                  obtain ⟨y162, hy162⟩ : ∃ y_ : List Int, y_ = (y159 ++ y152) := ⟨_, rfl⟩
                  replace H : (spec_SortList.l0 k2 l0 y162 (wrap64 (x4_1 + 1))) = some r := by first | (rw [hy162]; with_reducible exact H) | (have H2_ := (Option.bind_some _ _).symm.trans H; rw [hy162]; with_reducible exact H2_) | (have H2_ := (Option.bind_some _ _).symm.trans H; with_reducible exact H2_) | with_reducible exact H | (rw [hy162]; exact H) | exact H
                  have Ny162 := Aside0.mk hy162
                  clear hy162
                  have H' := Aside0.mk H
                  clear H
                  try go_wp2
                  replace HO_3 := Aside0.mk (Kd.R_drew HO_3.out)
                  replace HB := Aside0.mk (below_drew1 HB.out)
                  have p141 : 0 ≤ ((ji7) : Int) := od_
                  have q141 : (ji7) < (x3_1.length : Int) := od_
                  obtain ⟨ad141, e141, hx141_0⟩ := Kd.at_int (Kd.R_reads' HO_3.out).2.2 (ji7) p141 q141
                  cases e141
                  replace p141 := eq_true p141
                  replace q141 := eq_true q141
                  have p142 : 0 ≤ (x4_1 : Int) := od_
                  have q142 : x4_1 < (l0.length : Int) := od_
                  obtain ⟨ad142, e142, hx142_0⟩ := Kd.at_int HR0.out x4_1 p142 q142
                  have hw142_0 := hx142_0
                  cases e142
                  replace hx142_0 := (HB.out.cell (World.block_lt_of_cell? w _ hx142_0)).trans hx142_0
                  replace p142 := eq_true p142
                  replace q142 := eq_true q142
                  refine start_ (n := 14) (S := fun w' => w'.cell? (ad141.add ((ji7)).toNat) = some (.int .i64 (rd x3_1 (ji7))) ∧ w'.cell? (ad142.add (x4_1).toNat) = some (.int .i64 (rd l0 x4_1))) (ds := []) (fl_ 14 0) (by kernel_rfl) rfl rfl ⟨hx141_0, ((HB.out.cell (World.block_lt_of_cell? w _ hw142_0)).trans hw142_0)⟩ (fun hHeld => ?_); refine with_tabW spec_SortList.tab6 spec_SortList.bits6 (fun HT_ HW_ => ?_)
                  generalize wr.drew = w23 at HO_3 HB hx141_0 hx142_0 hHeld ⊢
                  refine pu_ 0 16 (fl_ 14 1) ?_
                  refine pu_ 1 17 (fl_ 14 2) ?_
                  refine pu_ 2 18 (fl_ 14 3) ?_
                  refine pu_ 3 19 (fl_ 14 4) ?_
                  refine pu_ 4 20 (fl_ 14 5) ?_
                  refine pu_ 5 21 (fl_ 14 6) ?_
                  refine pu_ 6 22 (fl_ 14 7) ?_
                  refine pu_ 8 24 (fm_ 14 383) ?_
                  refine pu_ 9 25 (fm_ 14 895) ?_
                  refine pu_ 10 26 (fm_ 14 1919) ?_
                  refine ta_ 7 23 (fl_ 14 11) ?_
                  refine ta_ 11 27 (fl_ 14 12) ?_
                  refine pu_ 12 28 (fl_ 14 13) ?_
                  refine pu_ 13 29 (fl_ 14 14) ?_
                  refine done_ (done_of HT_.out (by kernel_rfl)) ?_
                  try go_wp2
                  replace HO_3 := Aside0.mk (Kd.R_drew HO_3.out)
                  replace HB := Aside0.mk (below_drew1 HB.out)
                  have p143 : 0 ≤ ((ji7) : Int) := od_
                  have q143 : (ji7) < (x3_1.length : Int) := od_
                  obtain ⟨ad143, e143, hx143_0⟩ := Kd.at_int (Kd.R_reads' HO_3.out).2.2 (ji7) p143 q143
                  obtain rfl : ad141 = ad143 := (by injection e143)
                  replace p143 := eq_true p143
                  replace q143 := eq_true q143
                  have p144 : 0 ≤ (x4_1 : Int) := od_
                  have q144 : x4_1 < (l0.length : Int) := od_
                  obtain ⟨ad144, e144, hx144_0⟩ := Kd.at_int HR0.out x4_1 p144 q144
                  have hw144_0 := hx144_0
                  obtain rfl : ad142 = ad144 := (by injection e144)
                  replace hx144_0 := (HB.out.cell (World.block_lt_of_cell? w _ hx144_0)).trans hx144_0
                  replace p144 := eq_true p144
                  replace q144 := eq_true q144
                  refine start_ (n := 14) (S := fun w' => w'.cell? (ad141.add ((ji7)).toNat) = some (.int .i64 (rd x3_1 (ji7))) ∧ w'.cell? (ad142.add (x4_1).toNat) = some (.int .i64 (rd l0 x4_1))) (ds := []) (fl_ 14 0) (by kernel_rfl) rfl rfl ⟨hx143_0, ((HB.out.cell (World.block_lt_of_cell? w _ hw144_0)).trans hw144_0)⟩ (fun hHeld => ?_); refine with_tabW spec_SortList.tab8 spec_SortList.bits8 (fun HT_ HW_ => ?_)
                  generalize w23.drew = w24 at HO_3 HB hx143_0 hx144_0 hHeld ⊢
                  refine pu_ 0 32 (fl_ 14 1) ?_
                  refine pu_ 1 33 (fl_ 14 2) ?_
                  refine pu_ 2 34 (fl_ 14 3) ?_
                  refine pu_ 3 35 (fl_ 14 4) ?_
                  refine pu_ 4 36 (fl_ 14 5) ?_
                  refine pu_ 5 37 (fl_ 14 6) ?_
                  refine pu_ 6 38 (fl_ 14 7) ?_
                  refine pu_ 8 40 (fm_ 14 383) ?_
                  refine pu_ 9 41 (fm_ 14 895) ?_
                  refine pu_ 10 42 (fm_ 14 1919) ?_
                  refine ta_ 7 39 (fl_ 14 11) ?_
                  refine ta_ 11 43 (fl_ 14 12) ?_
                  refine pu_ 12 44 (fl_ 14 13) ?_
                  refine pu_ 13 45 (fl_ 14 14) ?_
                  refine done_ (done_of HT_.out (by kernel_rfl)) ?_
                  try go_wp2_with (first | ((with_reducible refine gate_dst (N := 46) rfl ?_); refine Kd.R_lit (Kd.int .i64) _ 3 ?hg (N := 46) ?hd (xs := ([] : List Int)) (inner := []) (ok := fun _ => True) (okp := fun _ => True) ?hr ?hp (fun _ hk => hk) trivial (Below.refl _ _) (Nat.le_refl _) (by simp) ?_; (case hd => rfl); (case hg => rfl); (case hr => first | (go_simp; done) | (go_simp; rfl)); (case hp => exact (Reps.none _ _)); intro v146 w25 ho26 hb hg_ hnew_; clear hg_ hnew_; (first | rw [← Ny145.out] at ho26 | (simp only [Int.reduceToNat] at ho26; rw [← Ny145.out] at ho26)); have HO147 := Aside0.mk (Kd.R_lower (Kd.R_new' ho26 (Kd.R_lt (kr_ HO_3.out))) (below_size (bl_ HB.out))); replace HO_3 := Aside0.mk (Kd.R_elder' (kr_ HO_3.out) (Kd.R_base ho26) hb); replace HB := bs_ HB hb; clear hb ho26; have q27 : (x5_2 : Int) ≤ ((x3_1.length : Int) : Int) := od_; obtain ⟨i027, hi027, _, hsz27, _⟩ := info_parts info3; have hroom27 : x3_1.length ≤ co5 := (Kd.R_reads' HO_3.out).2.1; have hC27 : Kd.C (Kd.int .i64) _ (some ad141) x3_1.length x3_1 := (Kd.R_reads' HO_3.out).2.2; have q027 : (0 : Int) ≤ (x5_2 : Int) := od_; have hcut27 := cut_from (P := Try.prog) 22 3 .i64 Try.underlying22 hi027 1 hsz27 (some ad141) x3_1.length co5 x5_2 q027 q27; have hr27 := Kd.C_drop (m := (x5_2 : Int).toNat) (c := co5) hC27 (by omega) hroom27; obtain ⟨A27, hA27⟩ : ∃ A1, A1 = (if co5 = (x5_2 : Int).toNat then (some ad141) else ((some ad141) : Option Addr).map (·.add ((x5_2 : Int).toNat * 1))) := ⟨_, rfl⟩; obtain ⟨c27, hc27⟩ : ∃ c1, c1 = co5 - (x5_2 : Int).toNat := ⟨_, rfl⟩; have hy27 : y148.length = x3_1.length - (x5_2 : Int).toNat := (by rw [Ny148.out, List.length_drop] <;> omega); rw [show (x3_1).drop (x5_2 : Int).toNat = y148 from Ny148.out.symm] at hr27; replace hr27 : Kd.C (Kd.int .i64) _ A27 y148.length y148 := (by rw [hA27]; exact hr27); rw [← hy27, ← hA27, ← hc27] at hcut27; have HR151 := Aside0.mk hr27; have HC151 := Aside0.mk (show y148.length ≤ c27 from by rw [hy27, hc27]; exact Nat.sub_le_sub_right hroom27 _); clear hr27 hC27 hroom27 hi027 hsz27 hc27; have KY27 := Aside0.mk hy27; have KA27 := Aside0.mk hA27; clear hy27 hA27; have KL27 := Aside0.mk (show (x5_2 : Int).toNat ≤ x3_1.length from by omega); replace q27 := eq_true q27) | ((with_reducible refine gate_builtin (b := .append) (xs := #[.tmp 46, .tmp 49]) rfl ?_); at_builtin; refine Kd.R_append_rows (Kd.int .i64) (w0 := w) w.heap.size rfl (.tmp 46) (.tmp 49) 22 3 (.int .i64 0) 8 rfl Try.underlying22 info3 rfl (by decide) (by omega) v146 y145 y148 _ _ _ (fun k_ => some k_ ≠ (.slice (some ad141) x3_1.length co5 : Value).ownBlock) (fun _ => False) rfl rfl ?aO ?aR (fun _ _ h => h) (fun _ h => h.elim) ?aF ?aB ?aS ?aL ?_; (case aR => repeat (first | exact (by repeat (first | (with_reducible exact HR151.out) | (with_reducible refine Kd.C_alloc ?_ _) | (with_reducible refine Kd.C_drewN ?_ _) | (with_reducible refine Kd.C_drew ?_) | exact HR151.out)) | (with_reducible refine Kd.C_alloc ?_ _) | (with_reducible refine Kd.C_drewN ?_ _) | (with_reducible refine Kd.C_drew ?_))); (case aB => exact (bl_ HB.out)); (case aF => exact (fun k_ hk => Kd.fresh' (Kd.R_lt (kr_ HO_3.out)) k_ hk)); (case aO => exact (kr_ (Kd.R_mono HO147.out (fun _ hk => hk.2)))); (case aS => exact (below_size (bl_ HB.out))); (case aL => have := LMc19.out; omega); intro v153 w28 ho hb hg hat; rw [← Ny152.out] at ho; have n0_ := Aside0.mk (Kd.R_after (ok := (fun _ => True)) (kr_ HO_3.out) hg hat); have n1_ := Aside0.mk (hb); have n2_ := Aside0.mk ((show Kd.C (Kd.int .i64) w28 A27 y148.length y148 from by rw [Ny148.out, KA27.out]; exact Kd.C_drop (m := (x5_2 : Int).toNat) (c := co5) ((Kd.R_reads' (Kd.R_after (ok := (fun _ => True)) (kr_ HO_3.out) hg hat)).2.2) KL27.out ((Kd.R_reads' (Kd.R_after (ok := (fun _ => True)) (kr_ HO_3.out) hg hat)).2.1))); have n3_ := Aside0.mk (ho); clear HO_3; clear HB; clear HR151; clear HO147; have HO_3 := n0_; have HB := n1_; have HR151 := n2_; have HO154 := n3_; clear n0_ n1_ n2_ n3_; clear ho hb hg hat))
                  replace HO_3 := Aside0.mk (Kd.R_drew HO_3.out)
                  replace HO154 := Aside0.mk (Kd.R_drew HO154.out)
                  replace HR151 := Aside0.mk (Kd.C_drew HR151.out)
                  replace HB := Aside0.mk (below_drew1 HB.out)
                  have q30 : (x5_2 : Int) ≤ ((x3_1.length : Int) : Int) := od_
                  obtain ⟨i030, hi030, _, hsz30, _⟩ := info_parts info3
                  have hcut30 := cut_to (P := Try.prog) 22 3 .i64 Try.underlying22 hi030 (some ad141) x3_1.length co5 x5_2 (od_) q30 (Kd.R_reads' HO_3.out).2.1
                  have hr30 := Kd.R_take (m := (x5_2 : Int).toNat) HO_3.out (by omega)
                  have hy30 : y155.length = (x5_2 : Int).toNat := (by rw [Ny155.out, List.length_take]; omega)
                  rw [← Ny155.out] at hr30
                  rw [← hy30] at hr30 hcut30
                  clear hy30 hi030 hsz30 HO_3
                  have HO157 := Aside0.mk hr30
                  clear hr30
                  replace q30 := eq_true q30
                  have p158 : 0 ≤ (x4_1 : Int) := od_
                  have q158 : x4_1 < (l0.length : Int) := od_
                  obtain ⟨ad158, e158, hx158_0⟩ := Kd.at_int HR0.out x4_1 p158 q158
                  have hw158_0 := hx158_0
                  obtain rfl : ad142 = ad158 := (by injection e158)
                  replace hx158_0 := (HB.out.cell (World.block_lt_of_cell? w _ hx158_0)).trans hx158_0
                  replace p158 := eq_true p158
                  replace q158 := eq_true q158
                  refine start_ (n := 12) (S := fun w' => w'.cell? (ad142.add (x4_1).toNat) = some (.int .i64 (rd l0 x4_1))) (ds := []) (fl_ 12 0) (by kernel_rfl) rfl rfl (((HB.out.cell (World.block_lt_of_cell? w _ hw158_0)).trans hw158_0)) (fun hHeld => ?_); refine with_tabW spec_SortList.tab10 spec_SortList.bits10 (fun HT_ HW_ => ?_)
                  generalize w28.drew = w29 at HO_3 HO154 HR151 HB HO157 hx158_0 hHeld ⊢
                  refine pu_ 0 51 (fl_ 12 1) ?_
                  refine pu_ 1 52 (fl_ 12 2) ?_
                  refine pu_ 2 53 (fl_ 12 3) ?_
                  refine pu_ 3 54 (fl_ 12 4) ?_
                  refine pu_ 4 55 (fl_ 12 5) ?_
                  refine pu_ 5 56 (fl_ 12 6) ?_
                  refine pu_ 9 60 (fm_ 12 575) ?_
                  refine ta_ 6 57 (fm_ 12 639) ?_
                  refine on_ 7 58 (fm_ 12 767) fun K hK => ?_
                  refine value_ (w1 := ?_) (v := ?_) (by rfl) rfl ?_ ?_
                  rotate_left 2
                  ·go_simp
                   constructor
                   ·rfl
                   ·rfl
                  refine hK.out _ _ ((World.cell?_alloc_lt _ _ _ (World.block_lt_of_cell? _ _ (((HB.out.cell (World.block_lt_of_cell? w _ hw158_0)).trans hw158_0)))).trans (((HB.out.cell (World.block_lt_of_cell? w _ hw158_0)).trans hw158_0))) (fun hHeld => ?_)
                  clear hK K
                  refine no_ 58 ?_
                  refine on_ 8 59 (fl_ 12 10) fun K hK => ?_
                  refine Kd.R_append_step (Kd.int .i64) (w0 := w) w.heap.size (by rfl) (.tmp 53) (.tmp 58) 22 3 (.int .i64 0) 8 rfl Try.underlying22 info3 rfl (by decide) (by omega) (.slice (some ad141) y155.length co5) y155 (rd l0 x4_1) [.int .i64 (rd l0 x4_1)] (fun k_ => some k_ ≠ (v153 : Value).ownBlock) (fun _ => False) rfl rfl ?aP (fun _ hk => hk.elim) ?aF ?aO ?aB ?aS ?aL ?_
                  (case aP => exact rfl)
                  (case aB => exact (bl_ HB.out))
                  (case aF => exact (fun k_ hk => Kd.fresh' (Kd.R_lt (kr_ HO154.out)) k_ hk))
                  (case aO => exact (kr_ (Kd.R_mono HO157.out (fun _ hk => hk.2))))
                  (case aS => exact (below_size (bl_ HB.out)))
                  (case aL => have := LMc21.out; omega)
                  intro v160 w31 ho hb hg hat
                  rw [← Ny159.out] at ho
                  have n0_ := Aside0.mk (Kd.R_after (ok := (fun _ => True)) (kr_ (Kd.R_mono HO154.out (fun _ hk => ⟨trivial, by first | exact hk | exact SortW.own_len hk⟩))) hg hat)
                  have n1_ := Aside0.mk (hb)
                  have n2_ := Aside0.mk (ho)
                  clear HO154
                  clear HB
                  clear HO157
                  have HO154 := n0_
                  have HB := n1_
                  have HO161 := n2_
                  clear n0_ n1_ n2_
                  clear ho hb hg hat
                  obtain ⟨Ao33, co33, eo33⟩ := Kd.R_slice HO154.out
                  (first | subst eo33 | (injection eo33 with f1_ f2_ f3_; have f4_ := f1_.symm; have f5_ := f3_.symm; clear f1_ f2_ f3_; subst f4_; subst f5_))
                  refine hK.out _ _ (((HB.out.cell (World.block_lt_of_cell? w _ hw158_0)).trans hw158_0)) (fun hHeld => ?_)
                  clear hK K
                  refine no_ 59 ?_
                  refine on_ 10 61 (fl_ 12 11) fun K hK => ?_
                  refine Kd.R_append_rows_step (Kd.int .i64) (w0 := w) w.heap.size (by rfl) (.tmp 59) (.tmp 60) 22 3 (.int .i64 0) 8 rfl Try.underlying22 info3 rfl (by decide) (by omega) v160 y159 y152 _ _ _ (fun k_ => some k_ ≠ (.slice Ao33 y152.length co33 : Value).ownBlock) (fun _ => False) rfl rfl ?aO ?aR (fun _ _ h => h) (fun _ h => h.elim) ?aF ?aB ?aS ?aL ?_
                  (case aR => repeat (first | exact (Kd.R_reads' HO154.out).2.2 | (with_reducible refine Kd.C_alloc ?_ _) | (with_reducible refine Kd.C_drewN ?_ _) | (with_reducible refine Kd.C_drew ?_)))
                  (case aB => exact (bl_ HB.out))
                  (case aF => exact (fun k_ hk => Kd.fresh' (Kd.R_lt (kr_ HO154.out)) k_ hk))
                  (case aO => exact (kr_ HO161.out))
                  (case aS => exact (below_size (bl_ HB.out)))
                  (case aL => have := LMc22.out; omega)
                  intro v163 w32 ho hb hg hat
                  rw [← Ny162.out] at ho
                  have n0_ := Aside0.mk (Kd.R_after (ok := (fun _ => True)) (kr_ HO154.out) hg hat)
                  have n1_ := Aside0.mk (hb)
                  have n2_ := Aside0.mk (ho)
                  clear HO154
                  clear HB
                  clear HO161
                  have HO154 := n0_
                  have HB := n1_
                  have HO164 := n2_
                  clear n0_ n1_ n2_
                  clear ho hb hg hat
                  refine hK.out _ _ (((HB.out.cell (World.block_lt_of_cell? w _ hw158_0)).trans hw158_0)) (fun hHeld => ?_)
                  clear hK K
                  refine no_ 61 ?_
                  refine pu_ 11 3 (fl_ 12 12) ?_
                  refine done_ (done_of HT_.out (by kernel_rfl)) ?_
                  try go_wp2
                  go_roundg k2
                  case measure => have := HK1.out; have := HK2.out; omega
                  case rel => exact ⟨(y162), (wrap64 (x4_1 + 1)), sd_, H', ⟨by have := HK1.out; have := HK2.out; omega⟩, ⟨kr_ (Kd.R_mono HO164.out (fun _ hk => trivial))⟩, ⟨bl_ HB.out⟩⟩
                 ·rw [if_neg c22] at H
                  exact absurd H (by simp)
                ·rw [if_neg c21] at H
                 exact absurd H (by simp)
               ·rw [if_neg c19] at H
                exact absurd H (by simp)
              ·rw [if_neg c18] at H
               exact absurd H (by simp)
             ·rw [if_neg c17] at H
              exact absurd H (by simp)
          ·rw [if_neg c11] at H
           exact absurd H (by simp)
         ·rw [if_neg c10] at H
          exact absurd H (by simp)
        ·rw [if_neg c9] at H
         exact absurd H (by simp)
       ·rw [if_neg c8] at H
        exact absurd H (by simp)
      ·rw [if_neg c6] at H
       have c6b0 : decide (0 < x5_2) = false := decide_eq_false c6
       clear c6
       obtain ⟨y165, hy165⟩ : ∃ y_ : List Int, y_ = (([] : List Int)) := ⟨_, rfl⟩
       replace H : (if 0 ≤ x5_2 then (if x5_2 ≤ (x3_1.length : Int) then ((some (x3_1.drop (x5_2 : Int).toNat : List Int)).bind fun y168 => (if y165.length + y168.length < 17592186044416 then ((some (y165 ++ y168 : List Int)).bind fun y172 => ((some (x3_1.take (x5_2 : Int).toNat : List Int)).bind fun y175 => (if 0 ≤ x4_1 then (if x4_1 < (l0.length : Int) then (if y175.length < 17592186044416 then ((some (y175 ++ [rd l0 x4_1] : List Int)).bind fun y179 => (if y179.length + y172.length < 17592186044416 then (spec_SortList.l0 k2 l0 (y179 ++ y172) (wrap64 (x4_1 + 1))) else (none))) else (none)) else (none)) else (none)))) else (none))) else (none)) else (none)) = some r := by first | (rw [hy165]; with_reducible exact H) | (have H2_ := (Option.bind_some _ _).symm.trans H; rw [hy165]; with_reducible exact H2_) | (have H2_ := (Option.bind_some _ _).symm.trans H; with_reducible exact H2_) | with_reducible exact H | (rw [hy165]; exact H) | exact H
       have Ny165 := Aside0.mk hy165
       clear hy165
       by_cases c34 : 0 ≤ x5_2
       ·rw [if_pos c34] at H
        have c34b0 := eq_true c34
        have c34b1 : decide (0 ≤ x5_2) = true := decide_eq_true c34
        clear c34
        by_cases c35 : x5_2 ≤ (x3_1.length : Int)
        ·rw [if_pos c35] at H
         have c35b0 := eq_true c35
         have c35b1 : decide (x5_2 ≤ (x3_1.length : Int)) = true := decide_eq_true c35
         clear c35
         obtain ⟨y168, hy168⟩ : ∃ y_ : List Int, y_ = (x3_1.drop (x5_2 : Int).toNat) := ⟨_, rfl⟩
         replace H : (if y165.length + y168.length < 17592186044416 then ((some (y165 ++ y168 : List Int)).bind fun y172 => ((some (x3_1.take (x5_2 : Int).toNat : List Int)).bind fun y175 => (if 0 ≤ x4_1 then (if x4_1 < (l0.length : Int) then (if y175.length < 17592186044416 then ((some (y175 ++ [rd l0 x4_1] : List Int)).bind fun y179 => (if y179.length + y172.length < 17592186044416 then (spec_SortList.l0 k2 l0 (y179 ++ y172) (wrap64 (x4_1 + 1))) else (none))) else (none)) else (none)) else (none)))) else (none)) = some r := by first | (rw [hy168]; with_reducible exact H) | (have H2_ := (Option.bind_some _ _).symm.trans H; rw [hy168]; with_reducible exact H2_) | (have H2_ := (Option.bind_some _ _).symm.trans H; with_reducible exact H2_) | with_reducible exact H | (rw [hy168]; exact H) | exact H
         have Ny168 := Aside0.mk hy168
         clear hy168
         by_cases c36 : y165.length + y168.length < 17592186044416
         ·rw [if_pos c36] at H
          have LMc36 := Aside0.mk c36
          clear c36
          obtain ⟨y172, hy172⟩ : ∃ y_ : List Int, y_ = (y165 ++ y168) := ⟨_, rfl⟩
          replace H : ((some (x3_1.take (x5_2 : Int).toNat : List Int)).bind fun y175 => (if 0 ≤ x4_1 then (if x4_1 < (l0.length : Int) then (if y175.length < 17592186044416 then ((some (y175 ++ [rd l0 x4_1] : List Int)).bind fun y179 => (if y179.length + y172.length < 17592186044416 then (spec_SortList.l0 k2 l0 (y179 ++ y172) (wrap64 (x4_1 + 1))) else (none))) else (none)) else (none)) else (none))) = some r := by first | (rw [hy172]; with_reducible exact H) | (have H2_ := (Option.bind_some _ _).symm.trans H; rw [hy172]; with_reducible exact H2_) | (have H2_ := (Option.bind_some _ _).symm.trans H; with_reducible exact H2_) | with_reducible exact H | (rw [hy172]; exact H) | exact H
          have Ny172 := Aside0.mk hy172
          clear hy172
          have c37b0 := eq_true (od_ : x5_2 ≤ (x3_1.length : Int))
          obtain ⟨y175, hy175⟩ : ∃ y_ : List Int, y_ = (x3_1.take (x5_2 : Int).toNat) := ⟨_, rfl⟩
          replace H : (if 0 ≤ x4_1 then (if x4_1 < (l0.length : Int) then (if y175.length < 17592186044416 then ((some (y175 ++ [rd l0 x4_1] : List Int)).bind fun y179 => (if y179.length + y172.length < 17592186044416 then (spec_SortList.l0 k2 l0 (y179 ++ y172) (wrap64 (x4_1 + 1))) else (none))) else (none)) else (none)) else (none)) = some r := by first | (rw [hy175]; with_reducible exact H) | (have H2_ := (Option.bind_some _ _).symm.trans H; rw [hy175]; with_reducible exact H2_) | (have H2_ := (Option.bind_some _ _).symm.trans H; with_reducible exact H2_) | with_reducible exact H | (rw [hy175]; exact H) | exact H
          have Ny175 := Aside0.mk hy175
          clear hy175
          by_cases c38 : 0 ≤ x4_1
          ·rw [if_pos c38] at H
           have c38b0 : decide (0 ≤ x4_1) = true := decide_eq_true c38
           clear c38
           by_cases c39 : x4_1 < (l0.length : Int)
           ·rw [if_pos c39] at H
            have c39b0 : decide (x4_1 < (l0.length : Int)) = true := decide_eq_true c39
            clear c39
            by_cases c40 : y175.length < 17592186044416
            ·rw [if_pos c40] at H
             have LMc40 := Aside0.mk c40
             clear c40
             obtain ⟨y179, hy179⟩ : ∃ y_ : List Int, y_ = (y175 ++ [rd l0 x4_1]) := ⟨_, rfl⟩
             replace H : (if y179.length + y172.length < 17592186044416 then (spec_SortList.l0 k2 l0 (y179 ++ y172) (wrap64 (x4_1 + 1))) else (none)) = some r := by first | (rw [hy179]; with_reducible exact H) | (have H2_ := (Option.bind_some _ _).symm.trans H; rw [hy179]; with_reducible exact H2_) | (have H2_ := (Option.bind_some _ _).symm.trans H; with_reducible exact H2_) | with_reducible exact H | (rw [hy179]; exact H) | exact H
             have Ny179 := Aside0.mk hy179
             clear hy179
             by_cases c41 : y179.length + y172.length < 17592186044416
             ·rw [if_pos c41] at H
              have LMc41 := Aside0.mk c41
              clear c41
              obtain ⟨y182, hy182⟩ : ∃ y_ : List Int, y_ = (y179 ++ y172) := ⟨_, rfl⟩
              replace H : (spec_SortList.l0 k2 l0 y182 (wrap64 (x4_1 + 1))) = some r := by first | (rw [hy182]; with_reducible exact H) | (have H2_ := (Option.bind_some _ _).symm.trans H; rw [hy182]; with_reducible exact H2_) | (have H2_ := (Option.bind_some _ _).symm.trans H; with_reducible exact H2_) | with_reducible exact H | (rw [hy182]; exact H) | exact H
              have Ny182 := Aside0.mk hy182
              clear hy182
              have H' := Aside0.mk H
              clear H
              try go_wp2
              replace HO_3 := Aside0.mk (Kd.R_drew HO_3.out)
              replace HB := Aside0.mk (below_drew1 HB.out)
              refine start_ (n := 14) (S := fun w' => True) (ds := []) (fl_ 14 0) (by kernel_rfl) rfl rfl trivial (fun hHeld => ?_); refine with_tabW spec_SortList.tab6 spec_SortList.bits6 (fun HT_ HW_ => ?_)
              generalize wr.drew = w42 at HO_3 HB hHeld ⊢
              refine pu_ 0 16 (fl_ 14 1) ?_
              refine pu_ 1 17 (fl_ 14 2) ?_
              refine pu_ 2 18 (fl_ 14 3) ?_
              refine un_ 3 19 (fl_ 14 4) ?_
              refine un_ 4 20 (fl_ 14 5) ?_
              refine un_ 5 21 (fl_ 14 6) ?_
              refine un_ 6 22 (fl_ 14 7) ?_
              refine un_ 7 23 (fl_ 14 8) ?_
              refine un_ 8 24 (fl_ 14 9) ?_
              refine un_ 9 25 (fl_ 14 10) ?_
              refine un_ 10 26 (fl_ 14 11) ?_
              refine un_ 11 27 (fl_ 14 12) ?_
              refine un_ 12 28 (fl_ 14 13) ?_
              refine pu_ 13 29 (fl_ 14 14) ?_
              refine done_ (done_of HT_.out (by kernel_rfl)) ?_
              try go_wp2
              replace HO_3 := Aside0.mk (Kd.R_drew HO_3.out)
              replace HB := Aside0.mk (below_drew1 HB.out)
              refine start_ (n := 14) (S := fun w' => True) (ds := []) (fl_ 14 0) (by kernel_rfl) rfl rfl trivial (fun hHeld => ?_); refine with_tabW spec_SortList.tab8 spec_SortList.bits8 (fun HT_ HW_ => ?_)
              generalize w42.drew = w43 at HO_3 HB hHeld ⊢
              refine pu_ 0 32 (fl_ 14 1) ?_
              refine pu_ 1 33 (fl_ 14 2) ?_
              refine pu_ 2 34 (fl_ 14 3) ?_
              refine un_ 3 35 (fl_ 14 4) ?_
              refine un_ 4 36 (fl_ 14 5) ?_
              refine un_ 5 37 (fl_ 14 6) ?_
              refine un_ 6 38 (fl_ 14 7) ?_
              refine un_ 7 39 (fl_ 14 8) ?_
              refine un_ 8 40 (fl_ 14 9) ?_
              refine un_ 9 41 (fl_ 14 10) ?_
              refine un_ 10 42 (fl_ 14 11) ?_
              refine un_ 11 43 (fl_ 14 12) ?_
              refine un_ 12 44 (fl_ 14 13) ?_
              refine pu_ 13 45 (fl_ 14 14) ?_
              refine done_ (done_of HT_.out (by kernel_rfl)) ?_
              try go_wp2_with (first | ((with_reducible refine gate_dst (N := 46) rfl ?_); refine Kd.R_lit (Kd.int .i64) _ 3 ?hg (N := 46) ?hd (xs := ([] : List Int)) (inner := []) (ok := fun _ => True) (okp := fun _ => True) ?hr ?hp (fun _ hk => hk) trivial (Below.refl _ _) (Nat.le_refl _) (by simp) ?_; (case hd => rfl); (case hg => rfl); (case hr => first | (go_simp; done) | (go_simp; rfl)); (case hp => exact (Reps.none _ _)); intro v166 w44 ho45 hb hg_ hnew_; clear hg_ hnew_; (first | rw [← Ny165.out] at ho45 | (simp only [Int.reduceToNat] at ho45; rw [← Ny165.out] at ho45)); have HO167 := Aside0.mk (Kd.R_lower (Kd.R_new' ho45 (Kd.R_lt (kr_ HO_3.out))) (below_size (bl_ HB.out))); replace HO_3 := Aside0.mk (Kd.R_elder' (kr_ HO_3.out) (Kd.R_base ho45) hb); replace HB := bs_ HB hb; clear hb ho45; have q46 : (x5_2 : Int) ≤ ((x3_1.length : Int) : Int) := od_; obtain ⟨i046, hi046, _, hsz46, _⟩ := info_parts info3; have hroom46 : x3_1.length ≤ co5 := (Kd.R_reads' HO_3.out).2.1; have hC46 : Kd.C (Kd.int .i64) _ Ao5 x3_1.length x3_1 := (Kd.R_reads' HO_3.out).2.2; have q046 : (0 : Int) ≤ (x5_2 : Int) := od_; have hcut46 := cut_from (P := Try.prog) 22 3 .i64 Try.underlying22 hi046 1 hsz46 Ao5 x3_1.length co5 x5_2 q046 q46; have hr46 := Kd.C_drop (m := (x5_2 : Int).toNat) (c := co5) hC46 (by omega) hroom46; obtain ⟨A46, hA46⟩ : ∃ A1, A1 = (if co5 = (x5_2 : Int).toNat then Ao5 else (Ao5 : Option Addr).map (·.add ((x5_2 : Int).toNat * 1))) := ⟨_, rfl⟩; obtain ⟨c46, hc46⟩ : ∃ c1, c1 = co5 - (x5_2 : Int).toNat := ⟨_, rfl⟩; have hy46 : y168.length = x3_1.length - (x5_2 : Int).toNat := (by rw [Ny168.out, List.length_drop] <;> omega); rw [show (x3_1).drop (x5_2 : Int).toNat = y168 from Ny168.out.symm] at hr46; replace hr46 : Kd.C (Kd.int .i64) _ A46 y168.length y168 := (by rw [hA46]; exact hr46); rw [← hy46, ← hA46, ← hc46] at hcut46; have HR171 := Aside0.mk hr46; have HC171 := Aside0.mk (show y168.length ≤ c46 from by rw [hy46, hc46]; exact Nat.sub_le_sub_right hroom46 _); clear hr46 hC46 hroom46 hi046 hsz46 hc46; have KY46 := Aside0.mk hy46; have KA46 := Aside0.mk hA46; clear hy46 hA46; have KL46 := Aside0.mk (show (x5_2 : Int).toNat ≤ x3_1.length from by omega); replace q46 := eq_true q46) | ((with_reducible refine gate_builtin (b := .append) (xs := #[.tmp 46, .tmp 49]) rfl ?_); at_builtin; refine Kd.R_append_rows (Kd.int .i64) (w0 := w) w.heap.size rfl (.tmp 46) (.tmp 49) 22 3 (.int .i64 0) 8 rfl Try.underlying22 info3 rfl (by decide) (by omega) v166 y165 y168 _ _ _ (fun k_ => some k_ ≠ (.slice Ao5 x3_1.length co5 : Value).ownBlock) (fun _ => False) rfl rfl ?aO ?aR (fun _ _ h => h) (fun _ h => h.elim) ?aF ?aB ?aS ?aL ?_; (case aR => repeat (first | exact (by repeat (first | (with_reducible exact HR171.out) | (with_reducible refine Kd.C_alloc ?_ _) | (with_reducible refine Kd.C_drewN ?_ _) | (with_reducible refine Kd.C_drew ?_) | exact HR171.out)) | (with_reducible refine Kd.C_alloc ?_ _) | (with_reducible refine Kd.C_drewN ?_ _) | (with_reducible refine Kd.C_drew ?_))); (case aB => exact (bl_ HB.out)); (case aF => exact (fun k_ hk => Kd.fresh' (Kd.R_lt (kr_ HO_3.out)) k_ hk)); (case aO => exact (kr_ (Kd.R_mono HO167.out (fun _ hk => hk.2)))); (case aS => exact (below_size (bl_ HB.out))); (case aL => have := LMc36.out; omega); intro v173 w47 ho hb hg hat; rw [← Ny172.out] at ho; have n0_ := Aside0.mk (Kd.R_after (ok := (fun _ => True)) (kr_ HO_3.out) hg hat); have n1_ := Aside0.mk (hb); have n2_ := Aside0.mk ((show Kd.C (Kd.int .i64) w47 A46 y168.length y168 from by rw [Ny168.out, KA46.out]; exact Kd.C_drop (m := (x5_2 : Int).toNat) (c := co5) ((Kd.R_reads' (Kd.R_after (ok := (fun _ => True)) (kr_ HO_3.out) hg hat)).2.2) KL46.out ((Kd.R_reads' (Kd.R_after (ok := (fun _ => True)) (kr_ HO_3.out) hg hat)).2.1))); have n3_ := Aside0.mk (ho); clear HO_3; clear HB; clear HR171; clear HO167; have HO_3 := n0_; have HB := n1_; have HR171 := n2_; have HO174 := n3_; clear n0_ n1_ n2_ n3_; clear ho hb hg hat))
              replace HO_3 := Aside0.mk (Kd.R_drew HO_3.out)
              replace HO174 := Aside0.mk (Kd.R_drew HO174.out)
              replace HR171 := Aside0.mk (Kd.C_drew HR171.out)
              replace HB := Aside0.mk (below_drew1 HB.out)
              have q49 : (x5_2 : Int) ≤ ((x3_1.length : Int) : Int) := od_
              obtain ⟨i049, hi049, _, hsz49, _⟩ := info_parts info3
              have hcut49 := cut_to (P := Try.prog) 22 3 .i64 Try.underlying22 hi049 Ao5 x3_1.length co5 x5_2 (od_) q49 (Kd.R_reads' HO_3.out).2.1
              have hr49 := Kd.R_take (m := (x5_2 : Int).toNat) HO_3.out (by omega)
              have hy49 : y175.length = (x5_2 : Int).toNat := (by rw [Ny175.out, List.length_take]; omega)
              rw [← Ny175.out] at hr49
              rw [← hy49] at hr49 hcut49
              clear hy49 hi049 hsz49 HO_3
              have HO177 := Aside0.mk hr49
              clear hr49
              replace q49 := eq_true q49
              have p178 : 0 ≤ (x4_1 : Int) := od_
              have q178 : x4_1 < (l0.length : Int) := od_
              obtain ⟨ad178, e178, hx178_0⟩ := Kd.at_int HR0.out x4_1 p178 q178
              have hw178_0 := hx178_0
              cases e178
              replace hx178_0 := (HB.out.cell (World.block_lt_of_cell? w _ hx178_0)).trans hx178_0
              replace p178 := eq_true p178
              replace q178 := eq_true q178
              refine start_ (n := 12) (S := fun w' => w'.cell? (ad178.add (x4_1).toNat) = some (.int .i64 (rd l0 x4_1))) (ds := []) (fl_ 12 0) (by kernel_rfl) rfl rfl (((HB.out.cell (World.block_lt_of_cell? w _ hw178_0)).trans hw178_0)) (fun hHeld => ?_); refine with_tabW spec_SortList.tab10 spec_SortList.bits10 (fun HT_ HW_ => ?_)
              generalize w47.drew = w48 at HO_3 HO174 HR171 HB HO177 hx178_0 hHeld ⊢
              refine pu_ 0 51 (fl_ 12 1) ?_
              refine pu_ 1 52 (fl_ 12 2) ?_
              refine pu_ 2 53 (fl_ 12 3) ?_
              refine pu_ 3 54 (fl_ 12 4) ?_
              refine pu_ 4 55 (fl_ 12 5) ?_
              refine pu_ 5 56 (fl_ 12 6) ?_
              refine pu_ 9 60 (fm_ 12 575) ?_
              refine ta_ 6 57 (fm_ 12 639) ?_
              refine on_ 7 58 (fm_ 12 767) fun K hK => ?_
              refine value_ (w1 := ?_) (v := ?_) (by rfl) rfl ?_ ?_
              rotate_left 2
              ·go_simp
               constructor
               ·rfl
               ·rfl
              refine hK.out _ _ ((World.cell?_alloc_lt _ _ _ (World.block_lt_of_cell? _ _ (((HB.out.cell (World.block_lt_of_cell? w _ hw178_0)).trans hw178_0)))).trans (((HB.out.cell (World.block_lt_of_cell? w _ hw178_0)).trans hw178_0))) (fun hHeld => ?_)
              clear hK K
              refine no_ 58 ?_
              refine on_ 8 59 (fl_ 12 10) fun K hK => ?_
              refine Kd.R_append_step (Kd.int .i64) (w0 := w) w.heap.size (by rfl) (.tmp 53) (.tmp 58) 22 3 (.int .i64 0) 8 rfl Try.underlying22 info3 rfl (by decide) (by omega) (.slice Ao5 y175.length co5) y175 (rd l0 x4_1) [.int .i64 (rd l0 x4_1)] (fun k_ => some k_ ≠ (v173 : Value).ownBlock) (fun _ => False) rfl rfl ?aP (fun _ hk => hk.elim) ?aF ?aO ?aB ?aS ?aL ?_
              (case aP => exact rfl)
              (case aB => exact (bl_ HB.out))
              (case aF => exact (fun k_ hk => Kd.fresh' (Kd.R_lt (kr_ HO174.out)) k_ hk))
              (case aO => exact (kr_ (Kd.R_mono HO177.out (fun _ hk => hk.2))))
              (case aS => exact (below_size (bl_ HB.out)))
              (case aL => have := LMc40.out; omega)
              intro v180 w50 ho hb hg hat
              rw [← Ny179.out] at ho
              have n0_ := Aside0.mk (Kd.R_after (ok := (fun _ => True)) (kr_ (Kd.R_mono HO174.out (fun _ hk => ⟨trivial, by first | exact hk | exact SortW.own_len hk⟩))) hg hat)
              have n1_ := Aside0.mk (hb)
              have n2_ := Aside0.mk (ho)
              clear HO174
              clear HB
              clear HO177
              have HO174 := n0_
              have HB := n1_
              have HO181 := n2_
              clear n0_ n1_ n2_
              clear ho hb hg hat
              obtain ⟨Ao52, co52, eo52⟩ := Kd.R_slice HO174.out
              (first | subst eo52 | (injection eo52 with f1_ f2_ f3_; have f4_ := f1_.symm; have f5_ := f3_.symm; clear f1_ f2_ f3_; subst f4_; subst f5_))
              refine hK.out _ _ (((HB.out.cell (World.block_lt_of_cell? w _ hw178_0)).trans hw178_0)) (fun hHeld => ?_)
              clear hK K
              refine no_ 59 ?_
              refine on_ 10 61 (fl_ 12 11) fun K hK => ?_
              refine Kd.R_append_rows_step (Kd.int .i64) (w0 := w) w.heap.size (by rfl) (.tmp 59) (.tmp 60) 22 3 (.int .i64 0) 8 rfl Try.underlying22 info3 rfl (by decide) (by omega) v180 y179 y172 _ _ _ (fun k_ => some k_ ≠ (.slice Ao52 y172.length co52 : Value).ownBlock) (fun _ => False) rfl rfl ?aO ?aR (fun _ _ h => h) (fun _ h => h.elim) ?aF ?aB ?aS ?aL ?_
              (case aR => repeat (first | exact (Kd.R_reads' HO174.out).2.2 | (with_reducible refine Kd.C_alloc ?_ _) | (with_reducible refine Kd.C_drewN ?_ _) | (with_reducible refine Kd.C_drew ?_)))
              (case aB => exact (bl_ HB.out))
              (case aF => exact (fun k_ hk => Kd.fresh' (Kd.R_lt (kr_ HO174.out)) k_ hk))
              (case aO => exact (kr_ HO181.out))
              (case aS => exact (below_size (bl_ HB.out)))
              (case aL => have := LMc41.out; omega)
              intro v183 w51 ho hb hg hat
              rw [← Ny182.out] at ho
              have n0_ := Aside0.mk (Kd.R_after (ok := (fun _ => True)) (kr_ HO174.out) hg hat)
              have n1_ := Aside0.mk (hb)
              have n2_ := Aside0.mk (ho)
              clear HO174
              clear HB
              clear HO181
              have HO174 := n0_
              have HB := n1_
              have HO184 := n2_
              clear n0_ n1_ n2_
              clear ho hb hg hat
              refine hK.out _ _ (((HB.out.cell (World.block_lt_of_cell? w _ hw178_0)).trans hw178_0)) (fun hHeld => ?_)
              clear hK K
              refine no_ 61 ?_
              refine pu_ 11 3 (fl_ 12 12) ?_
              refine done_ (done_of HT_.out (by kernel_rfl)) ?_
              try go_wp2
              go_roundg k2
              case measure => have := HK1.out; have := HK2.out; omega
              case rel => exact ⟨(y182), (wrap64 (x4_1 + 1)), sd_, H', ⟨by have := HK1.out; have := HK2.out; omega⟩, ⟨kr_ (Kd.R_mono HO184.out (fun _ hk => trivial))⟩, ⟨bl_ HB.out⟩⟩
             ·rw [if_neg c41] at H
              exact absurd H (by simp)
            ·rw [if_neg c40] at H
             exact absurd H (by simp)
           ·rw [if_neg c39] at H
            exact absurd H (by simp)
          ·rw [if_neg c38] at H
           exact absurd H (by simp)
         ·rw [if_neg c36] at H
          exact absurd H (by simp)
        ·rw [if_neg c35] at H
         exact absurd H (by simp)
       ·rw [if_neg c34] at H
        exact absurd H (by simp)
   ·rw [if_neg c4] at H
    have c4b0 : decide (x4_1 < (l0.length : Int)) = false := decide_eq_false c4
    clear c4
    obtain rfl := Option.some.inj H
    go_wp2
    go_ret
    exact ⟨_, er_, kr_ HO_3.out, bl_ HB.out⟩
end Go.Proofs.Ytbjbolblahlhcaa.PFnWilf
end
section
namespace Go.Proofs.Ytbjbolblahlhcaa.PFnWilf
open Go.RowKit Go.Proofs.YtbjbolblahlhcaaW.PrintWords Go.Proofs.YtbjbolblahlhcaaW.PrintLast Go.Proofs.YtbjbolblahlhcaaW.PrintMore
open Go.Proofs.Ytbjbolblahlhcaa.SortW (bk_ kr_ t_ f_)
open Go.Proofs.Ytbjbolblahlhcaa.SqW
attribute [local go_sem] max2_int min2_int max_two min_two max_three min_three max_four min_four
set_option linter.unusedVariables false
set_option linter.unusedSimpArgs false
mutual
def spec_l3Table.l0 : Nat → List Int → Int → List Bool → Int → Option (List Bool)
 | 0, _, _, _, _ => none
 | k + 1, x0, x1, x5, x6 => if x6 ≤ x1 then (spec_l3Table.l1 k x0 x1 x5 x6 0) else (some x5)
def spec_l3Table.l1 : Nat → List Int → Int → List Bool → Int → Int → Option (List Bool)
 | 0, _, _, _, _, _ => none
 | k + 1, x0, x1, x5, x6, x7 => if x7 < (x0.length : Int) then (if 0 ≤ x7 then (if x6 ≥ (rd x0 x7) then (if 0 ≤ (wrap64 (x6 - (rd x0 x7))) then (if (wrap64 (x6 - (rd x0 x7))) < (x5.length : Int) then (if rdOf false x5 (wrap64 (x6 - (rd x0 x7))) = true then (if 0 ≤ x6 then (if x6 < (x5.length : Int) then (spec_l3Table.l1 k x0 x1 (x5.set (x6 : Int).toNat true) x6 (wrap64 (x7 + 1))) else (none)) else (none)) else (spec_l3Table.l1 k x0 x1 x5 x6 (wrap64 (x7 + 1)))) else (none)) else (none)) else (spec_l3Table.l1 k x0 x1 x5 x6 (wrap64 (x7 + 1)))) else (none)) else (spec_l3Table.l0 k x0 x1 x5 (wrap64 (x6 + 1)))
end
def spec_l3Table.f (k : Nat) (l0 : List Int) (a1 : Int) : Option (List Bool) := if 0 ≤ (wrap64 (a1 + 1)) then (if (wrap64 (a1 + 1) : Int).toNat ≤ 281474976710656 then ((some (List.replicate (wrap64 (a1 + 1) : Int).toNat false : List Bool)).bind fun y185 => (if 0 < (y185.length : Int) then (spec_l3Table.l0 k l0 a1 (y185.set (0 : Int).toNat true) 1) else (none))) else (none)) else (none)
set_option maxHeartbeats 8000000 in
set_option maxRecDepth 100000 in
theorem spec_l3Table.calls (k : Nat) (A0 : Option Addr) (c0 : Nat) (l0 : List Int) (a1 : Int) (r : List Bool) (w : World) (hr0 : Kd.C (Kd.int .i64) w A0 l0.length l0) (hc0 : l0.length ≤ c0) (h : spec_l3Table.f k l0 a1 = some r) :
 Calls Try.prog 140 #[.slice A0 l0.length c0, .int .i64 a1] w fun e w' => ∃ v0_ : Value, e = .returned (v0_) ∧ Kd.R Kd.bool 4 w' w.heap.size (fun _ => True) v0_ r ∧ Below w.heap.size w w' := by
 have HR0 := Aside0.mk hr0
 have HC0 := Aside0.mk hc0
 clear hr0 hc0
 have HB := Aside0.mk (Below.refl w.heap.size w)
 have H := h
 clear h
 unfold spec_l3Table.f at H
 obtain ⟨ji3, hji3⟩ : ∃ j_ : Int, (wrap64 (a1 + 1)) = j_ := ⟨_, rfl⟩
 replace H : (if 0 ≤ (ji3) then (if (ji3 : Int).toNat ≤ 281474976710656 then ((some (List.replicate (ji3 : Int).toNat false : List Bool)).bind fun y185 => (if 0 < (y185.length : Int) then (spec_l3Table.l0 k l0 a1 (y185.set (0 : Int).toNat true) 1) else (none))) else (none)) else (none)) = some r := by first | (rw [hji3] at H; exact H) | (simp only [hji3] at H ⊢; exact H)
 have hji3w : (IntKind.i64.wrap (a1 + 1)) = ji3 := (i64_w _).trans hji3
 by_cases c4 : 0 ≤ (ji3)
 ·rw [if_pos c4] at H
  have c4b0 := eq_true c4
  have c4b1 : decide (0 ≤ (ji3)) = true := decide_eq_true c4
  clear c4
  by_cases c5 : (ji3 : Int).toNat ≤ 281474976710656
  ·rw [if_pos c5] at H
   have c5b0 := eq_true c5
   have c5b1 : decide ((ji3 : Int).toNat ≤ 281474976710656) = true := decide_eq_true c5
   clear c5
   obtain ⟨y185, hy185⟩ : ∃ y_ : List Bool, y_ = (List.replicate (ji3 : Int).toNat false) := ⟨_, rfl⟩
   replace H : (if 0 < (y185.length : Int) then (spec_l3Table.l0 k l0 a1 (y185.set (0 : Int).toNat true) 1) else (none)) = some r := by first | (rw [hy185]; with_reducible exact H) | (have H2_ := (Option.bind_some _ _).symm.trans H; rw [hy185]; with_reducible exact H2_) | (have H2_ := (Option.bind_some _ _).symm.trans H; with_reducible exact H2_) | with_reducible exact H | (rw [hy185]; exact H) | exact H
   have Ny185 := Aside0.mk hy185
   clear hy185
   by_cases c6 : 0 < (y185.length : Int)
   ·rw [if_pos c6] at H
    have c6b0 : decide (0 < (y185.length : Int)) = true := decide_eq_true c6
    have c6b1 : decide (0 < y185.length) = true := decide_eq_true (by omega)
    clear c6
    obtain ⟨y188, hy188⟩ : ∃ y_ : List Bool, y_ = (y185.set (0 : Int).toNat true) := ⟨_, rfl⟩
    replace H : (spec_l3Table.l0 k l0 a1 y188 1) = some r := by first | (rw [hy188]; with_reducible exact H) | (have H2_ := (Option.bind_some _ _).symm.trans H; rw [hy188]; with_reducible exact H2_) | (have H2_ := (Option.bind_some _ _).symm.trans H; with_reducible exact H2_) | with_reducible exact H | (rw [hy188]; exact H) | exact H
    have Ny188 := Aside0.mk hy188
    clear hy188
    have H' := Aside0.mk H
    clear H
    go_enter Try.func140, Try.ntmps140
    go_wp2_with (first | ((with_reducible refine gate_dst (N := 10) rfl ?_); refine Kd.R_make Kd.bool _ 4 rfl (N := 10) rfl 97 _ _ rfl ji3 rfl rfl Try.underlying97 (.bool false) 1 info4 rfl (by decide) (by omega) false (ok := fun _ => True) (okp := fun _ => True) rfl (fun _ hk => hk) trivial (od_) (Nat.le_trans (Nat.mul_le_mul_right _ (od_ : ji3.toNat ≤ 281474976710656)) (by omega)) (Below.refl _ _) (Nat.le_refl _) ?_; intro v186 w8 ho9 hb hg_ hnew_; clear hg_ hnew_; (first | rw [← Ny185.out] at ho9 | (simp only [Int.reduceToNat] at ho9; rw [← Ny185.out] at ho9)); have HO187 := rl_ ho9 HB; replace HB := bs_ HB hb; clear hb ho9; have p7 : 0 ≤ (0 : Int) := (by omega); have q7 : (0 : Int) < ((y185.length : Int) : Int) := od_; have qi7 : (0 < y185.length) = True := eq_true (by omega); obtain ⟨go7, co7, eo7, gb7, gl7, cl7, HG7⟩ := Kd.R_form HO187.out (by omega); (first | cases eo7 | (injection eo7 with ea_ en_ ec_; (first | subst ea_ | (injection ea_ with ea_; subst ea_)); subst ec_; clear en_)); have GB7 := Aside0.mk gb7; have GG7 := Aside0.mk HG7; clear gb7 gl7 HG7; obtain ⟨hx7_0, hf7_0⟩ := Kd.R_celln false HO187.out (0 : Int) p7 q7; (try rw [show ((0 : Int)).toNat = 0 from rfl] at hx7_0); (try simp only [Nat.reduceMul, Nat.zero_mul, Nat.zero_add, Nat.reduceAdd] at hx7_0); (try rw [show ((0 : Int)).toNat = 0 from rfl] at hf7_0); (try simp only [Nat.reduceMul, Nat.zero_mul, Nat.zero_add, Nat.reduceAdd] at hf7_0); replace p7 := eq_true p7; replace q7 := eq_true q7; obtain ⟨hy10_, hz10_⟩ := Kd.R_celln false HO187.out (0 : Int) (by omega) (od_); (try simp only [Int.reduceToNat, Int.toNat_zero, Int.toNat_ofNat, Nat.reduceMul, Nat.zero_mul, Nat.zero_add] at hy10_ hz10_); (try rw [show ((0 : Int)).toNat = 0 from rfl] at hy10_); (try rw [show ((0 : Int)).toNat = 0 from rfl] at hz10_); have HP10 := Kd.R_putg HO187.out (0 : Int) true) | ((with_reducible refine gate_store (t := 4) (p := 12) rfl ?_); refine store_event (t := 4) (p := 12) (v := ?vo_w11) (w1 := (w8.setCell ⟨go7, (0 : Int).toNat, none⟩ (.bool true))) ?hg ?ho ?hn ?hr ?_; (case ho => rfl); (case hg => rfl); (case hn => rfl); (case hr => first | (go_simp; done) | (go_simp; rfl)); intro w11 hw; have hg : w8.grownBy w11 (some go7) := (by rw [hw]; exact HP10.2); have hp_ : Kd.R Kd.bool 4 w11 w.heap.size (fun _ => True) (.slice (some ⟨go7, 0, none⟩) y185.length co7) y188 := (by rw [hw, Ny188.out]; exact HP10.1); clear HP10; replace HO187 := Aside0.mk (hp_); replace HB := Aside0.mk ((by rw [hw]; exact below_set (HB.out) GB7.out : Below w.heap.size w w11)); clear hg hw hp_))
    go_loopg [6] k (fun kq v6 w' => ∃ (x5_1 : List Bool) (x6_1 : Int), v6 = .int .i64 x6_1 ∧ Aside0 (spec_l3Table.l0 kq l0 a1 x5_1 x6_1 = some r) ∧ Aside0 (kq ≤ k) ∧ Aside0 (Kd.R Kd.bool 4 w' w.heap.size (fun _ => True) (.slice (some ⟨go7, 0, none⟩) y185.length co7) x5_1) ∧ Aside0 (Below w.heap.size w w'))
    case atStart => exact ⟨(y188), (1), sd_, H', ⟨Nat.le_refl _⟩, ⟨kr_ HO187.out⟩, ⟨bl_ HB.out⟩⟩
    case round =>
     clear H'
     try clear c1
     try clear p2
     try clear c4
     try clear c4b0
     try clear c4b1
     try clear c5
     try clear c5b0
     try clear c5b1
     try clear c6
     try clear c6b0
     try clear c6b1
     try clear p6
     try clear p7
     try clear q7
     try clear hx7
     try clear qi7
     try clear hf7
     try clear hx7_0
     try clear p7
     try clear q7
     obtain ⟨x5_1, x6_1, rfl, HA, HK1, HO_5, HB⟩ := hrel
     have hl5_1 := (Kd.R_reads' HO_5.out).1
     rw [hl5_1] at HO_5
     (try simp only [hl5_1])
     cases gk with
     | zero => exact absurd HA.out (by simp [spec_l3Table.l0])
     | succ k1 =>
      have H := HA.out
      clear HA
      simp only [spec_l3Table.l0] at H
      by_cases c12 : x6_1 ≤ a1
      ·rw [if_pos c12] at H
       have c12b0 : decide (x6_1 ≤ a1) = true := decide_eq_true c12
       clear c12
       have H' := Aside0.mk H
       clear H
       go_wp2
       go_loopg [7] k1 (fun kq v7 w' => ∃ (x5_2 : List Bool) (x7_2 : Int), v7 = .int .i64 x7_2 ∧ Aside0 (spec_l3Table.l1 kq l0 a1 x5_2 x6_1 x7_2 = some r) ∧ Aside0 (kq ≤ k1) ∧ Aside0 (Kd.R Kd.bool 4 w' w.heap.size (fun _ => True) (.slice (some ⟨go7, 0, none⟩) x5_1.length co7) x5_2) ∧ Aside0 (Below w.heap.size w w'))
       case atStart => exact ⟨(x5_1), (0), sd_, H', ⟨Nat.le_refl _⟩, ⟨by (try simp only [hl5_1]); (with_reducible repeat (first | apply Kd.R_alloc | apply Kd.R_drewN | apply Kd.R_drew)); exact HO_5.out⟩, ⟨bl_ HB.out⟩⟩
       case round =>
        clear H'
        try clear c1
        try clear p2
        try clear c4
        try clear c4b0
        try clear c4b1
        try clear c5
        try clear c5b0
        try clear c5b1
        try clear c6
        try clear c6b0
        try clear c6b1
        try clear p6
        try clear p7
        try clear q7
        try clear hx7
        try clear qi7
        try clear hf7
        try clear c12
        try clear c12b0
        try clear hx7_0
        try clear p2
        try clear p6
        try clear p7
        try clear q7
        obtain ⟨x5_2, x7_2, rfl, HA, HK2, HO_5, HB⟩ := hrel
        have hl5_2 := (Kd.R_reads' HO_5.out).1
        rw [hl5_2] at HO_5
        (try simp only [hl5_2])
        cases gk with
        | zero => exact absurd HA.out (by simp [spec_l3Table.l1])
        | succ k2 =>
         have H := HA.out
         clear HA
         simp only [spec_l3Table.l1] at H
         by_cases c13 : x7_2 < (l0.length : Int)
         ·rw [if_pos c13] at H
          have c13b0 : decide (x7_2 < (l0.length : Int)) = true := decide_eq_true c13
          (try simp only [hl5_1, hl5_2] at c13b0)
          clear c13
          by_cases c14 : 0 ≤ x7_2
          ·rw [if_pos c14] at H
           have c14b0 : decide (0 ≤ x7_2) = true := decide_eq_true c14
           clear c14
           by_cases c15 : x6_1 ≥ (rd l0 x7_2)
           ·rw [if_pos c15] at H
            have c15b0 : decide ((rd l0 x7_2) ≤ x6_1) = true := decide_eq_true c15
            clear c15
            obtain ⟨ji16, hji16⟩ : ∃ j_ : Int, (wrap64 (x6_1 - (rd l0 x7_2))) = j_ := ⟨_, rfl⟩
            replace H : (if 0 ≤ (ji16) then (if (ji16) < (x5_2.length : Int) then (if rdOf false x5_2 (ji16) = true then (if 0 ≤ x6_1 then (if x6_1 < (x5_2.length : Int) then (spec_l3Table.l1 k2 l0 a1 (x5_2.set (x6_1 : Int).toNat true) x6_1 (wrap64 (x7_2 + 1))) else (none)) else (none)) else (spec_l3Table.l1 k2 l0 a1 x5_2 x6_1 (wrap64 (x7_2 + 1)))) else (none)) else (none)) = some r := by first | (rw [hji16] at H; exact H) | (simp only [hji16] at H ⊢; exact H)
            have hji16w : (IntKind.i64.wrap (x6_1 - (rd l0 x7_2))) = ji16 := (i64_w _).trans hji16
            by_cases c17 : 0 ≤ (ji16)
            ·rw [if_pos c17] at H
             have c17b0 : decide (0 ≤ (ji16)) = true := decide_eq_true c17
             clear c17
             by_cases c18 : (ji16) < (x5_2.length : Int)
             ·rw [if_pos c18] at H
              have c18b0 : decide ((ji16) < (x5_2.length : Int)) = true := decide_eq_true c18
              (try simp only [hl5_1, hl5_2] at c18b0)
              clear c18
              obtain ⟨bq19, hbq19⟩ : ∃ b_ : Bool, b_ = (rdOf false x5_2 (ji16)) := ⟨_, rfl⟩
              replace H : (if bq19 = true then (if 0 ≤ x6_1 then (if x6_1 < (x5_2.length : Int) then (spec_l3Table.l1 k2 l0 a1 (x5_2.set (x6_1 : Int).toNat true) x6_1 (wrap64 (x7_2 + 1))) else (none)) else (none)) else (spec_l3Table.l1 k2 l0 a1 x5_2 x6_1 (wrap64 (x7_2 + 1)))) = some r := by rw [← hbq19] at H; exact H
              have Nbq19 := Aside0.mk hbq19
              clear hbq19
              by_cases c20 : bq19 = true
              ·subst c20
               rw [if_pos rfl] at H
               by_cases c21 : 0 ≤ x6_1
               ·rw [if_pos c21] at H
                have c21b0 : decide (0 ≤ x6_1) = true := decide_eq_true c21
                clear c21
                by_cases c22 : x6_1 < (x5_2.length : Int)
                ·rw [if_pos c22] at H
                 have c22b0 : decide (x6_1 < (x5_2.length : Int)) = true := decide_eq_true c22
                 (try simp only [hl5_1, hl5_2] at c22b0)
                 clear c22
                 obtain ⟨y192, hy192⟩ : ∃ y_ : List Bool, y_ = (x5_2.set (x6_1 : Int).toNat true) := ⟨_, rfl⟩
                 replace H : (spec_l3Table.l1 k2 l0 a1 y192 x6_1 (wrap64 (x7_2 + 1))) = some r := by first | (rw [hy192]; with_reducible exact H) | (have H2_ := (Option.bind_some _ _).symm.trans H; rw [hy192]; with_reducible exact H2_) | (have H2_ := (Option.bind_some _ _).symm.trans H; with_reducible exact H2_) | with_reducible exact H | (rw [hy192]; exact H) | exact H
                 have Ny192 := Aside0.mk hy192
                 clear hy192
                 have H' := Aside0.mk H
                 clear H
                 have p189 : 0 ≤ (x7_2 : Int) := od_
                 have q189 : x7_2 < (l0.length : Int) := od_
                 obtain ⟨ad189, e189, hx189_0⟩ := Kd.at_int HR0.out x7_2 p189 q189
                 cases e189
                 replace hx189_0 := (HB.out.cell (World.block_lt_of_cell? w _ hx189_0)).trans hx189_0
                 replace p189 := eq_true p189
                 replace q189 := eq_true q189
                 have p190 : 0 ≤ (x7_2 : Int) := od_
                 have q190 : x7_2 < (l0.length : Int) := od_
                 obtain ⟨ad190, e190, hx190_0⟩ := Kd.at_int HR0.out x7_2 p190 q190
                 obtain rfl : ad189 = ad190 := (by injection e190)
                 replace hx190_0 := (HB.out.cell (World.block_lt_of_cell? w _ hx190_0)).trans hx190_0
                 replace p190 := eq_true p190
                 replace q190 := eq_true q190
                 have p191 : 0 ≤ ((ji16) : Int) := od_
                 have q191 : (ji16) < (x5_2.length : Int) := od_
                 obtain ⟨ad191, e191, hx191_0⟩ := Kd.at_bool (Kd.R_reads' HO_5.out).2.2 (ji16) p191 q191
                 (try rw [← Nbq19.out] at hx191_0)
                 obtain rfl : (⟨go7, 0, none⟩ : Addr) = ad191 := (by injection e191)
                 (first | simp only [add_plain] at hx191_0 | simp only [add_at] at hx191_0 | simp only [Addr.add, Nat.zero_add] at hx191_0 | skip)
                 replace p191 := eq_true p191
                 replace q191 := eq_true q191
                 have p23 : 0 ≤ (x6_1 : Int) := od_
                 have q23 : (x6_1 : Int) < ((x5_2.length : Int) : Int) := od_
                 obtain ⟨hx23_0, hf23_0⟩ := Kd.R_celln false HO_5.out (x6_1 : Int) p23 q23
                 replace p23 := eq_true p23
                 replace q23 := eq_true q23
                 have HP24 := Kd.R_putg HO_5.out (x6_1 : Int) true
                 go_wp2_with (first | ((with_reducible refine gate_store (t := 4) (p := 43) rfl ?_); refine store_event (t := 4) (p := 43) (v := ?vo_w25) (w1 := (wr.setCell ⟨go7, (x6_1 : Int).toNat, none⟩ (.bool true))) ?hg ?ho ?hn ?hr ?_; (case ho => rfl); (case hg => rfl); (case hn => rfl); (case hr => first | (go_simp; done) | (go_simp; rfl)); intro w25 hw; have hg : wr.grownBy w25 (some go7) := (by rw [hw]; exact HP24.2); have hp_ : Kd.R Kd.bool 4 w25 w.heap.size (fun _ => True) (.slice (some ⟨go7, 0, none⟩) x5_2.length co7) y192 := (by rw [hw, Ny192.out]; exact HP24.1); clear HP24; replace HO_5 := Aside0.mk (hp_); replace HB := Aside0.mk ((by rw [hw]; exact below_set (HB.out) GB7.out : Below w.heap.size w w25)); clear hg hw hp_))
                 (try simp only [← hl5_2])
                 go_roundg k2
                 case measure => have := HK1.out; have := HK2.out; omega
                 case rel => exact ⟨(y192), (wrap64 (x7_2 + 1)), sd_, H', ⟨by have := HK1.out; have := HK2.out; omega⟩, ⟨by (try simp only [hl5_1]); (try simp only [hl5_2]); (with_reducible repeat (first | apply Kd.R_alloc | apply Kd.R_drewN | apply Kd.R_drew)); exact HO_5.out⟩, ⟨bl_ HB.out⟩⟩
                ·rw [if_neg c22] at H
                 exact absurd H (by simp)
               ·rw [if_neg c21] at H
                exact absurd H (by simp)
              ·obtain rfl := Bool.eq_false_iff.mpr c20
               rw [if_neg nf_] at H
               have H' := Aside0.mk H
               clear H
               have p189 : 0 ≤ (x7_2 : Int) := od_
               have q189 : x7_2 < (l0.length : Int) := od_
               obtain ⟨ad189, e189, hx189_0⟩ := Kd.at_int HR0.out x7_2 p189 q189
               cases e189
               replace hx189_0 := (HB.out.cell (World.block_lt_of_cell? w _ hx189_0)).trans hx189_0
               replace p189 := eq_true p189
               replace q189 := eq_true q189
               have p190 : 0 ≤ (x7_2 : Int) := od_
               have q190 : x7_2 < (l0.length : Int) := od_
               obtain ⟨ad190, e190, hx190_0⟩ := Kd.at_int HR0.out x7_2 p190 q190
               obtain rfl : ad189 = ad190 := (by injection e190)
               replace hx190_0 := (HB.out.cell (World.block_lt_of_cell? w _ hx190_0)).trans hx190_0
               replace p190 := eq_true p190
               replace q190 := eq_true q190
               have p191 : 0 ≤ ((ji16) : Int) := od_
               have q191 : (ji16) < (x5_2.length : Int) := od_
               obtain ⟨ad191, e191, hx191_0⟩ := Kd.at_bool (Kd.R_reads' HO_5.out).2.2 (ji16) p191 q191
               (try rw [← Nbq19.out] at hx191_0)
               obtain rfl : (⟨go7, 0, none⟩ : Addr) = ad191 := (by injection e191)
               (first | simp only [add_plain] at hx191_0 | simp only [add_at] at hx191_0 | simp only [Addr.add, Nat.zero_add] at hx191_0 | skip)
               replace p191 := eq_true p191
               replace q191 := eq_true q191
               go_wp2
               (try simp only [← hl5_2])
               go_roundg k2
               case measure => have := HK1.out; have := HK2.out; omega
               case rel => exact ⟨(x5_2), (wrap64 (x7_2 + 1)), sd_, H', ⟨by have := HK1.out; have := HK2.out; omega⟩, ⟨by (try simp only [hl5_1]); (try simp only [hl5_2]); (with_reducible repeat (first | apply Kd.R_alloc | apply Kd.R_drewN | apply Kd.R_drew)); exact HO_5.out⟩, ⟨bl_ HB.out⟩⟩
             ·rw [if_neg c18] at H
              exact absurd H (by simp)
            ·rw [if_neg c17] at H
             exact absurd H (by simp)
           ·rw [if_neg c15] at H
            have c15b0 : decide ((rd l0 x7_2) ≤ x6_1) = false := decide_eq_false c15
            clear c15
            have H' := Aside0.mk H
            clear H
            have p189 : 0 ≤ (x7_2 : Int) := od_
            have q189 : x7_2 < (l0.length : Int) := od_
            obtain ⟨ad189, e189, hx189_0⟩ := Kd.at_int HR0.out x7_2 p189 q189
            cases e189
            replace hx189_0 := (HB.out.cell (World.block_lt_of_cell? w _ hx189_0)).trans hx189_0
            replace p189 := eq_true p189
            replace q189 := eq_true q189
            go_wp2
            (try simp only [← hl5_2])
            go_roundg k2
            case measure => have := HK1.out; have := HK2.out; omega
            case rel => exact ⟨(x5_2), (wrap64 (x7_2 + 1)), sd_, H', ⟨by have := HK1.out; have := HK2.out; omega⟩, ⟨by (try simp only [hl5_1]); (try simp only [hl5_2]); (with_reducible repeat (first | apply Kd.R_alloc | apply Kd.R_drewN | apply Kd.R_drew)); exact HO_5.out⟩, ⟨bl_ HB.out⟩⟩
          ·rw [if_neg c14] at H
           exact absurd H (by simp)
         ·rw [if_neg c13] at H
          have c13b0 : decide (x7_2 < (l0.length : Int)) = false := decide_eq_false c13
          (try simp only [hl5_1, hl5_2] at c13b0)
          clear c13
          have H' := Aside0.mk H
          clear H
          go_wp2
          (try simp only [← hl5_1, ← hl5_2])
          go_roundg k2
          case measure => have := HK1.out; have := HK2.out; omega
          case rel => exact ⟨(x5_2), (wrap64 (x6_1 + 1)), sd_, H', ⟨by have := HK1.out; have := HK2.out; omega⟩, ⟨by (try simp only [hl5_1]); (try simp only [hl5_2]); (with_reducible repeat (first | apply Kd.R_alloc | apply Kd.R_drewN | apply Kd.R_drew)); exact HO_5.out⟩, ⟨bl_ HB.out⟩⟩
      ·rw [if_neg c12] at H
       have c12b0 : decide (x6_1 ≤ a1) = false := decide_eq_false c12
       clear c12
       obtain rfl := Option.some.inj H
       go_wp2
       go_ret
       exact ⟨_, by first | rfl | (simp [errW_none, errW_some] <;> rfl) | (simp only [← hji3]; first | rfl | (simp [errW_none, errW_some] <;> rfl)) | (simp [*, errW_none, errW_some] <;> rfl), kr_ HO_5.out, bl_ HB.out⟩
   ·rw [if_neg c6] at H
    exact absurd H (by simp)
  ·rw [if_neg c5] at H
   exact absurd H (by simp)
 ·rw [if_neg c4] at H
  exact absurd H (by simp)
end Go.Proofs.Ytbjbolblahlhcaa.PFnWilf
end
section
namespace Go.Proofs.Ytbjbolblahlhcaa.PFnWilf
open Go.RowKit Go.Proofs.YtbjbolblahlhcaaW.PrintWords Go.Proofs.YtbjbolblahlhcaaW.PrintLast Go.Proofs.YtbjbolblahlhcaaW.PrintMore
open Go.Proofs.Ytbjbolblahlhcaa.SortW (bk_ kr_ t_ f_)
open Go.Proofs.Ytbjbolblahlhcaa.SqW
attribute [local go_sem] max2_int min2_int max_two min_two max_three min_three max_four min_four
set_option linter.unusedVariables false
set_option linter.unusedSimpArgs false
def spec_l3Minimal.l0 : Nat → List Int → List Int → Int → Option (List Int)
 | 0, _, _, _ => none
 | k + 1, x3, x4, x5 => if x5 < (x4.length : Int) then (if x5 = 0 then (if 0 ≤ x5 then (if x3.length < 17592186044416 then (spec_l3Minimal.l0 k (x3 ++ [rd x4 x5]) x4 (wrap64 (x5 + 1))) else (none)) else (none)) else (if 0 ≤ x5 then (if x5 ≤ (x4.length : Int) then ((spec_l3Table.f k (x4.take (x5 : Int).toNat) (rd x4 x5)).bind fun t208 => (if 0 ≤ (rd x4 x5) then (if (rd x4 x5) < (t208.length : Int) then (if (rdOf false t208 (rd x4 x5) = true) then (spec_l3Minimal.l0 k x3 x4 (wrap64 (x5 + 1))) else (if x3.length < 17592186044416 then (spec_l3Minimal.l0 k (x3 ++ [rd x4 x5]) x4 (wrap64 (x5 + 1))) else (none))) else (none)) else (none))) else (none)) else (none))) else (some x3)
def spec_l3Minimal.f (k : Nat) (l0 : List Int) : Option (List Int) := (spec_SortList.f k l0).bind fun t196 => (spec_l3Minimal.l0 k (([] : List Int)) t196 0)
def spec_l3Minimal.T6 : Bool × List (List Nat × List Nat) := (true, [([], []), ([0], [0]), ([1], [1]), ([2], [2]), ([2], [2]), ([3, 4, 2], [2, 3, 4]), ([2], [2]), ([2], [2]), ([6, 7, 2], [2, 6, 7]), ([8, 2], [2, 8]), ([5, 9, 2, 2], [2, 5, 9]), ([2], [2]), ([2], [2]), ([11, 12, 2], [2, 11, 12]), ([13, 2], [2, 13]), ([10, 14, 2], [2, 10, 14]), ([15, 2], [2, 15]), ([16, 2], [2, 16]), ([2, 17], [2, 17])])
def spec_l3Minimal.B6 : List Nat := [0, 1, 3, 7, 7, 31, 7, 7, 199, 455, 1023, 7, 7, 6151, 14343, 32767, 65535, 131071, 262143]
theorem spec_l3Minimal.tab6 : rtab .any (opsOf Try.f103 6) = spec_l3Minimal.T6 := by kernel_rfl
theorem spec_l3Minimal.bits6 : waitsOk spec_l3Minimal.T6.2 spec_l3Minimal.B6 = true := by kernel_rfl
set_option maxHeartbeats 8000000 in
set_option maxRecDepth 100000 in
theorem spec_l3Minimal.calls (k : Nat) (A0 : Option Addr) (c0 : Nat) (l0 : List Int) (r : List Int) (w : World) (hr0 : Kd.C (Kd.int .i64) w A0 l0.length l0) (hc0 : l0.length ≤ c0) (h : spec_l3Minimal.f k l0 = some r) :
 Calls Try.prog 103 #[.slice A0 l0.length c0] w fun e w' => ∃ v0_ : Value, e = .returned (v0_) ∧ Kd.R (Kd.int .i64) 3 w' w.heap.size (fun _ => True) v0_ r ∧ Below w.heap.size w w' := by
 have HR0 := Aside0.mk hr0
 have HC0 := Aside0.mk hc0
 clear hr0 hc0
 have HB := Aside0.mk (Below.refl w.heap.size w)
 have H := h
 clear h
 unfold spec_l3Minimal.f at H
 obtain ⟨y193, hy193⟩ : ∃ y_ : List Int, y_ = (([] : List Int)) := ⟨_, rfl⟩
 replace H : ((spec_SortList.f k l0).bind fun t196 => (spec_l3Minimal.l0 k y193 t196 0)) = some r := by first | (rw [hy193]; with_reducible exact H) | (have H2_ := (Option.bind_some _ _).symm.trans H; rw [hy193]; with_reducible exact H2_) | (have H2_ := (Option.bind_some _ _).symm.trans H; with_reducible exact H2_) | with_reducible exact H | (rw [hy193]; exact H) | exact H
 have Ny193 := Aside0.mk hy193
 clear hy193
 obtain ⟨t196, A2, H⟩ := ob_ H
 (try dsimp only at H)
 have H' := Aside0.mk H
 clear H
 go_enter Try.func103, Try.ntmps103
 go_wp2_with (first | ((with_reducible refine gate_dst (N := 6) rfl ?_); refine Kd.R_lit (Kd.int .i64) _ 3 ?hg (N := 6) ?hd (xs := ([] : List Int)) (inner := []) (ok := fun _ => True) (okp := fun _ => True) ?hr ?hp (fun _ hk => hk) trivial (Below.refl _ _) (Nat.le_refl _) (by simp) ?_; (case hd => rfl); (case hg => rfl); (case hr => first | (go_simp; done) | (go_simp; rfl)); (case hp => exact (Reps.none _ _)); intro v194 w3 ho4 hb hg_ hnew_; clear hg_ hnew_; (first | rw [← Ny193.out] at ho4 | (simp only [Int.reduceToNat] at ho4; rw [← Ny193.out] at ho4)); have HO195 := rl_ ho4 HB; replace HB := bs_ HB hb; clear hb ho4) | ((with_reducible refine gate_callee (f := 139) rfl ?_); refine gl_ 8 Try.func139 #[.slice A0 l0.length c0] ?_; (with_reducible refine (spec_SortList.calls k _ _ l0 t196 _ ?side1 ?side2 A2.out).mono ?_); (case side1 => exact cs_ HR0 HB); (case side2 => exact HC0.out); rintro e w5 ⟨v197, rfl, ho0, hb⟩; refine ⟨_, rfl, ?_⟩; have HO198 := Aside0.mk (Kd.R_lower (Kd.R_new' ho0 (Kd.R_lt (kr_ HO195.out))) (below_size (bl_ HB.out))); replace HO195 := Aside0.mk (Kd.R_elder' (kr_ HO195.out) (Kd.R_base ho0) hb); replace HB := bs_ HB hb; (try clear hb); (try clear hb2); (try clear hk); (try clear hi); (try clear ho0)))
 go_loopg [3, 5] k (fun kq v3 v5 w' => ∃ (x3_1 : List Int) (x5_1 : Int), v5 = .int .i64 x5_1 ∧ Aside0 (spec_l3Minimal.l0 kq x3_1 t196 x5_1 = some r) ∧ Aside0 (kq ≤ k) ∧ Aside0 (Kd.R (Kd.int .i64) 3 w' w.heap.size (fun k_ => some k_ ≠ (v197 : Value).ownBlock) v3 x3_1) ∧ Aside0 (Kd.R (Kd.int .i64) 3 w' w.heap.size (fun k_ => some k_ ≠ (v3 : Value).ownBlock) v197 t196) ∧ Aside0 (Below w.heap.size w w'))
 case atStart => exact ⟨(y193), (0), sd_, H', ⟨Nat.le_refl _⟩, ⟨kr_ (Kd.R_mono HO195.out (fun _ hk => hk.2))⟩, ⟨kr_ (Kd.R_mono HO198.out (fun _ hk => hk.2))⟩, ⟨bl_ HB.out⟩⟩
 case round =>
  clear H'
  try clear c1
  try clear p2
  obtain ⟨x3_1, x5_1, rfl, HA, HK1, HO_3, HO_4, HB⟩ := hrel
  cases gk with
  | zero => exact absurd HA.out (by simp [spec_l3Minimal.l0])
  | succ k1 =>
   have H := HA.out
   clear HA
   simp only [spec_l3Minimal.l0] at H
   by_cases c6 : x5_1 < (t196.length : Int)
   ·rw [if_pos c6] at H
    have c6b0 : decide (x5_1 < (t196.length : Int)) = true := decide_eq_true c6
    clear c6
    by_cases c7 : x5_1 = 0
    ·rw [if_pos c7] at H
     have c7b0 : (x5_1 == 0) = true := beq_iff_eq.mpr c7
     have c7b1 : (x5_1 != 0) = false := bne_eq_false_iff_eq.mpr c7
     clear c7
     by_cases c8 : 0 ≤ x5_1
     ·rw [if_pos c8] at H
      have c8b0 : decide (0 ≤ x5_1) = true := decide_eq_true c8
      clear c8
      by_cases c9 : x3_1.length < 17592186044416
      ·rw [if_pos c9] at H
       have LMc9 := Aside0.mk c9
       clear c9
       obtain ⟨y200, hy200⟩ : ∃ y_ : List Int, y_ = (x3_1 ++ [rd t196 x5_1]) := ⟨_, rfl⟩
       replace H : (spec_l3Minimal.l0 k1 y200 t196 (wrap64 (x5_1 + 1))) = some r := by first | (rw [hy200]; with_reducible exact H) | (have H2_ := (Option.bind_some _ _).symm.trans H; rw [hy200]; with_reducible exact H2_) | (have H2_ := (Option.bind_some _ _).symm.trans H; with_reducible exact H2_) | with_reducible exact H | (rw [hy200]; exact H) | exact H
       have Ny200 := Aside0.mk hy200
       clear hy200
       have H' := Aside0.mk H
       clear H
       obtain ⟨Ao10, co10, eo10⟩ := Kd.R_slice HO_4.out
       subst eo10
       try go_wp2
       replace HO_3 := Aside0.mk (Kd.R_drew HO_3.out)
       replace HO_4 := Aside0.mk (Kd.R_drew HO_4.out)
       replace HB := Aside0.mk (below_drew1 HB.out)
       refine start_ (n := 19) (S := fun w' => True) (ds := []) (fl_ 19 0) (by kernel_rfl) rfl rfl trivial (fun hHeld => ?_); refine with_tabW spec_l3Minimal.tab6 spec_l3Minimal.bits6 (fun HT_ HW_ => ?_)
       generalize wr.drew = w11 at HO_3 HO_4 HB hHeld ⊢
       refine pu_ 0 15 (fl_ 19 1) ?_
       refine pu_ 1 16 (fl_ 19 2) ?_
       refine pu_ 2 17 (fl_ 19 3) ?_
       refine un_ 3 18 (fl_ 19 4) ?_
       refine un_ 4 19 (fl_ 19 5) ?_
       refine un_ 5 20 (fl_ 19 6) ?_
       refine un_ 6 21 (fl_ 19 7) ?_
       refine un_ 7 22 (fl_ 19 8) ?_
       refine un_ 8 23 (fl_ 19 9) ?_
       refine un_ 9 24 (fl_ 19 10) ?_
       refine un_ 10 25 (fl_ 19 11) ?_
       refine un_ 11 26 (fl_ 19 12) ?_
       refine un_ 12 27 (fl_ 19 13) ?_
       refine un_ 13 28 (fl_ 19 14) ?_
       refine un_ 14 29 (fl_ 19 15) ?_
       refine un_ 15 30 (fl_ 19 16) ?_
       refine un_ 16 31 (fl_ 19 17) ?_
       refine un_ 17 32 (fl_ 19 18) ?_
       refine pu_ 18 33 (fl_ 19 19) ?_
       refine done_ (done_of HT_.out (by kernel_rfl)) ?_
       have p199 : 0 ≤ (x5_1 : Int) := od_
       have q199 : x5_1 < (t196.length : Int) := od_
       obtain ⟨ad199, e199, hx199_0⟩ := Kd.at_int (Kd.R_reads' HO_4.out).2.2 x5_1 p199 q199
       cases e199
       replace p199 := eq_true p199
       replace q199 := eq_true q199
       try go_wp2_with (first | ((with_reducible refine gate_builtin (b := .append) (xs := #[.tmp 34, .tmp 39]) rfl ?_); at_builtin; refine Kd.R_append (Kd.int .i64) (w0 := w) w.heap.size rfl (.tmp 34) (.tmp 39) 22 3 (.int .i64 0) 8 rfl Try.underlying22 info3 rfl (by decide) (by omega) u3 x3_1 (rd t196 x5_1) [.int .i64 (rd t196 x5_1)] (fun k_ => some k_ ≠ (.slice (some ad199) t196.length co10 : Value).ownBlock) (fun _ => False) rfl rfl ?aP (fun _ hk => hk.elim) ?aF ?aO ?aB ?aS ?aL ?_; (case aP => exact rfl); (case aB => exact (bl_ HB.out)); (case aF => exact (fun k_ hk => Kd.fresh' (Kd.R_lt (kr_ HO_4.out)) k_ hk)); (case aO => exact (kr_ HO_3.out)); (case aS => exact (below_size (bl_ HB.out))); (case aL => have := LMc9.out; omega); intro v201 w12 ho hb hg hat; rw [← Ny200.out] at ho; have n0_ := Aside0.mk (Kd.R_after (ok := (fun _ => True)) (kr_ (Kd.R_mono HO_4.out (fun _ hk => ⟨trivial, by first | exact hk | exact SortW.own_len hk⟩))) hg hat); have n1_ := Aside0.mk (hb); have n2_ := Aside0.mk (ho); clear HO_4; clear HB; clear HO_3; have HO_4 := n0_; have HB := n1_; have HO202 := n2_; clear n0_ n1_ n2_; clear ho hb hg hat))
       go_roundg k1
       case measure => have := HK1.out; omega
       case rel => exact ⟨(y200), (wrap64 (x5_1 + 1)), sd_, H', ⟨by have := HK1.out; omega⟩, ⟨kr_ HO202.out⟩, ⟨kr_ (Kd.R_mono HO_4.out (fun _ hk => hk.2))⟩, ⟨bl_ HB.out⟩⟩
      ·rw [if_neg c9] at H
       exact absurd H (by simp)
     ·rw [if_neg c8] at H
      exact absurd H (by simp)
    ·rw [if_neg c7] at H
     have c7b0 : (x5_1 == 0) = false := beq_eq_false_iff_ne.mpr c7
     have c7b1 : (x5_1 != 0) = true := bne_iff_ne.mpr c7
     by_cases c13 : 0 ≤ x5_1
     ·rw [if_pos c13] at H
      have c13b0 := eq_true c13
      have c13b1 : decide (0 ≤ x5_1) = true := decide_eq_true c13
      clear c13
      by_cases c14 : x5_1 ≤ (t196.length : Int)
      ·rw [if_pos c14] at H
       have c14b0 := eq_true c14
       have c14b1 : decide (x5_1 ≤ (t196.length : Int)) = true := decide_eq_true c14
       clear c14
       obtain ⟨y203, hy203⟩ : ∃ y_ : List Int, y_ = (t196.take (x5_1 : Int).toNat) := ⟨_, rfl⟩
       replace H : ((spec_l3Table.f k1 y203 (rd t196 x5_1)).bind fun t208 => (if 0 ≤ (rd t196 x5_1) then (if (rd t196 x5_1) < (t208.length : Int) then (if (rdOf false t208 (rd t196 x5_1) = true) then (spec_l3Minimal.l0 k1 x3_1 t196 (wrap64 (x5_1 + 1))) else (if x3_1.length < 17592186044416 then (spec_l3Minimal.l0 k1 (x3_1 ++ [rd t196 x5_1]) t196 (wrap64 (x5_1 + 1))) else (none))) else (none)) else (none))) = some r := by first | (rw [hy203]; with_reducible exact H) | (have H2_ := (Option.bind_some _ _).symm.trans H; rw [hy203]; with_reducible exact H2_) | (have H2_ := (Option.bind_some _ _).symm.trans H; with_reducible exact H2_) | with_reducible exact H | (rw [hy203]; exact H) | exact H
       have Ny203 := Aside0.mk hy203
       clear hy203
       obtain ⟨t208, A15, H⟩ := ob_ H
       (try dsimp only at H)
       by_cases c16 : 0 ≤ (rd t196 x5_1)
       ·rw [if_pos c16] at H
        have c16b0 : decide (0 ≤ (rd t196 x5_1)) = true := decide_eq_true c16
        clear c16
        by_cases c17 : (rd t196 x5_1) < (t208.length : Int)
        ·rw [if_pos c17] at H
         have c17b0 : decide ((rd t196 x5_1) < (t208.length : Int)) = true := decide_eq_true c17
         clear c17
         obtain ⟨bq18, hbq18⟩ : ∃ b_ : Bool, b_ = (rdOf false t208 (rd t196 x5_1)) := ⟨_, rfl⟩
         replace H : (if (bq18 = true) then (spec_l3Minimal.l0 k1 x3_1 t196 (wrap64 (x5_1 + 1))) else (if x3_1.length < 17592186044416 then (spec_l3Minimal.l0 k1 (x3_1 ++ [rd t196 x5_1]) t196 (wrap64 (x5_1 + 1))) else (none))) = some r := by rw [← hbq18] at H; exact H
         have Nbq18 := Aside0.mk hbq18
         clear hbq18
         by_cases c19 : (bq18 = true)
         ·subst c19
          rw [if_pos rfl] at H
          have H' := Aside0.mk H
          clear H
          obtain ⟨Ao20, co20, eo20⟩ := Kd.R_slice HO_4.out
          subst eo20
          try go_wp2
          replace HO_3 := Aside0.mk (Kd.R_drew HO_3.out)
          replace HO_4 := Aside0.mk (Kd.R_drew HO_4.out)
          replace HB := Aside0.mk (below_drew1 HB.out)
          have q22 : (x5_1 : Int) ≤ ((t196.length : Int) : Int) := od_
          obtain ⟨i022, hi022, _, hsz22, _⟩ := info_parts info3
          have hroom22 : t196.length ≤ co20 := (Kd.R_reads' HO_4.out).2.1
          have hC22 : Kd.C (Kd.int .i64) _ Ao20 t196.length t196 := (Kd.R_reads' HO_4.out).2.2
          have hcut22 := cut_to (P := Try.prog) 22 3 .i64 Try.underlying22 hi022 Ao20 t196.length co20 x5_1 (od_) q22 hroom22
          have hr22 := Kd.C_take (m := (x5_1 : Int).toNat) hC22 (by omega)
          have hy22 : y203.length = (x5_1 : Int).toNat := (by rw [Ny203.out, List.length_take]; omega)
          rw [← Ny203.out] at hr22
          rw [← hy22] at hcut22
          have HR206 := Aside0.mk hr22
          have HC206 := Aside0.mk (show y203.length ≤ co20 from by omega)
          clear hr22 hC22 hroom22 hi022 hsz22
          have KY22 := Aside0.mk hy22
          clear hy22
          have KL22 := Aside0.mk (show (x5_1 : Int).toNat ≤ t196.length from by omega)
          replace q22 := eq_true q22
          have p207 : 0 ≤ (x5_1 : Int) := od_
          have q207 : x5_1 < (t196.length : Int) := od_
          obtain ⟨ad207, e207, hx207_0⟩ := Kd.at_int (Kd.R_reads' HO_4.out).2.2 x5_1 p207 q207
          cases e207
          replace p207 := eq_true p207
          replace q207 := eq_true q207
          have p211 : 0 ≤ (x5_1 : Int) := od_
          have q211 : x5_1 < (t196.length : Int) := od_
          obtain ⟨ad211, e211, hx211_0⟩ := Kd.at_int (Kd.R_reads' HO_4.out).2.2 x5_1 p211 q211
          obtain rfl : ad207 = ad211 := (by injection e211)
          replace p211 := eq_true p211
          replace q211 := eq_true q211
          refine start_ (n := 19) (S := fun w' => w'.cell? (ad207.add (x5_1).toNat) = some (.int .i64 (rd t196 x5_1)) ∧ w'.cell? (ad207.add (x5_1).toNat) = some (.int .i64 (rd t196 x5_1))) (ds := []) (fl_ 19 0) (by kernel_rfl) rfl rfl ⟨hx207_0, hx211_0⟩ (fun hHeld => ?_); refine with_tabW spec_l3Minimal.tab6 spec_l3Minimal.bits6 (fun HT_ HW_ => ?_)
          generalize wr.drew = w21 at HO_3 HO_4 HB HR206 hx207_0 hx211_0 hHeld ⊢
          refine pu_ 0 15 (fl_ 19 1) ?_
          refine pu_ 1 16 (fl_ 19 2) ?_
          refine pu_ 2 17 (fl_ 19 3) ?_
          refine pu_ 3 18 (fl_ 19 4) ?_
          refine pu_ 4 19 (fl_ 19 5) ?_
          refine pu_ 5 20 (fl_ 19 6) ?_
          refine pu_ 6 21 (fl_ 19 7) ?_
          refine pu_ 7 22 (fl_ 19 8) ?_
          refine pu_ 8 23 (fl_ 19 9) ?_
          refine pu_ 11 26 (fm_ 19 2559) ?_
          refine pu_ 12 27 (fm_ 19 6655) ?_
          refine pu_ 13 28 (fm_ 19 14847) ?_
          refine ta_ 9 24 (fm_ 19 15359) ?_
          refine ta_ 14 29 (fm_ 19 31743) ?_
          refine on_ 10 25 (fl_ 19 15) fun K hK => ?_
          refine go_ Try.func140 #[.slice (some ad207) y203.length co20, .int .i64 (rd t196 x5_1)] ?_
          with_reducible refine (spec_l3Table.calls k1 _ _ y203 (rd t196 x5_1) t208 _ ?side1 ?side2 A15.out).mono ?_
          (case side1 => repeat (first | exact (by repeat (first | (with_reducible exact HR206.out) | (with_reducible refine Kd.C_alloc ?_ _) | (with_reducible refine Kd.C_drewN ?_ _) | (with_reducible refine Kd.C_drew ?_) | exact HR206.out)) | (with_reducible refine Kd.C_alloc ?_ _) | (with_reducible refine Kd.C_drewN ?_ _) | (with_reducible refine Kd.C_drew ?_)))
          (case side2 => exact HC206.out)
          rintro e w23 ⟨v209, rfl, ho0, hb⟩
          have HS0_ := (hb.cell (World.block_lt_of_cell? _ _ (hHeld.1))).trans (hHeld.1)
          have HS1_ := (hb.cell (World.block_lt_of_cell? _ _ (hHeld.2))).trans (hHeld.2)
          refine ⟨_, rfl, ?_⟩
          replace HO_3 := rb_ HO_3 hb
          replace HO_4 := rb_ HO_4 hb
          have HO210 := rl_ ho0 HB
          replace HR206 := Aside0.mk (Kd.C_below (by repeat (first | (with_reducible exact HR206.out) | (with_reducible refine Kd.C_alloc ?_ _) | (with_reducible refine Kd.C_drewN ?_ _) | (with_reducible refine Kd.C_drew ?_) | exact HR206.out)) hb)
          replace HB := bs_ HB hb
          (try clear hb)
          (try clear hb2)
          (try clear hk)
          (try clear hi)
          (try clear ho0)
          obtain ⟨Ao24, co24, eo24⟩ := Kd.R_slice HO210.out
          (first | subst eo24 | (injection eo24 with f1_ f2_ f3_; have f4_ := f1_.symm; have f5_ := f3_.symm; clear f1_ f2_ f3_; subst f4_; subst f5_))
          have p212 : 0 ≤ ((rd t196 x5_1) : Int) := od_
          have q212 : (rd t196 x5_1) < (t208.length : Int) := od_
          obtain ⟨ad212, e212, hx212_0⟩ := Kd.at_bool (Kd.R_reads' HO210.out).2.2 (rd t196 x5_1) p212 q212
          (try rw [← Nbq18.out] at hx212_0)
          cases e212
          replace p212 := eq_true p212
          replace q212 := eq_true q212
          refine hK.out _ _ ⟨HS0_, HS1_⟩ (fun hHeld => ?_)
          clear hK K
          refine no_ 25 ?_
          refine pu_ 15 30 (fl_ 19 16) ?_
          have HSall_ := hHeld
          refine on_ 16 31 (fl_ 19 17) fun K hK => ?_
          refine value_ (w1 := ?_) (v := ?_) (by rfl) rfl ?_ ?_
          rotate_left 2
          ·go_simp
           constructor
           ·rfl
           ·rfl
          refine hK.out _ _ HSall_ (fun hHeld => ?_)
          clear hK K HSall_
          refine no_ 31 ?_
          refine pu_ 17 32 (fl_ 19 18) ?_
          refine pu_ 18 33 (fl_ 19 19) ?_
          refine done_ (done_of HT_.out (by kernel_rfl)) ?_
          try go_wp2
          go_roundg k1
          case measure => have := HK1.out; omega
          case rel => exact ⟨(x3_1), (wrap64 (x5_1 + 1)), sd_, H', ⟨by have := HK1.out; omega⟩, ⟨kr_ HO_3.out⟩, ⟨kr_ HO_4.out⟩, ⟨bl_ HB.out⟩⟩
         ·obtain rfl := Bool.eq_false_iff.mpr c19
          rw [if_neg nf_] at H
          by_cases c25 : x3_1.length < 17592186044416
          ·rw [if_pos c25] at H
           have LMc25 := Aside0.mk c25
           clear c25
           obtain ⟨y214, hy214⟩ : ∃ y_ : List Int, y_ = (x3_1 ++ [rd t196 x5_1]) := ⟨_, rfl⟩
           replace H : (spec_l3Minimal.l0 k1 y214 t196 (wrap64 (x5_1 + 1))) = some r := by first | (rw [hy214]; with_reducible exact H) | (have H2_ := (Option.bind_some _ _).symm.trans H; rw [hy214]; with_reducible exact H2_) | (have H2_ := (Option.bind_some _ _).symm.trans H; with_reducible exact H2_) | with_reducible exact H | (rw [hy214]; exact H) | exact H
           have Ny214 := Aside0.mk hy214
           clear hy214
           have H' := Aside0.mk H
           clear H
           obtain ⟨Ao26, co26, eo26⟩ := Kd.R_slice HO_4.out
           subst eo26
           try go_wp2
           replace HO_3 := Aside0.mk (Kd.R_drew HO_3.out)
           replace HO_4 := Aside0.mk (Kd.R_drew HO_4.out)
           replace HB := Aside0.mk (below_drew1 HB.out)
           have q28 : (x5_1 : Int) ≤ ((t196.length : Int) : Int) := od_
           obtain ⟨i028, hi028, _, hsz28, _⟩ := info_parts info3
           have hroom28 : t196.length ≤ co26 := (Kd.R_reads' HO_4.out).2.1
           have hC28 : Kd.C (Kd.int .i64) _ Ao26 t196.length t196 := (Kd.R_reads' HO_4.out).2.2
           have hcut28 := cut_to (P := Try.prog) 22 3 .i64 Try.underlying22 hi028 Ao26 t196.length co26 x5_1 (od_) q28 hroom28
           have hr28 := Kd.C_take (m := (x5_1 : Int).toNat) hC28 (by omega)
           have hy28 : y203.length = (x5_1 : Int).toNat := (by rw [Ny203.out, List.length_take]; omega)
           rw [← Ny203.out] at hr28
           rw [← hy28] at hcut28
           have HR206 := Aside0.mk hr28
           have HC206 := Aside0.mk (show y203.length ≤ co26 from by omega)
           clear hr28 hC28 hroom28 hi028 hsz28
           have KY28 := Aside0.mk hy28
           clear hy28
           have KL28 := Aside0.mk (show (x5_1 : Int).toNat ≤ t196.length from by omega)
           replace q28 := eq_true q28
           have p207 : 0 ≤ (x5_1 : Int) := od_
           have q207 : x5_1 < (t196.length : Int) := od_
           obtain ⟨ad207, e207, hx207_0⟩ := Kd.at_int (Kd.R_reads' HO_4.out).2.2 x5_1 p207 q207
           cases e207
           replace p207 := eq_true p207
           replace q207 := eq_true q207
           have p211 : 0 ≤ (x5_1 : Int) := od_
           have q211 : x5_1 < (t196.length : Int) := od_
           obtain ⟨ad211, e211, hx211_0⟩ := Kd.at_int (Kd.R_reads' HO_4.out).2.2 x5_1 p211 q211
           obtain rfl : ad207 = ad211 := (by injection e211)
           replace p211 := eq_true p211
           replace q211 := eq_true q211
           refine start_ (n := 19) (S := fun w' => w'.cell? (ad207.add (x5_1).toNat) = some (.int .i64 (rd t196 x5_1)) ∧ w'.cell? (ad207.add (x5_1).toNat) = some (.int .i64 (rd t196 x5_1))) (ds := []) (fl_ 19 0) (by kernel_rfl) rfl rfl ⟨hx207_0, hx211_0⟩ (fun hHeld => ?_); refine with_tabW spec_l3Minimal.tab6 spec_l3Minimal.bits6 (fun HT_ HW_ => ?_)
           generalize wr.drew = w27 at HO_3 HO_4 HB HR206 hx207_0 hx211_0 hHeld ⊢
           refine pu_ 0 15 (fl_ 19 1) ?_
           refine pu_ 1 16 (fl_ 19 2) ?_
           refine pu_ 2 17 (fl_ 19 3) ?_
           refine pu_ 3 18 (fl_ 19 4) ?_
           refine pu_ 4 19 (fl_ 19 5) ?_
           refine pu_ 5 20 (fl_ 19 6) ?_
           refine pu_ 6 21 (fl_ 19 7) ?_
           refine pu_ 7 22 (fl_ 19 8) ?_
           refine pu_ 8 23 (fl_ 19 9) ?_
           refine pu_ 11 26 (fm_ 19 2559) ?_
           refine pu_ 12 27 (fm_ 19 6655) ?_
           refine pu_ 13 28 (fm_ 19 14847) ?_
           refine ta_ 9 24 (fm_ 19 15359) ?_
           refine ta_ 14 29 (fm_ 19 31743) ?_
           refine on_ 10 25 (fl_ 19 15) fun K hK => ?_
           refine go_ Try.func140 #[.slice (some ad207) y203.length co26, .int .i64 (rd t196 x5_1)] ?_
           with_reducible refine (spec_l3Table.calls k1 _ _ y203 (rd t196 x5_1) t208 _ ?side1 ?side2 A15.out).mono ?_
           (case side1 => repeat (first | exact (by repeat (first | (with_reducible exact HR206.out) | (with_reducible refine Kd.C_alloc ?_ _) | (with_reducible refine Kd.C_drewN ?_ _) | (with_reducible refine Kd.C_drew ?_) | exact HR206.out)) | (with_reducible refine Kd.C_alloc ?_ _) | (with_reducible refine Kd.C_drewN ?_ _) | (with_reducible refine Kd.C_drew ?_)))
           (case side2 => exact HC206.out)
           rintro e w29 ⟨v209, rfl, ho0, hb⟩
           have HS0_ := (hb.cell (World.block_lt_of_cell? _ _ (hHeld.1))).trans (hHeld.1)
           have HS1_ := (hb.cell (World.block_lt_of_cell? _ _ (hHeld.2))).trans (hHeld.2)
           refine ⟨_, rfl, ?_⟩
           replace HO_3 := rb_ HO_3 hb
           replace HO_4 := rb_ HO_4 hb
           have HO210 := rl_ ho0 HB
           replace HR206 := Aside0.mk (Kd.C_below (by repeat (first | (with_reducible exact HR206.out) | (with_reducible refine Kd.C_alloc ?_ _) | (with_reducible refine Kd.C_drewN ?_ _) | (with_reducible refine Kd.C_drew ?_) | exact HR206.out)) hb)
           replace HB := bs_ HB hb
           (try clear hb)
           (try clear hb2)
           (try clear hk)
           (try clear hi)
           (try clear ho0)
           obtain ⟨Ao30, co30, eo30⟩ := Kd.R_slice HO210.out
           (first | subst eo30 | (injection eo30 with f1_ f2_ f3_; have f4_ := f1_.symm; have f5_ := f3_.symm; clear f1_ f2_ f3_; subst f4_; subst f5_))
           have p212 : 0 ≤ ((rd t196 x5_1) : Int) := od_
           have q212 : (rd t196 x5_1) < (t208.length : Int) := od_
           obtain ⟨ad212, e212, hx212_0⟩ := Kd.at_bool (Kd.R_reads' HO210.out).2.2 (rd t196 x5_1) p212 q212
           (try rw [← Nbq18.out] at hx212_0)
           cases e212
           replace p212 := eq_true p212
           replace q212 := eq_true q212
           refine hK.out _ _ ⟨HS0_, HS1_⟩ (fun hHeld => ?_)
           clear hK K
           refine no_ 25 ?_
           refine pu_ 15 30 (fl_ 19 16) ?_
           have HSall_ := hHeld
           refine on_ 16 31 (fl_ 19 17) fun K hK => ?_
           refine value_ (w1 := ?_) (v := ?_) (by rfl) rfl ?_ ?_
           rotate_left 2
           ·go_simp
            constructor
            ·rfl
            ·rfl
           refine hK.out _ _ HSall_ (fun hHeld => ?_)
           clear hK K HSall_
           refine no_ 31 ?_
           refine pu_ 17 32 (fl_ 19 18) ?_
           refine pu_ 18 33 (fl_ 19 19) ?_
           refine done_ (done_of HT_.out (by kernel_rfl)) ?_
           have p213 : 0 ≤ (x5_1 : Int) := od_
           have q213 : x5_1 < (t196.length : Int) := od_
           obtain ⟨ad213, e213, hx213_0⟩ := Kd.at_int (Kd.R_reads' HO_4.out).2.2 x5_1 p213 q213
           obtain rfl : ad207 = ad213 := (by injection e213)
           replace p213 := eq_true p213
           replace q213 := eq_true q213
           try go_wp2_with (first | ((with_reducible refine gate_builtin (b := .append) (xs := #[.tmp 34, .tmp 39]) rfl ?_); at_builtin; refine Kd.R_append (Kd.int .i64) (w0 := w) w.heap.size rfl (.tmp 34) (.tmp 39) 22 3 (.int .i64 0) 8 rfl Try.underlying22 info3 rfl (by decide) (by omega) u3 x3_1 (rd t196 x5_1) [.int .i64 (rd t196 x5_1)] (fun k_ => some k_ ≠ (.slice (some ad207) t196.length co26 : Value).ownBlock) (fun _ => False) rfl rfl ?aP (fun _ hk => hk.elim) ?aF ?aO ?aB ?aS ?aL ?_; (case aP => exact rfl); (case aB => exact (bl_ HB.out)); (case aF => exact (fun k_ hk => Kd.fresh' (Kd.R_lt (kr_ HO_4.out)) k_ hk)); (case aO => exact (kr_ HO_3.out)); (case aS => exact (below_size (bl_ HB.out))); (case aL => have := LMc25.out; omega); intro v215 w31 ho hb hg hat; rw [← Ny214.out] at ho; have n0_ := Aside0.mk (Kd.R_after (ok := (fun _ => True)) (kr_ (Kd.R_mono HO_4.out (fun _ hk => ⟨trivial, by first | exact hk | exact SortW.own_len hk⟩))) hg hat); have n1_ := Aside0.mk (Kd.R_over' (kr_ HO210.out) (Kd.R_typed (kr_ HO_3.out)) (by decide) hg); have n2_ := Aside0.mk (hb); have n3_ := Aside0.mk ((show Kd.C (Kd.int .i64) w31 (some ad207) y203.length y203 from by rw [Ny203.out]; exact Kd.C_take (m := (x5_1 : Int).toNat) ((Kd.R_reads' (Kd.R_after (ok := (fun _ => True)) (kr_ (Kd.R_mono HO_4.out (fun _ hk => ⟨trivial, by first | exact hk | exact SortW.own_len hk⟩))) hg hat)).2.2) KL28.out)); have n4_ := Aside0.mk (ho); clear HO_4; clear HO210; clear HB; clear HR206; clear HO_3; have HO_4 := n0_; have HO210 := n1_; have HB := n2_; have HR206 := n3_; have HO216 := n4_; clear n0_ n1_ n2_ n3_ n4_; clear ho hb hg hat))
           go_roundg k1
           case measure => have := HK1.out; omega
           case rel => exact ⟨(y214), (wrap64 (x5_1 + 1)), sd_, H', ⟨by have := HK1.out; omega⟩, ⟨kr_ HO216.out⟩, ⟨kr_ (Kd.R_mono HO_4.out (fun _ hk => hk.2))⟩, ⟨bl_ HB.out⟩⟩
          ·rw [if_neg c25] at H
           exact absurd H (by simp)
        ·rw [if_neg c17] at H
         exact absurd H (by simp)
       ·rw [if_neg c16] at H
        exact absurd H (by simp)
      ·rw [if_neg c14] at H
       exact absurd H (by simp)
     ·rw [if_neg c13] at H
      exact absurd H (by simp)
   ·rw [if_neg c6] at H
    have c6b0 : decide (x5_1 < (t196.length : Int)) = false := decide_eq_false c6
    clear c6
    obtain rfl := Option.some.inj H
    obtain ⟨Ao32, co32, eo32⟩ := Kd.R_slice HO_4.out
    subst eo32
    go_wp2
    go_ret
    exact ⟨_, er_, kr_ (Kd.R_mono HO_3.out (fun _ hk => trivial)), bl_ HB.out⟩
end Go.Proofs.Ytbjbolblahlhcaa.PFnWilf
end
