/- Part 5 of the claim for FnArf, of the chain from the printed contracts and the plain laws to the row. It has no condition of its own. -/
import Derived.Test.YtddgegejeoihaaaG1ZFnArf
import Derived.Test.YtddgegejeoihaaaG2ZFnArf
import Derived.Test.YtddgegejeoihaaaG4ZFnArf
section
namespace Go.Proofs.Ytddgegejeoihaaa.PFnArf
open Go.RowKit Go.Proofs.YtddgegejeoihaaaW.PrintWords Go.Proofs.YtddgegejeoihaaaW.PrintLast Go.Proofs.YtddgegejeoihaaaW.PrintMore
open Go.Proofs.Ytddgegejeoihaaa.SortW (bk_ kr_ t_ f_)
open Go.Proofs.Ytddgegejeoihaaa.SqW
attribute [local go_sem] max2_int min2_int max_two min_two max_three min_three max_four min_four
set_option maxHeartbeats 8000000
set_option maxRecDepth 100000
set_option linter.unusedVariables false
set_option linter.unusedSimpArgs false
def spec_l3Bent.f (k : Nat) (s0_0 : List Int) (s0_1 : Int) (s0_2 : Int) : Option (List Int × Int × Int) := (spec_l3Draw.f k s0_0 s0_1 s0_2).bind fun bt311 => ((spec_l1Below.f s0_0 bt311.2.1 bt311.2.2 12).bind fun bt317 => (if bt317.1 = 0 then ((spec_l1PickInt.f s0_0 bt317.2.1 bt317.2.2 (([0, 61, 12, (-3), 60] : List Int))).bind fun bt323 => (if bt311.1.length < 17592186044416 then (some ((bt311.1 ++ [bt323.1]), bt323.2.1, bt323.2.2)) else (none))) else (if bt317.1 = 1 then (if 1 ≤ (bt311.1.length : Int) then (some ((bt311.1.drop (1 : Int).toNat), bt317.2.1, bt317.2.2)) else (none)) else (if bt317.1 = 2 then ((spec_l1PickInt.f s0_0 bt317.2.1 bt317.2.2 (([0, 59, 4] : List Int))).bind fun bt335 => (some ((([bt335.1, 60] : List Int)), bt335.2.1, bt335.2.2))) else (some (bt311.1, bt317.2.1, bt317.2.2))))))
def spec_l3Bent.T4 : Bool × List (List Nat × List Nat) := (true, [([], []), ([0], [0]), ([], []), ([], []), ([2, 3], [2, 3]), ([4], [4]), ([1, 5, 4], [1, 5]), ([0, 1, 2, 3, 4, 5, 6], []), ([7, 6, 6, 0, 1, 2, 3, 4, 5, 6], [6, 7])])
def spec_l3Bent.B4 : List Nat := [0, 1, 0, 0, 12, 28, 63, 127, 255]
theorem spec_l3Bent.tab4 : rtab .any (opsOf Try.f47 4) = spec_l3Bent.T4 := by kernel_rfl
theorem spec_l3Bent.bits4 : waitsOk spec_l3Bent.T4.2 spec_l3Bent.B4 = true := by kernel_rfl
theorem spec_l3Bent.calls (k : Nat) (g : Nat) (s0_0 : List Int) (s0_1 : Int) (s0_2 : Int) (r1 : List Int) (r2 : Int) (r3 : Int) (w0 w : World) (hI : IsS72 w0 w g s0_0 s0_1 s0_2) (hB : Below w0.heap.size w0 w) (h : spec_l3Bent.f k s0_0 s0_1 s0_2 = some (r1, r2, r3)) :
 Calls Try.prog 47 #[.pointer (some ⟨g, 0, none⟩)] w fun e w' => ∃ v0_ : Value, e = .returned (.agg #[v0_]) ∧ Kd.Q (Kd.int .i64) 3 w' w.heap.size (fun _ => True) v0_ r1 ∧ IsS72 w0 w' g s0_0 r2 r3 ∧ Below w0.heap.size w0 w' ∧ KeepBut w w' g none := by
 have hu29 := Try.underlying29
 have HI0 := am_ hI
 have HK := am_ (KeepBut.refl w g none)
 have HL := am_ hB.size
 clear hI
 have HW0 := am_ hB.size
 have HB := am_ hB
 clear hB
 have H := h
 clear h
 unfold spec_l3Bent.f at H
 replace H := Option.bind_eq_some_iff.mp H
 obtain ⟨⟨t311, t314, t315⟩, A20, H⟩ := H
 (try dsimp only at H)
 have A2 := am_ A20
 clear A20
 replace H := Option.bind_eq_some_iff.mp H
 obtain ⟨⟨t317, t318, t319⟩, A30, H⟩ := H
 (try dsimp only at H)
 have A3 := am_ A30
 clear A30
 by_cases c4 : t317 = 0
 rotate_left
 ·rw [if_neg c4] at H
  have c4b0 : (t317 == 0) = false := beq_eq_false_iff_ne.mpr c4
  have c4b1 : (t317 != 0) = true := bne_iff_ne.mpr c4
  by_cases c26 : t317 = 1
  ·rw [if_pos c26] at H
   have c26b0 : (t317 == 1) = true := beq_iff_eq.mpr c26
   have c26b1 : (t317 != 1) = false := bne_eq_false_iff_eq.mpr c26
   clear c26
   by_cases c27 : 1 ≤ (t311.length : Int)
   ·rw [if_pos c27] at H
    have c27b0 := eq_true c27
    have c27b1 := decide_eq_true c27
    clear c27
    obtain ⟨y329, hy329⟩ : ∃ y_ : List Int, y_ = (t311.drop (1 : Int).toNat) := ⟨_, rfl⟩
    replace H : (some (y329, t318, t319)) = some (r1, r2, r3) := hr_ hy329 H
    have Ny329 := am_ hy329
    clear hy329
    simp only [Option.some.injEq, Prod.mk.injEq] at H
    obtain ⟨rfl, rfl, rfl⟩ := H
    go_enter Try.func47, Try.ntmps47
    go_wp2_with (first | ((with_reducible refine gate_dst (N := 2) rfl ?_); refine be_ 2 #[.slice none 0 0] 29 fun gb310 hg w28 hbox hb => ?_; replace HB := bs_ HB hb; have BK310 := am_ (hbox); have GW310 := am_ ((by rw [hg]; exact (keep_size (w := w) (g := g) (row := none) (kp_ HK.out)) : w.heap.size ≤ gb310)); have GE310 := am_ ((Nat.le_trans HW0.out (by rw [hg]; exact (keep_size (w := w) (g := g) (row := none) (kp_ HK.out)) : w.heap.size ≤ gb310) : w0.heap.size ≤ gb310)); replace HK := am_ (KeepBut.trans (kp_ HK.out) (KeepBut.of_below hb g none) (.inl rfl)); have NB0_310 := am_ ((by rw [hg]; exact Nat.ne_of_lt (IsS72.lt (show IsS72 w0 _ g s0_0 s0_1 s0_2 from hi_ HI0.out)) : g ≠ gb310)); have NB310_0 := am_ ((by rw [hg]; exact Nat.ne_of_gt (IsS72.lt (show IsS72 w0 _ g s0_0 s0_1 s0_2 from hi_ HI0.out)) : gb310 ≠ g)); replace HI0 := am_ (IsS72.below (hi_ HI0.out) hb); clear hb hbox hg) | ((with_reducible refine gate_callee (f := 83) rfl ?_); refine gl_ 5 Try.func83 #[.pointer (some ⟨g, 0, none⟩)] ?_; (with_reducible refine (spec_l3Draw.calls k g s0_0 s0_1 s0_2 t311 t314 t315 w0 _ ?side1 ?side2 A2.out).mono ?_); (case side1 => exact hi_ HI0.out); (case side2 => exact bl_ HB.out); rintro e w29 ⟨v312, rfl, ho0, hi, hb, hk⟩; refine ⟨_, rfl, ?_⟩; replace BK310 := am_ (KeepBut.blk hk (g' := gb310) (o := .cells #[.slice none 0 0] 29 (0, 0)) (bk_ BK310.out) NB310_0.out (by simp)); have HO313 := am_ (Kd.R_lower ho0 (keep_size (w := w) (g := g) (row := none) (kp_ HK.out))); replace HK := am_ (KeepBut.trans (kp_ HK.out) hk (.inl rfl)); replace HB := am_ (hb); replace HI0 := am_ (hi); (try clear hb); (try clear hb2); (try clear hk); (try clear hi); (try clear ho0)) | ((with_reducible refine gate_dst (N := 3) rfl ?_); refine be_ 3 #[.slice none 0 0] 29 fun gb316 hg w30 hbox hb => ?_; replace HO313 := rb_ HO313 hb; replace HB := bs_ HB hb; have BK316 := am_ (hbox); have GW316 := am_ ((by rw [hg]; exact (keep_size (w := w) (g := g) (row := none) (kp_ HK.out)) : w.heap.size ≤ gb316)); have GE316 := am_ ((Nat.le_trans HW0.out (by rw [hg]; exact (keep_size (w := w) (g := g) (row := none) (kp_ HK.out)) : w.heap.size ≤ gb316) : w0.heap.size ≤ gb316)); replace HK := am_ (KeepBut.trans (kp_ HK.out) (KeepBut.of_below hb g none) (.inl rfl)); have NB310_316 := nl_ hg BK310; have NB316_310 := ng_ hg BK310; replace BK310 := bb_ BK310 hb; have NB0_316 := am_ ((by rw [hg]; exact Nat.ne_of_lt (IsS72.lt (show IsS72 w0 _ g s0_0 t314 t315 from hi_ HI0.out)) : g ≠ gb316)); have NB316_0 := am_ ((by rw [hg]; exact Nat.ne_of_gt (IsS72.lt (show IsS72 w0 _ g s0_0 t314 t315 from hi_ HI0.out)) : gb316 ≠ g)); replace HI0 := am_ (IsS72.below (hi_ HI0.out) hb); clear hb hbox hg; obtain ⟨Ao31, co31, eo31⟩ := Kd.R_slice HO313.out; subst eo31; have hnb32 := NB316_310.out; have hnc32 := NB310_316.out; have hnb33 := NB316_0.out; have hnc33 := NB0_316.out; have hcz34_0 := bc_ BK316; have hfz34_0 := blk_frozen BK316.out 0) | ((with_reducible refine gate_callee (f := 84) rfl ?_); refine gl_ 7 Try.func84 #[.pointer (some ⟨g, 0, none⟩), .int .i64 12] ?_; (with_reducible refine (spec_l1Below.calls g s0_0 t314 t315 12 t317 t318 t319 w0 _ ?side1 ?side2 A3.out).mono ?_); (case side1 => exact hi_ HI0.out); (case side2 => exact bl_ HB.out); rintro e w35 ⟨rfl, hi, hb, hk⟩; refine ⟨_, rfl, ?_⟩; replace BK310 := am_ (KeepBut.blk hk (g' := gb310) (o := .cells #[.slice none 0 0] 29 (0, 0)) (bf_ BK310.out) NB310_0.out (by simp)); replace HO313 := am_ (Kd.R_mono (Kd.R_keep (IsS72.apart (show IsS72 w0 _ g s0_0 t314 t315 from hi_ HI0.out) (kr_ ((Kd.R_mono (Kd.R_far (p := ⟨gb316, 0, none⟩) (Kd.R_types HO313.out BK316.out (by decide)) (fun _ hk => hk.2) (.slice Ao31 t311.length co31)) (fun _ h_ => h_.1)))) (by decide)) hk (fun _ h => h.2)) (fun _ h => h.1)); replace BK316 := am_ (KeepBut.blk hk (g' := gb316) (o := .cells #[.slice Ao31 t311.length co31] 29 (0, 0)) (by (with_reducible repeat (first | refine blk_drewN ?_ _ | refine blk_drew ?_ | refine blk_alloc ?_ _)); refine blk_put (cs := #[.slice none 0 0]) ?_ 0 _ rfl; (with_reducible repeat (first | refine blk_drewN ?_ _ | refine blk_drew ?_ | refine blk_alloc ?_ _)); exact BK316.out) NB316_0.out (by simp)); replace HK := am_ (KeepBut.trans (kp_ HK.out) hk (.inl rfl)); replace HB := am_ (hb); replace HI0 := am_ (hi); (try clear hb); (try clear hb2); (try clear hk); (try clear hi); have hcz36_0 := bc_ BK316; have hfz36_0 := blk_frozen BK316.out 0; have q37 : (1 : Int) ≤ ((t311.length : Int) : Int) := od_; obtain ⟨i037, hi037, _, hsz37, _⟩ := info_parts info3; have hcut37 := cut_from (P := Try.prog) 22 3 .i64 Try.underlying22 hi037 1 hsz37 Ao31 t311.length co31 1 (by omega) q37; have hr37 := Kd.Q_drop (k := (1 : Int).toNat) (Kd.Q_of_R HO313.out) (by omega); obtain ⟨A37, hA37⟩ : ∃ A1, A1 = (if co31 = (1 : Int).toNat then Ao31 else (Ao31 : Option Addr).map (·.add ((1 : Int).toNat * 1))) := ⟨_, rfl⟩; obtain ⟨c37, hc37⟩ : ∃ c1, c1 = co31 - (1 : Int).toNat := ⟨_, rfl⟩; have hy37 : y329.length = t311.length - (1 : Int).toNat := (by rw [Ny329.out, List.length_drop]); rw [← Ny329.out] at hr37; rw [← hy37, ← hA37, ← hc37] at hcut37; replace hr37 : Kd.Q (Kd.int .i64) 3 w35 w.heap.size (fun _ => True) (.slice A37 y329.length c37) y329 := (by rw [hA37, hc37, hy37]; exact hr37); have HE37 : Aside0 ((Value.slice A37 y329.length c37).ownBlock = (.slice Ao31 t311.length co31 : Value).ownBlock) := ⟨by rw [hA37]; split <;> (cases (Ao31 : Option Addr) <;> rfl)⟩; clear hy37 hi037 hsz37 HO313 hA37 hc37; have HO331 := am_ hr37; clear hr37; replace q37 := eq_true q37; have hnb38 := NB310_0.out; have hnc38 := NB0_310.out; have hcz39_0 := bc_ BK310; have hfz39_0 := blk_frozen BK310.out 0))
    refine bodyPost_ret (results_cell_row rfl _ _ gb310 29 #[.slice A37 y329.length c37] (0, 0) _ rfl (by (with_reducible repeat (first | refine blk_drewN ?_ _ | refine blk_drew ?_ | refine blk_alloc ?_ _)); refine blk_put (cs := #[.slice none 0 0]) ?_ 0 _ rfl; (with_reducible repeat (first | refine blk_drewN ?_ _ | refine blk_drew ?_ | refine blk_alloc ?_ _)); refine blk_far ?_ NB310_316.out _; (with_reducible repeat (first | refine blk_drewN ?_ _ | refine blk_drew ?_ | refine blk_alloc ?_ _)); exact BK310.out) Try.underlying29 rfl (by kernel_rfl)) rfl ?_
    exact ⟨_, er_, kq_ (Kd.Q_mono (Kd.Q_far (p := ⟨gb310, 0, none⟩) (Kd.Q_far (p := ⟨gb316, 0, none⟩) (Kd.Q_types (Kd.Q_types HO331.out BK316.out (by decide)) BK310.out (by decide)) (fun _ hk => hk.1.2) (.slice A37 y329.length c37)) (fun _ hk => hk.2) (.slice A37 y329.length c37)) (fun _ hk => trivial)), hi_ HI0.out, bl_ HB.out, kp_ HK.out⟩
   rw [if_neg c27] at H
   exact absurd H (by simp)
  rw [if_neg c26] at H
  have c26b0 : (t317 == 1) = false := beq_eq_false_iff_ne.mpr c26
  have c26b1 : (t317 != 1) = true := bne_iff_ne.mpr c26
  by_cases c40 : t317 = 2
  rotate_left
  ·rw [if_neg c40] at H
   have c40b0 : (t317 == 2) = false := beq_eq_false_iff_ne.mpr c40
   have c40b1 : (t317 != 2) = true := bne_iff_ne.mpr c40
   simp only [Option.some.injEq, Prod.mk.injEq] at H
   obtain ⟨rfl, rfl, rfl⟩ := H
   go_enter Try.func47, Try.ntmps47
   go_wp2_with (first | ((with_reducible refine gate_dst (N := 2) rfl ?_); refine be_ 2 #[.slice none 0 0] 29 fun gb310 hg w60 hbox hb => ?_; replace HB := bs_ HB hb; have BK310 := am_ (hbox); have GW310 := am_ ((by rw [hg]; exact (keep_size (w := w) (g := g) (row := none) (kp_ HK.out)) : w.heap.size ≤ gb310)); have GE310 := am_ ((Nat.le_trans HW0.out (by rw [hg]; exact (keep_size (w := w) (g := g) (row := none) (kp_ HK.out)) : w.heap.size ≤ gb310) : w0.heap.size ≤ gb310)); replace HK := am_ (KeepBut.trans (kp_ HK.out) (KeepBut.of_below hb g none) (.inl rfl)); have NB0_310 := am_ ((by rw [hg]; exact Nat.ne_of_lt (IsS72.lt (show IsS72 w0 _ g s0_0 s0_1 s0_2 from hi_ HI0.out)) : g ≠ gb310)); have NB310_0 := am_ ((by rw [hg]; exact Nat.ne_of_gt (IsS72.lt (show IsS72 w0 _ g s0_0 s0_1 s0_2 from hi_ HI0.out)) : gb310 ≠ g)); replace HI0 := am_ (IsS72.below (hi_ HI0.out) hb); clear hb hbox hg) | ((with_reducible refine gate_callee (f := 83) rfl ?_); refine gl_ 5 Try.func83 #[.pointer (some ⟨g, 0, none⟩)] ?_; (with_reducible refine (spec_l3Draw.calls k g s0_0 s0_1 s0_2 t311 t314 t315 w0 _ ?side1 ?side2 A2.out).mono ?_); (case side1 => exact hi_ HI0.out); (case side2 => exact bl_ HB.out); rintro e w61 ⟨v312, rfl, ho0, hi, hb, hk⟩; refine ⟨_, rfl, ?_⟩; replace BK310 := am_ (KeepBut.blk hk (g' := gb310) (o := .cells #[.slice none 0 0] 29 (0, 0)) (bk_ BK310.out) NB310_0.out (by simp)); have HO313 := am_ (Kd.R_lower ho0 (keep_size (w := w) (g := g) (row := none) (kp_ HK.out))); replace HK := am_ (KeepBut.trans (kp_ HK.out) hk (.inl rfl)); replace HB := am_ (hb); replace HI0 := am_ (hi); (try clear hb); (try clear hb2); (try clear hk); (try clear hi); (try clear ho0)) | ((with_reducible refine gate_dst (N := 3) rfl ?_); refine be_ 3 #[.slice none 0 0] 29 fun gb316 hg w62 hbox hb => ?_; replace HO313 := rb_ HO313 hb; replace HB := bs_ HB hb; have BK316 := am_ (hbox); have GW316 := am_ ((by rw [hg]; exact (keep_size (w := w) (g := g) (row := none) (kp_ HK.out)) : w.heap.size ≤ gb316)); have GE316 := am_ ((Nat.le_trans HW0.out (by rw [hg]; exact (keep_size (w := w) (g := g) (row := none) (kp_ HK.out)) : w.heap.size ≤ gb316) : w0.heap.size ≤ gb316)); replace HK := am_ (KeepBut.trans (kp_ HK.out) (KeepBut.of_below hb g none) (.inl rfl)); have NB310_316 := nl_ hg BK310; have NB316_310 := ng_ hg BK310; replace BK310 := bb_ BK310 hb; have NB0_316 := am_ ((by rw [hg]; exact Nat.ne_of_lt (IsS72.lt (show IsS72 w0 _ g s0_0 t314 t315 from hi_ HI0.out)) : g ≠ gb316)); have NB316_0 := am_ ((by rw [hg]; exact Nat.ne_of_gt (IsS72.lt (show IsS72 w0 _ g s0_0 t314 t315 from hi_ HI0.out)) : gb316 ≠ g)); replace HI0 := am_ (IsS72.below (hi_ HI0.out) hb); clear hb hbox hg; obtain ⟨Ao63, co63, eo63⟩ := Kd.R_slice HO313.out; subst eo63; have hnb64 := NB316_310.out; have hnc64 := NB310_316.out; have hnb65 := NB316_0.out; have hnc65 := NB0_316.out; have hcz66_0 := bc_ BK316; have hfz66_0 := blk_frozen BK316.out 0) | ((with_reducible refine gate_callee (f := 84) rfl ?_); refine gl_ 7 Try.func84 #[.pointer (some ⟨g, 0, none⟩), .int .i64 12] ?_; (with_reducible refine (spec_l1Below.calls g s0_0 t314 t315 12 t317 t318 t319 w0 _ ?side1 ?side2 A3.out).mono ?_); (case side1 => exact hi_ HI0.out); (case side2 => exact bl_ HB.out); rintro e w67 ⟨rfl, hi, hb, hk⟩; refine ⟨_, rfl, ?_⟩; replace BK310 := am_ (KeepBut.blk hk (g' := gb310) (o := .cells #[.slice none 0 0] 29 (0, 0)) (bf_ BK310.out) NB310_0.out (by simp)); replace HO313 := am_ (Kd.R_mono (Kd.R_keep (IsS72.apart (show IsS72 w0 _ g s0_0 t314 t315 from hi_ HI0.out) (kr_ ((Kd.R_mono (Kd.R_far (p := ⟨gb316, 0, none⟩) (Kd.R_types HO313.out BK316.out (by decide)) (fun _ hk => hk.2) (.slice Ao63 t311.length co63)) (fun _ h_ => h_.1)))) (by decide)) hk (fun _ h => h.2)) (fun _ h => h.1)); replace BK316 := am_ (KeepBut.blk hk (g' := gb316) (o := .cells #[.slice Ao63 t311.length co63] 29 (0, 0)) (by (with_reducible repeat (first | refine blk_drewN ?_ _ | refine blk_drew ?_ | refine blk_alloc ?_ _)); refine blk_put (cs := #[.slice none 0 0]) ?_ 0 _ rfl; (with_reducible repeat (first | refine blk_drewN ?_ _ | refine blk_drew ?_ | refine blk_alloc ?_ _)); exact BK316.out) NB316_0.out (by simp)); replace HK := am_ (KeepBut.trans (kp_ HK.out) hk (.inl rfl)); replace HB := am_ (hb); replace HI0 := am_ (hi); (try clear hb); (try clear hb2); (try clear hk); (try clear hi); have hcz68_0 := bc_ BK316; have hfz68_0 := blk_frozen BK316.out 0; have hnb69 := NB310_0.out; have hnc69 := NB0_310.out; have hcz70_0 := bc_ BK310; have hfz70_0 := blk_frozen BK310.out 0))
   refine bodyPost_ret (results_cell_row rfl _ _ gb310 29 #[.slice Ao63 t311.length co63] (0, 0) _ rfl (by (with_reducible repeat (first | refine blk_drewN ?_ _ | refine blk_drew ?_ | refine blk_alloc ?_ _)); refine blk_put (cs := #[.slice none 0 0]) ?_ 0 _ rfl; (with_reducible repeat (first | refine blk_drewN ?_ _ | refine blk_drew ?_ | refine blk_alloc ?_ _)); exact BK310.out) Try.underlying29 rfl (by kernel_rfl)) rfl ?_
   exact ⟨_, er_, Kd.Q_of_R (kr_ (Kd.R_mono (Kd.R_far (p := ⟨gb310, 0, none⟩) (Kd.R_types HO313.out BK310.out (by decide)) (fun _ hk => hk.2) (.slice Ao63 t311.length co63)) (fun _ hk => trivial))), hi_ HI0.out, bl_ HB.out, kp_ HK.out⟩
  rw [if_pos c40] at H
  have c40b0 : (t317 == 2) = true := beq_iff_eq.mpr c40
  have c40b1 : (t317 != 2) = false := bne_eq_false_iff_eq.mpr c40
  clear c40
  obtain ⟨y332, hy332⟩ : ∃ y_ : List Int, y_ = (([0, 59, 4] : List Int)) := ⟨_, rfl⟩
  replace H : ((spec_l1PickInt.f s0_0 t318 t319 y332).bind fun bt335 => (some ((([bt335.1, 60] : List Int)), bt335.2.1, bt335.2.2))) = some (r1, r2, r3) := hr_ hy332 H
  have Ny332 := am_ hy332
  clear hy332
  replace H := Option.bind_eq_some_iff.mp H
  obtain ⟨⟨t335, t336, t337⟩, A410, H⟩ := H
  (try dsimp only at H)
  have A41 := am_ A410
  clear A410
  obtain ⟨y338, hy338⟩ : ∃ y_ : List Int, y_ = (([t335, 60] : List Int)) := ⟨_, rfl⟩
  replace H : (some (y338, t336, t337)) = some (r1, r2, r3) := hr_ hy338 H
  have Ny338 := am_ hy338
  clear hy338
  simp only [Option.some.injEq, Prod.mk.injEq] at H
  obtain ⟨rfl, rfl, rfl⟩ := H
  go_enter Try.func47, Try.ntmps47
  go_wp2_with (first | ((with_reducible refine gate_dst (N := 2) rfl ?_); refine be_ 2 #[.slice none 0 0] 29 fun gb310 hg w42 hbox hb => ?_; replace HB := bs_ HB hb; have BK310 := am_ (hbox); have GW310 := am_ ((by rw [hg]; exact (keep_size (w := w) (g := g) (row := none) (kp_ HK.out)) : w.heap.size ≤ gb310)); have GE310 := am_ ((Nat.le_trans HW0.out (by rw [hg]; exact (keep_size (w := w) (g := g) (row := none) (kp_ HK.out)) : w.heap.size ≤ gb310) : w0.heap.size ≤ gb310)); replace HK := am_ (KeepBut.trans (kp_ HK.out) (KeepBut.of_below hb g none) (.inl rfl)); have NB0_310 := am_ ((by rw [hg]; exact Nat.ne_of_lt (IsS72.lt (show IsS72 w0 _ g s0_0 s0_1 s0_2 from hi_ HI0.out)) : g ≠ gb310)); have NB310_0 := am_ ((by rw [hg]; exact Nat.ne_of_gt (IsS72.lt (show IsS72 w0 _ g s0_0 s0_1 s0_2 from hi_ HI0.out)) : gb310 ≠ g)); replace HI0 := am_ (IsS72.below (hi_ HI0.out) hb); clear hb hbox hg) | ((with_reducible refine gate_callee (f := 83) rfl ?_); refine gl_ 5 Try.func83 #[.pointer (some ⟨g, 0, none⟩)] ?_; (with_reducible refine (spec_l3Draw.calls k g s0_0 s0_1 s0_2 t311 t314 t315 w0 _ ?side1 ?side2 A2.out).mono ?_); (case side1 => exact hi_ HI0.out); (case side2 => exact bl_ HB.out); rintro e w43 ⟨v312, rfl, ho0, hi, hb, hk⟩; refine ⟨_, rfl, ?_⟩; replace BK310 := am_ (KeepBut.blk hk (g' := gb310) (o := .cells #[.slice none 0 0] 29 (0, 0)) (bk_ BK310.out) NB310_0.out (by simp)); have HO313 := am_ (Kd.R_lower ho0 (keep_size (w := w) (g := g) (row := none) (kp_ HK.out))); replace HK := am_ (KeepBut.trans (kp_ HK.out) hk (.inl rfl)); replace HB := am_ (hb); replace HI0 := am_ (hi); (try clear hb); (try clear hb2); (try clear hk); (try clear hi); (try clear ho0)) | ((with_reducible refine gate_dst (N := 3) rfl ?_); refine be_ 3 #[.slice none 0 0] 29 fun gb316 hg w44 hbox hb => ?_; replace HO313 := rb_ HO313 hb; replace HB := bs_ HB hb; have BK316 := am_ (hbox); have GW316 := am_ ((by rw [hg]; exact (keep_size (w := w) (g := g) (row := none) (kp_ HK.out)) : w.heap.size ≤ gb316)); have GE316 := am_ ((Nat.le_trans HW0.out (by rw [hg]; exact (keep_size (w := w) (g := g) (row := none) (kp_ HK.out)) : w.heap.size ≤ gb316) : w0.heap.size ≤ gb316)); replace HK := am_ (KeepBut.trans (kp_ HK.out) (KeepBut.of_below hb g none) (.inl rfl)); have NB310_316 := nl_ hg BK310; have NB316_310 := ng_ hg BK310; replace BK310 := bb_ BK310 hb; have NB0_316 := am_ ((by rw [hg]; exact Nat.ne_of_lt (IsS72.lt (show IsS72 w0 _ g s0_0 t314 t315 from hi_ HI0.out)) : g ≠ gb316)); have NB316_0 := am_ ((by rw [hg]; exact Nat.ne_of_gt (IsS72.lt (show IsS72 w0 _ g s0_0 t314 t315 from hi_ HI0.out)) : gb316 ≠ g)); replace HI0 := am_ (IsS72.below (hi_ HI0.out) hb); clear hb hbox hg; obtain ⟨Ao45, co45, eo45⟩ := Kd.R_slice HO313.out; subst eo45; have hnb46 := NB316_310.out; have hnc46 := NB310_316.out; have hnb47 := NB316_0.out; have hnc47 := NB0_316.out; have hcz48_0 := bc_ BK316; have hfz48_0 := blk_frozen BK316.out 0) | ((with_reducible refine gate_callee (f := 84) rfl ?_); refine gl_ 7 Try.func84 #[.pointer (some ⟨g, 0, none⟩), .int .i64 12] ?_; (with_reducible refine (spec_l1Below.calls g s0_0 t314 t315 12 t317 t318 t319 w0 _ ?side1 ?side2 A3.out).mono ?_); (case side1 => exact hi_ HI0.out); (case side2 => exact bl_ HB.out); rintro e w49 ⟨rfl, hi, hb, hk⟩; refine ⟨_, rfl, ?_⟩; replace BK310 := am_ (KeepBut.blk hk (g' := gb310) (o := .cells #[.slice none 0 0] 29 (0, 0)) (bf_ BK310.out) NB310_0.out (by simp)); replace HO313 := am_ (Kd.R_mono (Kd.R_keep (IsS72.apart (show IsS72 w0 _ g s0_0 t314 t315 from hi_ HI0.out) (kr_ ((Kd.R_mono (Kd.R_far (p := ⟨gb316, 0, none⟩) (Kd.R_types HO313.out BK316.out (by decide)) (fun _ hk => hk.2) (.slice Ao45 t311.length co45)) (fun _ h_ => h_.1)))) (by decide)) hk (fun _ h => h.2)) (fun _ h => h.1)); replace BK316 := am_ (KeepBut.blk hk (g' := gb316) (o := .cells #[.slice Ao45 t311.length co45] 29 (0, 0)) (by (with_reducible repeat (first | refine blk_drewN ?_ _ | refine blk_drew ?_ | refine blk_alloc ?_ _)); refine blk_put (cs := #[.slice none 0 0]) ?_ 0 _ rfl; (with_reducible repeat (first | refine blk_drewN ?_ _ | refine blk_drew ?_ | refine blk_alloc ?_ _)); exact BK316.out) NB316_0.out (by simp)); replace HK := am_ (KeepBut.trans (kp_ HK.out) hk (.inl rfl)); replace HB := am_ (hb); replace HI0 := am_ (hi); (try clear hb); (try clear hb2); (try clear hk); (try clear hi)) | ((with_reducible refine gate_dst (N := 27) rfl ?_); refine Kd.R_lit (Kd.int .i64) _ 3 ?hg (N := 27) ?hd (xs := ([0, 59, 4] : List Int)) (inner := [.int .i64 0, .int .i64 59, .int .i64 4]) (ok := fun _ => True) (okp := fun _ => True) ?hr ?hp (fun _ hk => hk) trivial (Below.refl _ _) (Nat.le_refl _) (by simp) ?_; (case hd => rfl); (case hg => rfl); (case hr => first | (go_simp; done) | (go_simp; rfl)); (case hp => exact (Reps.one (show Kd.M (Kd.int .i64) _ _ _ 0 [.int .i64 0] from rfl) (Reps.one (show Kd.M (Kd.int .i64) _ _ _ 59 [.int .i64 59] from rfl) (Reps.one (show Kd.M (Kd.int .i64) _ _ _ 4 [.int .i64 4] from rfl) (Reps.none _ _))))); intro v333 w50 ho51 hb hg_ hnew_; clear hg_ hnew_; (first | rw [← Ny332.out] at ho51 | (simp only [Int.reduceToNat] at ho51; rw [← Ny332.out] at ho51)); have HO334 := am_ (Kd.R_lower (Kd.R_new' ho51 (Kd.R_lt (kr_ HO313.out))) (keep_size (w := w) (g := g) (row := none) (kp_ HK.out))); replace HO313 := am_ (Kd.R_elder' (kr_ HO313.out) (Kd.R_base ho51) hb); replace HI0 := am_ (IsS72.below (hi_ HI0.out) hb); replace BK310 := bb_ BK310 hb; replace BK316 := bb_ BK316 hb; replace HK := am_ (KeepBut.trans (kp_ HK.out) (KeepBut.of_below hb g none) (.inl rfl)); replace HB := bs_ HB hb; clear hb ho51; obtain ⟨Ao52, co52, eo52⟩ := Kd.R_slice HO334.out; subst eo52) | ((with_reducible refine gate_callee (f := 85) rfl ?_); refine gl_ 28 Try.func85 #[.pointer (some ⟨g, 0, none⟩), .slice Ao52 y332.length co52] ?_; (with_reducible refine (spec_l1PickInt.calls g s0_0 t318 t319 _ _ y332 t335 t336 t337 w0 _ ?side1 ?side2 ?side3 ?side4 ?side5 A41.out).mono ?_); (case side1 => exact hi_ HI0.out); (case side2 => exact bl_ HB.out); (case side3 => exact rs_ HO334); (case side4 => exact (Kd.R_reads' HO334.out).2.1); (case side5 => exact far_slice (IsS72.own_ne HI0.out HO334.out (by decide))); rintro e w53 ⟨rfl, hi, hb, hk⟩; refine ⟨_, rfl, ?_⟩; replace BK310 := am_ (KeepBut.blk hk (g' := gb310) (o := .cells #[.slice none 0 0] 29 (0, 0)) (bk_ BK310.out) NB310_0.out (by simp)); replace HO313 := am_ (Kd.R_mono (Kd.R_keep (IsS72.apart (show IsS72 w0 _ g s0_0 t318 t319 from hi_ HI0.out) (kr_ HO313.out) (by decide)) hk (fun _ h => h.2)) (fun _ h => h.1)); replace BK316 := am_ (KeepBut.blk hk (g' := gb316) (o := .cells #[.slice Ao45 t311.length co45] 29 (0, 0)) (bk_ BK316.out) NB316_0.out (by simp)); replace HO334 := am_ (Kd.R_mono (Kd.R_keep (IsS72.apart (show IsS72 w0 _ g s0_0 t318 t319 from hi_ HI0.out) (kr_ HO334.out) (by decide)) hk (fun _ h => h.2)) (fun _ h => h.1)); replace HK := am_ (KeepBut.trans (kp_ HK.out) hk (.inl rfl)); replace HB := am_ (hb); replace HI0 := am_ (hi); (try clear hb); (try clear hb2); (try clear hk); (try clear hi)) | ((with_reducible refine gate_dst (N := 29) rfl ?_); refine Kd.R_lit (Kd.int .i64) _ 3 ?hg (N := 29) ?hd (xs := ([t335, 60] : List Int)) (inner := [.int .i64 t335, .int .i64 60]) (ok := fun _ => True) (okp := fun _ => True) ?hr ?hp (fun _ hk => hk) trivial (Below.refl _ _) (Nat.le_refl _) (by simp) ?_; (case hd => rfl); (case hg => rfl); (case hr => first | (go_simp; done) | (go_simp; rfl)); (case hp => exact (Reps.one (show Kd.M (Kd.int .i64) _ _ _ t335 [.int .i64 t335] from rfl) (Reps.one (show Kd.M (Kd.int .i64) _ _ _ 60 [.int .i64 60] from rfl) (Reps.none _ _)))); intro v339 w54 ho55 hb hg_ hnew_; clear hg_ hnew_; (first | rw [← Ny338.out] at ho55 | (simp only [Int.reduceToNat] at ho55; rw [← Ny338.out] at ho55)); have HO340 := am_ (Kd.R_lower (Kd.R_new' (Kd.R_new' ho55 (Kd.R_lt (kr_ HO313.out))) (Kd.R_lt (kr_ HO334.out))) (keep_size (w := w) (g := g) (row := none) (kp_ HK.out))); replace HO313 := am_ (Kd.R_elder' (kr_ HO313.out) (Kd.R_base ho55) hb); replace HO334 := am_ (Kd.R_elder' (kr_ HO334.out) (Kd.R_base ho55) hb); replace HI0 := am_ (IsS72.below (hi_ HI0.out) hb); replace BK310 := bb_ BK310 hb; replace BK316 := bb_ BK316 hb; replace HK := am_ (KeepBut.trans (kp_ HK.out) (KeepBut.of_below hb g none) (.inl rfl)); replace HB := bs_ HB hb; clear hb ho55; obtain ⟨Ao56, co56, eo56⟩ := Kd.R_slice HO340.out; subst eo56; have hcz57_0 := bc_ BK316; have hfz57_0 := blk_frozen BK316.out 0; have hnb58 := NB310_0.out; have hnc58 := NB0_310.out; have hcz59_0 := bc_ BK310; have hfz59_0 := blk_frozen BK310.out 0))
  refine bodyPost_ret (results_cell_row rfl _ _ gb310 29 #[.slice Ao56 y338.length co56] (0, 0) _ rfl (by (with_reducible repeat (first | refine blk_drewN ?_ _ | refine blk_drew ?_ | refine blk_alloc ?_ _)); refine blk_put (cs := #[.slice none 0 0]) ?_ 0 _ rfl; (with_reducible repeat (first | refine blk_drewN ?_ _ | refine blk_drew ?_ | refine blk_alloc ?_ _)); refine blk_far ?_ NB310_316.out _; (with_reducible repeat (first | refine blk_drewN ?_ _ | refine blk_drew ?_ | refine blk_alloc ?_ _)); exact BK310.out) Try.underlying29 rfl (by kernel_rfl)) rfl ?_
  exact ⟨_, er_, Kd.Q_of_R (kr_ (Kd.R_mono (Kd.R_far (p := ⟨gb310, 0, none⟩) (Kd.R_far (p := ⟨gb316, 0, none⟩) (Kd.R_types (Kd.R_types HO340.out BK316.out (by decide)) BK310.out (by decide)) (fun _ hk => hk.1.2) (.slice Ao56 y338.length co56)) (fun _ hk => hk.2) (.slice Ao56 y338.length co56)) (fun _ hk => trivial))), hi_ HI0.out, bl_ HB.out, kp_ HK.out⟩
 rw [if_pos c4] at H
 have c4b0 : (t317 == 0) = true := beq_iff_eq.mpr c4
 have c4b1 : (t317 != 0) = false := bne_eq_false_iff_eq.mpr c4
 clear c4
 obtain ⟨y320, hy320⟩ : ∃ y_ : List Int, y_ = (([0, 61, 12, (-3), 60] : List Int)) := ⟨_, rfl⟩
 replace H : ((spec_l1PickInt.f s0_0 t318 t319 y320).bind fun bt323 => (if t311.length < 17592186044416 then (some ((t311 ++ [bt323.1]), bt323.2.1, bt323.2.2)) else (none))) = some (r1, r2, r3) := hr_ hy320 H
 have Ny320 := am_ hy320
 clear hy320
 replace H := Option.bind_eq_some_iff.mp H
 obtain ⟨⟨t323, t324, t325⟩, A50, H⟩ := H
 (try dsimp only at H)
 have A5 := am_ A50
 clear A50
 obtain ⟨c6, H⟩ := in_ H
 have LMc6 := am_ c6
 clear c6
 obtain ⟨y326, hy326⟩ : ∃ y_ : List Int, y_ = (t311 ++ [t323]) := ⟨_, rfl⟩
 replace H : (some (y326, t324, t325)) = some (r1, r2, r3) := hr_ hy326 H
 have Ny326 := am_ hy326
 clear hy326
 simp only [Option.some.injEq, Prod.mk.injEq] at H
 obtain ⟨rfl, rfl, rfl⟩ := H
 go_enter Try.func47, Try.ntmps47
 try go_wp2_with (first | ((with_reducible refine gate_dst (N := 2) rfl ?_); refine be_ 2 #[.slice none 0 0] 29 fun gb310 hg w7 hbox hb => ?_; replace HB := bs_ HB hb; have BK310 := am_ (hbox); have GW310 := am_ ((by rw [hg]; exact (keep_size (w := w) (g := g) (row := none) (kp_ HK.out)) : w.heap.size ≤ gb310)); have GE310 := am_ ((Nat.le_trans HW0.out (by rw [hg]; exact (keep_size (w := w) (g := g) (row := none) (kp_ HK.out)) : w.heap.size ≤ gb310) : w0.heap.size ≤ gb310)); replace HK := am_ (KeepBut.trans (kp_ HK.out) (KeepBut.of_below hb g none) (.inl rfl)); have NB0_310 := am_ ((by rw [hg]; exact Nat.ne_of_lt (IsS72.lt (show IsS72 w0 _ g s0_0 s0_1 s0_2 from hi_ HI0.out)) : g ≠ gb310)); have NB310_0 := am_ ((by rw [hg]; exact Nat.ne_of_gt (IsS72.lt (show IsS72 w0 _ g s0_0 s0_1 s0_2 from hi_ HI0.out)) : gb310 ≠ g)); replace HI0 := am_ (IsS72.below (hi_ HI0.out) hb); clear hb hbox hg) | ((with_reducible refine gate_callee (f := 83) rfl ?_); refine gl_ 5 Try.func83 #[.pointer (some ⟨g, 0, none⟩)] ?_; (with_reducible refine (spec_l3Draw.calls k g s0_0 s0_1 s0_2 t311 t314 t315 w0 _ ?side1 ?side2 A2.out).mono ?_); (case side1 => exact hi_ HI0.out); (case side2 => exact bl_ HB.out); rintro e w8 ⟨v312, rfl, ho0, hi, hb, hk⟩; refine ⟨_, rfl, ?_⟩; replace BK310 := am_ (KeepBut.blk hk (g' := gb310) (o := .cells #[.slice none 0 0] 29 (0, 0)) (bk_ BK310.out) NB310_0.out (by simp)); have HO313 := am_ (Kd.R_lower ho0 (keep_size (w := w) (g := g) (row := none) (kp_ HK.out))); replace HK := am_ (KeepBut.trans (kp_ HK.out) hk (.inl rfl)); replace HB := am_ (hb); replace HI0 := am_ (hi); (try clear hb); (try clear hb2); (try clear hk); (try clear hi); (try clear ho0)) | ((with_reducible refine gate_dst (N := 3) rfl ?_); refine be_ 3 #[.slice none 0 0] 29 fun gb316 hg w9 hbox hb => ?_; replace HO313 := rb_ HO313 hb; replace HB := bs_ HB hb; have BK316 := am_ (hbox); have GW316 := am_ ((by rw [hg]; exact (keep_size (w := w) (g := g) (row := none) (kp_ HK.out)) : w.heap.size ≤ gb316)); have GE316 := am_ ((Nat.le_trans HW0.out (by rw [hg]; exact (keep_size (w := w) (g := g) (row := none) (kp_ HK.out)) : w.heap.size ≤ gb316) : w0.heap.size ≤ gb316)); replace HK := am_ (KeepBut.trans (kp_ HK.out) (KeepBut.of_below hb g none) (.inl rfl)); have NB310_316 := nl_ hg BK310; have NB316_310 := ng_ hg BK310; replace BK310 := bb_ BK310 hb; have NB0_316 := am_ ((by rw [hg]; exact Nat.ne_of_lt (IsS72.lt (show IsS72 w0 _ g s0_0 t314 t315 from hi_ HI0.out)) : g ≠ gb316)); have NB316_0 := am_ ((by rw [hg]; exact Nat.ne_of_gt (IsS72.lt (show IsS72 w0 _ g s0_0 t314 t315 from hi_ HI0.out)) : gb316 ≠ g)); replace HI0 := am_ (IsS72.below (hi_ HI0.out) hb); clear hb hbox hg; obtain ⟨Ao10, co10, eo10⟩ := Kd.R_slice HO313.out; subst eo10; have hnb11 := NB316_310.out; have hnc11 := NB310_316.out; have hnb12 := NB316_0.out; have hnc12 := NB0_316.out; have hcz13_0 := bc_ BK316; have hfz13_0 := blk_frozen BK316.out 0) | ((with_reducible refine gate_callee (f := 84) rfl ?_); refine gl_ 7 Try.func84 #[.pointer (some ⟨g, 0, none⟩), .int .i64 12] ?_; (with_reducible refine (spec_l1Below.calls g s0_0 t314 t315 12 t317 t318 t319 w0 _ ?side1 ?side2 A3.out).mono ?_); (case side1 => exact hi_ HI0.out); (case side2 => exact bl_ HB.out); rintro e w14 ⟨rfl, hi, hb, hk⟩; refine ⟨_, rfl, ?_⟩; replace BK310 := am_ (KeepBut.blk hk (g' := gb310) (o := .cells #[.slice none 0 0] 29 (0, 0)) (bf_ BK310.out) NB310_0.out (by simp)); replace HO313 := am_ (Kd.R_mono (Kd.R_keep (IsS72.apart (show IsS72 w0 _ g s0_0 t314 t315 from hi_ HI0.out) (kr_ ((Kd.R_mono (Kd.R_far (p := ⟨gb316, 0, none⟩) (Kd.R_types HO313.out BK316.out (by decide)) (fun _ hk => hk.2) (.slice Ao10 t311.length co10)) (fun _ h_ => h_.1)))) (by decide)) hk (fun _ h => h.2)) (fun _ h => h.1)); replace BK316 := am_ (KeepBut.blk hk (g' := gb316) (o := .cells #[.slice Ao10 t311.length co10] 29 (0, 0)) (by (with_reducible repeat (first | refine blk_drewN ?_ _ | refine blk_drew ?_ | refine blk_alloc ?_ _)); refine blk_put (cs := #[.slice none 0 0]) ?_ 0 _ rfl; (with_reducible repeat (first | refine blk_drewN ?_ _ | refine blk_drew ?_ | refine blk_alloc ?_ _)); exact BK316.out) NB316_0.out (by simp)); replace HK := am_ (KeepBut.trans (kp_ HK.out) hk (.inl rfl)); replace HB := am_ (hb); replace HI0 := am_ (hi); (try clear hb); (try clear hb2); (try clear hk); (try clear hi)))
 replace HO313 := am_ (Kd.R_drew HO313.out)
 replace BK310 := am_ (blk_drew BK310.out)
 replace BK316 := am_ (blk_drew BK316.out)
 replace HI0 := am_ (IsS72.drew HI0.out)
 replace HK := am_ (keep_drew HK.out)
 replace HB := am_ (below_drew1 HB.out)
 refine start_ (n := 9) (S := fun w' => w'.cell? ⟨gb316, 0, none⟩ = some (.slice Ao10 t311.length co10)) (ds := [8]) (fl_ 9 0) (by kernel_rfl) rfl rfl ((blk_cell BK316.out 0).trans rfl) (fun hHeld => ?_); refine with_tabW spec_l3Bent.tab4 spec_l3Bent.bits4 (fun HT_ HW_ => ?_)
 generalize w14.drew = w15 at HO313 BK310 BK316 HI0 HK HB hHeld ⊢
 refine pu_ 0 10 (fl_ 9 1) ?_
 refine pu_ 2 12 (fm_ 9 5) ?_
 refine ta_ 1 11 (fl_ 9 3) ?_
 refine on_ 3 13 (fl_ 9 4) fun K hK => ?_
 refine Kd.R_lit_step (Kd.int .i64) _ 3 ?hg (N := 13) ?hd (xs := ([0, 61, 12, (-3), 60] : List Int)) (inner := [.int .i64 0, .int .i64 61, .int .i64 12, .int .i64 (-3), .int .i64 60]) (ok := fun _ => True) (okp := fun _ => True) ?hr ?hp (fun _ hk => hk) trivial (Below.refl _ _) (Nat.le_refl _) (by simp) ?_; (case hd => rfl); (case hg => rfl); (case hr => first | (go_simp; done) | (go_simp; rfl)); (case hp => exact (Reps.one (show Kd.M (Kd.int .i64) _ _ _ 0 [.int .i64 0] from rfl) (Reps.one (show Kd.M (Kd.int .i64) _ _ _ 61 [.int .i64 61] from rfl) (Reps.one (show Kd.M (Kd.int .i64) _ _ _ 12 [.int .i64 12] from rfl) (Reps.one (show Kd.M (Kd.int .i64) _ _ _ (-3) [.int .i64 (-3)] from rfl) (Reps.one (show Kd.M (Kd.int .i64) _ _ _ 60 [.int .i64 60] from rfl) (Reps.none _ _)))))))
 intro v321 w16 ho17 hb hg_ hnew_
 clear hg_ hnew_
 (first | rw [← Ny320.out] at ho17 | (simp only [Int.reduceToNat] at ho17; rw [← Ny320.out] at ho17))
 have HO322 := am_ (Kd.R_lower (Kd.R_new' ho17 (Kd.R_lt (kr_ HO313.out))) (keep_size (w := w) (g := g) (row := none) (kp_ HK.out)))
 replace HO313 := am_ (Kd.R_elder' (kr_ HO313.out) (Kd.R_base ho17) hb)
 replace HI0 := am_ (IsS72.below (hi_ HI0.out) hb)
 replace BK310 := bb_ BK310 hb
 replace BK316 := bb_ BK316 hb
 replace HK := am_ (KeepBut.trans (kp_ HK.out) (KeepBut.of_below hb g none) (.inl rfl))
 replace HB := bs_ HB hb
 clear hb ho17
 obtain ⟨Ao18, co18, eo18⟩ := Kd.R_slice HO322.out
 (first | subst eo18 | (injection eo18 with f1_ f2_ f3_; have f4_ := f1_.symm; have f5_ := f3_.symm; clear f1_ f2_ f3_; subst f4_; subst f5_))
 refine hK.out _ _ ((blk_cell BK316.out 0).trans rfl) (fun hHeld => ?_)
 clear hK K
 refine no_ 13 ?_
 refine on_ 4 14 (fl_ 9 5) fun K hK => ?_
 refine go_ Try.func85 #[.pointer (some ⟨g, 0, none⟩), .slice Ao18 y320.length co18] ?_
 with_reducible refine (spec_l1PickInt.calls g s0_0 t318 t319 _ _ y320 t323 t324 t325 w0 _ ?side1 ?side2 ?side3 ?side4 ?side5 A5.out).mono ?_
 (case side1 => exact hi_ HI0.out)
 (case side2 => exact bl_ HB.out)
 (case side3 => exact rs_ HO322)
 (case side4 => exact (Kd.R_reads' HO322.out).2.1)
 (case side5 => exact far_slice (IsS72.own_ne HI0.out HO322.out (by decide)))
 rintro e w19 ⟨rfl, hi, hb, hk⟩
 refine ⟨_, rfl, ?_⟩
 replace BK310 := am_ (KeepBut.blk hk (g' := gb310) (o := .cells #[.slice none 0 0] 29 (0, 0)) (bk_ BK310.out) NB310_0.out (by simp))
 replace HO313 := am_ (Kd.R_mono (Kd.R_keep (IsS72.apart (show IsS72 w0 _ g s0_0 t318 t319 from hi_ HI0.out) (kr_ HO313.out) (by decide)) hk (fun _ h => h.2)) (fun _ h => h.1))
 replace BK316 := am_ (KeepBut.blk hk (g' := gb316) (o := .cells #[.slice Ao10 t311.length co10] 29 (0, 0)) (bk_ BK316.out) NB316_0.out (by simp))
 replace HO322 := am_ (Kd.R_mono (Kd.R_keep (IsS72.apart (show IsS72 w0 _ g s0_0 t318 t319 from hi_ HI0.out) (kr_ HO322.out) (by decide)) hk (fun _ h => h.2)) (fun _ h => h.1))
 replace HK := am_ (KeepBut.trans (kp_ HK.out) hk (.inl rfl))
 replace HB := am_ (hb)
 replace HI0 := am_ (hi)
 (try clear hb)
 (try clear hb2)
 (try clear hk)
 (try clear hi)
 refine hK.out _ _ ((blk_cell BK316.out 0).trans rfl) (fun hHeld => ?_)
 clear hK K
 refine no_ 14 ?_
 refine on_ 5 15 (fl_ 9 6) fun K hK => ?_
 refine value_ (w1 := ?_) (v := ?_) (by rfl) rfl ?_ ?_
 rotate_left 2
 ·go_simp
  constructor
  ·rfl
  rfl
 refine hK.out _ _ ((blk_cell (blk_alloc BK316.out _) 0).trans rfl) (fun hHeld => ?_)
 clear hK K
 refine no_ 15 ?_
 refine on_ 6 16 (fl_ 9 7) fun K hK => ?_
 refine Kd.R_append_step (Kd.int .i64) w.heap.size (by rfl) (.tmp 11) (.tmp 15) 22 3 (.int .i64 0) 8 rfl Try.underlying22 info3 rfl (by decide) (by omega) (.slice Ao10 t311.length co10) t311 t323 [.int .i64 t323] (fun k_ => some k_ ≠ (.slice Ao18 y320.length co18 : Value).ownBlock) (fun _ => False) rfl rfl ?aP (fun _ hk => hk.elim) ?aF ?aO (Below.refl _ _) ?aS ?aL ?_
 (case aP => exact rfl)
 (case aF => exact (fun k_ hk => Kd.fresh' (Kd.R_lt (kr_ HO322.out)) k_ hk))
 (case aO => exact (kr_ (Kd.R_mono HO313.out (fun _ hk => hk.2))))
 (case aS => exact (keep_size (w := w) (g := g) (row := none) (kp_ HK.out)))
 (case aL => have := LMc6.out; omega)
 intro v327 w20 ho hb hg hat
 rw [← Ny326.out] at ho
 have n0_ := am_ (IsS72.grown (hi_ HI0.out) hg (IsS72.own_ne HI0.out HO313.out (by decide)))
 have n1_ := am_ (blk_grown (g := gb310) (o := .cells #[.slice none 0 0] 29 (0, 0)) (bk_ BK310.out) hg (Kd.R_ne HO313.out BK310.out (by decide)))
 have n2_ := am_ (blk_grown (g := gb316) (o := .cells #[.slice Ao10 t311.length co10] 29 (0, 0)) (bk_ BK316.out) hg (Kd.R_ne HO313.out BK316.out (by decide)))
 have n3_ := am_ (Kd.R_after (ok := (fun _ => True)) (kr_ HO322.out) hg hat)
 have n4_ := am_ (below_weaken (bl_ HB.out) HL.out hb)
 have n5_ := am_ (KeepBut.trans (kp_ HK.out) (KeepBut.of_grown hg g) (Kd.R_base2 HO313.out))
 have n6_ := am_ (ho)
 clear HI0
 clear BK310
 clear BK316
 clear HO322
 clear HB
 clear HK
 clear HO313
 have HI0 := n0_
 have BK310 := n1_
 have BK316 := n2_
 have HO322 := n3_
 have HB := n4_
 have HK := n5_
 have HO328 := n6_
 clear n0_ n1_ n2_ n3_ n4_ n5_ n6_
 clear ho hb hg hat
 obtain ⟨Ao21, co21, eo21⟩ := Kd.R_slice HO328.out
 (first | subst eo21 | (injection eo21 with f1_ f2_ f3_; have f4_ := f1_.symm; have f5_ := f3_.symm; clear f1_ f2_ f3_; subst f4_; subst f5_))
 refine hK.out _ _ ((blk_cell BK316.out 0).trans rfl) (fun hHeld => ?_)
 clear hK K
 refine no_ 16 ?_
 refine pu_ 7 17 (fl_ 9 8) ?_
 refine last_ (i := 8) (N := none) (fl_ 9 9) rfl rfl (one_of HT_.out (by kernel_rfl)) (by decide) (fun K hK => ?_)
 have hs22 : w20.cell? ⟨gb316, 0, none⟩ = some (.slice Ao10 t311.length co10) := (blk_cell BK316.out 0).trans rfl
 have hfs22 := blk_frozen BK316.out 0
 have hns22_0 := NB310_316.out
 have hms22_0 := NB316_310.out
 refine skip_ (w1 := ?_) (by rfl) rfl ?_ ?_
 rotate_left
 ·go_simp
  rfl
 refine hK.out _ _ ?_
 clear hK K
 refine done_ (done_of HT_.out (by kernel_rfl)) ?_
 have hcz23_0 := bc_ BK316
 have hfz23_0 := blk_frozen BK316.out 0
 have hnb24 := NB310_0.out
 have hnc24 := NB0_310.out
 have hcz25_0 := bc_ BK310
 have hfz25_0 := blk_frozen BK310.out 0
 try go_wp2
 refine bodyPost_ret (results_cell_row rfl _ _ gb310 29 #[.slice Ao21 y326.length co21] (0, 0) _ rfl (by (with_reducible repeat (first | refine blk_drewN ?_ _ | refine blk_drew ?_ | refine blk_alloc ?_ _)); refine blk_put (cs := #[.slice none 0 0]) ?_ 0 _ rfl; (with_reducible repeat (first | refine blk_drewN ?_ _ | refine blk_drew ?_ | refine blk_alloc ?_ _)); refine blk_far ?_ NB310_316.out _; (with_reducible repeat (first | refine blk_drewN ?_ _ | refine blk_drew ?_ | refine blk_alloc ?_ _)); exact BK310.out) Try.underlying29 rfl (by kernel_rfl)) rfl ?_
 exact ⟨_, er_, Kd.Q_of_R (kr_ (Kd.R_mono (Kd.R_far (p := ⟨gb310, 0, none⟩) (Kd.R_far (p := ⟨gb316, 0, none⟩) (Kd.R_types (Kd.R_types HO328.out BK316.out (by decide)) BK310.out (by decide)) (fun _ hk => hk.1.2) (.slice Ao21 y326.length co21)) (fun _ hk => hk.2) (.slice Ao21 y326.length co21)) (fun _ hk => trivial))), hi_ HI0.out, bl_ HB.out, kp_ HK.out⟩
def spec_l1New.l0 : Nat → List Int → Int → Int → Option (List Int × Int × Int)
 | 0, _, _, _ => none
 | k + 1, x0, x3, x4 => if x4 < (x0.length : Int) then (if x4 < 4000 then (if 0 ≤ x4 then (spec_l1New.l0 k x0 (Go.bits .and .i64 (wrap64 ((wrap64 ((wrap64 (x3 * 131)) + (wrap64 (rd x0 x4)))) + 7)) 1073741823) (wrap64 (x4 + 1))) else (none)) else (some (x0, 0, x3))) else (some (x0, 0, x3))
def spec_l1New.f (k : Nat) (l0 : List Int) : Option (List Int × Int × Int) := spec_l1New.l0 k l0 (wrap64 (26583 + (l0.length : Int))) 0
theorem spec_l1New.calls (k : Nat) (A0 : Option Addr) (c0 : Nat) (l0 : List Int) (r1 : List Int) (r2 : Int) (r3 : Int) (w0 w : World) (hB : Below w0.heap.size w0 w) (hr0 : Kd.C (Kd.int .u8) w0 A0 l0.length l0) (hc0 : l0.length ≤ c0) (h : spec_l1New.f k l0 = some (r1, r2, r3)) :
 Calls Try.prog 48 #[.slice A0 l0.length c0] w fun e w' => ∃ g_ : Nat, e = .returned (.pointer (some ⟨g_, 0, none⟩)) ∧ IsS72 w0 w' g_ r1 r2 r3 ∧ Below w0.heap.size w0 w' ∧ Below w.heap.size w w' := by
 have hu72 := Try.underlying72
 have HR0 := am_ hr0
 have HC0 := am_ hc0
 clear hr0 hc0
 have HBW := am_ (Below.refl w.heap.size w)
 have HW0 := am_ hB.size
 have HB := am_ hB
 clear hB
 have H := h
 clear h
 unfold spec_l1New.f at H
 have H' := am_ H
 clear H
 go_enter Try.func48, Try.ntmps48
 go_wp2
 go_loopg [3, 4] k (fun kq v3 v4 w' => ∃ (x3_1 : Int) (x4_1 : Int), v3 = .int .i64 x3_1 ∧ v4 = .int .i64 x4_1 ∧ Aside0 (spec_l1New.l0 kq l0 x3_1 x4_1 = some (r1, r2, r3)) ∧ Aside0 (kq ≤ k) ∧ Aside0 (Below w0.heap.size w0 w') ∧ Aside0 (Below w.heap.size w w'))
 case atStart => exact ⟨(wrap64 (26583 + (l0.length : Int))), (0), sd_, sd_, H', ⟨Nat.le_refl _⟩, ⟨bl_ HB.out⟩, ⟨by repeat (first | (with_reducible first | exact HBW.out | apply below_alloc | apply pw_below_drewN | apply below_drew1) | exact HBW.out | exact Below.refl _ _)⟩⟩
 case round =>
  clear H'
  obtain ⟨x3_1, x4_1, rfl, rfl, HA, HK1, HB, HBW⟩ := hrel
  cases gk with
  | zero => exact absurd HA.out (by simp [spec_l1New.l0])
  | succ k1 =>
   have H := HA.out
   clear HA
   simp only [spec_l1New.l0] at H
   by_cases c2 : x4_1 < (l0.length : Int)
   rotate_left
   ·rw [if_neg c2] at H
    have c2b0 : decide (x4_1 < (l0.length : Int)) = false := decide_eq_false c2
    clear c2
    simp only [Option.some.injEq, Prod.mk.injEq] at H
    obtain ⟨rfl, rfl, rfl⟩ := H
    go_wp2_with (first | ((with_reducible refine gate_dst (N := 31) rfl ?_); refine be_ 31 #[.slice A0 l0.length c0, .int .i64 0, .int .i64 x3_1] 72 fun gb343 hg w6 hbox hb => ?_; replace HB := bs_ HB hb; have BK343 := am_ (hbox); have GW343 := am_ ((by rw [hg]; exact (below_size (by repeat (first | (with_reducible first | exact HBW.out | apply below_alloc | apply pw_below_drewN | apply below_drew1) | exact HBW.out))) : w.heap.size ≤ gb343)); have GE343 := am_ ((Nat.le_trans HW0.out (by rw [hg]; exact (below_size (by repeat (first | (with_reducible first | exact HBW.out | apply below_alloc | apply pw_below_drewN | apply below_drew1) | exact HBW.out))) : w.heap.size ≤ gb343) : w0.heap.size ≤ gb343)); replace HBW := am_ (below_step HBW.out hb); clear hb hbox hg))
    go_ret
    exact ⟨_, rfl, (show IsS72 w0 _ gb343 l0 0 x3_1 from ⟨_, _, bk_ BK343.out, GE343.out, HR0.out⟩), bl_ HB.out, by repeat (first | (with_reducible first | exact HBW.out | apply below_alloc | apply pw_below_drewN | apply below_drew1 | refine below_set ?_ GW343.out) | exact HBW.out)⟩
   rw [if_pos c2] at H
   have c2b0 := decide_eq_true c2
   clear c2
   by_cases c3 : x4_1 < 4000
   rotate_left
   ·rw [if_neg c3] at H
    have c3b0 : decide (x4_1 < 4000) = false := decide_eq_false c3
    clear c3
    simp only [Option.some.injEq, Prod.mk.injEq] at H
    obtain ⟨rfl, rfl, rfl⟩ := H
    go_wp2_with (first | ((with_reducible refine gate_dst (N := 31) rfl ?_); refine be_ 31 #[.slice A0 l0.length c0, .int .i64 0, .int .i64 x3_1] 72 fun gb342 hg w5 hbox hb => ?_; replace HB := bs_ HB hb; have BK342 := am_ (hbox); have GW342 := am_ ((by rw [hg]; exact (below_size (by repeat (first | (with_reducible first | exact HBW.out | apply below_alloc | apply pw_below_drewN | apply below_drew1) | exact HBW.out))) : w.heap.size ≤ gb342)); have GE342 := am_ ((Nat.le_trans HW0.out (by rw [hg]; exact (below_size (by repeat (first | (with_reducible first | exact HBW.out | apply below_alloc | apply pw_below_drewN | apply below_drew1) | exact HBW.out))) : w.heap.size ≤ gb342) : w0.heap.size ≤ gb342)); replace HBW := am_ (below_step HBW.out hb); clear hb hbox hg))
    go_ret
    exact ⟨_, rfl, (show IsS72 w0 _ gb342 l0 0 x3_1 from ⟨_, _, bk_ BK342.out, GE342.out, HR0.out⟩), bl_ HB.out, by repeat (first | (with_reducible first | exact HBW.out | apply below_alloc | apply pw_below_drewN | apply below_drew1 | refine below_set ?_ GW342.out) | exact HBW.out)⟩
   rw [if_pos c3] at H
   have c3b0 := decide_eq_true c3
   clear c3
   obtain ⟨c4, H⟩ := in_ H
   have c4b0 := decide_eq_true c4
   clear c4
   have H' := am_ H
   clear H
   obtain ⟨p341, q341, ad341, e341, hx341_0⟩ := ri_ (Kd.at_int HR0.out x4_1)
   cases e341
   replace hx341_0 := pw_cell_below HB.out hx341_0
   go_wp2
   go_roundg k1
   case measure => have := HK1.out; omega
   case rel => exact ⟨(Go.bits .and .i64 (wrap64 ((wrap64 ((wrap64 (x3_1 * 131)) + (wrap64 (rd l0 x4_1)))) + 7)) 1073741823), (wrap64 (x4_1 + 1)), sd_, sd_, H', ⟨by have := HK1.out; omega⟩, ⟨bl_ HB.out⟩, ⟨by repeat (first | (with_reducible first | exact HBW.out | apply below_alloc | apply pw_below_drewN | apply below_drew1) | exact HBW.out | exact Below.refl _ _)⟩⟩
def spec_DrawArfClosure.f (k : Nat) (l0 : List Int) : Option (List Int) := (spec_l1New.f k l0).bind fun bt345 => ((spec_l3Bent.f k bt345.1 bt345.2.1 bt345.2.2).bind fun bt349 => (some bt349.1))
theorem spec_DrawArfClosure.calls (k : Nat) (A0 : Option Addr) (c0 : Nat) (l0 : List Int) (r : List Int) (w : World) (hr0 : Kd.C (Kd.int .u8) w A0 l0.length l0) (hc0 : l0.length ≤ c0) (h : spec_DrawArfClosure.f k l0 = some r) :
 Calls Try.prog 17 #[.slice A0 l0.length c0] w fun e w' => ∃ v0_ : Value, e = .returned (.agg #[v0_]) ∧ Kd.Q (Kd.int .i64) 3 w' w.heap.size (fun _ => True) v0_ r ∧ Below w.heap.size w w' := by
 have hu29 := Try.underlying29
 have HR0 := am_ hr0
 have HC0 := am_ hc0
 clear hr0 hc0
 have HB := am_ (Below.refl w.heap.size w)
 have H := h
 clear h
 unfold spec_DrawArfClosure.f at H
 replace H := Option.bind_eq_some_iff.mp H
 obtain ⟨⟨t345, t346, t347⟩, A20, H⟩ := H
 (try dsimp only at H)
 have A2 := am_ A20
 clear A20
 replace H := Option.bind_eq_some_iff.mp H
 obtain ⟨⟨t349, t352, t353⟩, A30, H⟩ := H
 (try dsimp only at H)
 have A3 := am_ A30
 clear A30
 obtain rfl := Option.some.inj H
 go_enter Try.func17, Try.ntmps17
 go_wp2_with (first | ((with_reducible refine gate_dst (N := 2) rfl ?_); refine be_ 2 #[.slice none 0 0] 29 fun gb344 hg w4 hbox hb => ?_; have BK344 := am_ (hbox); have GW344 := ge_ hg HB; have GE344 := ge_ hg HB; replace HB := bs_ HB hb; clear hb hbox hg) | ((with_reducible refine gate_callee (f := 48) rfl ?_); refine gl_ 4 Try.func48 #[.slice A0 l0.length c0] ?_; (with_reducible refine (spec_l1New.calls k _ _ l0 t345 t346 t347 w _ ?side1 ?side2 ?side3 A2.out).mono ?_); (case side1 => exact bl_ HB.out); (case side2 => exact HR0.out); (case side3 => exact HC0.out); rintro e w5 ⟨g348, rfl, hi, hb, hb2⟩; refine ⟨_, rfl, ?_⟩; replace HB := am_ (hb); have HI348 := am_ (hi); have NB348_344 := am_ (IsS72.ne_blk hi (blk_below (bk_ BK344.out) hb2) (by decide)); have NB344_348 := am_ (Ne.symm (IsS72.ne_blk hi (blk_below (bk_ BK344.out) hb2) (by decide))); replace BK344 := am_ (blk_below (bk_ BK344.out) hb2); (try clear hb); (try clear hb2); (try clear hk); (try clear hi)) | ((with_reducible refine gate_callee (f := 47) rfl ?_); refine gl_ 5 Try.func47 #[.pointer (some ⟨g348, 0, none⟩)] ?_; (with_reducible refine (spec_l3Bent.calls k g348 t345 t346 t347 t349 t352 t353 w _ ?side1 ?side2 A3.out).mono ?_); (case side1 => exact hi_ HI348.out); (case side2 => exact bl_ HB.out); rintro e w6 ⟨v350, rfl, ho0, hi, hb, hk⟩; refine ⟨_, rfl, ?_⟩; replace BK344 := am_ (KeepBut.blk hk (g' := gb344) (o := .cells #[.slice none 0 0] 29 (0, 0)) (bk_ BK344.out) NB344_348.out (by simp)); have HO351 := am_ (Kd.Q_lower ho0 (below_size (bl_ HB.out))); replace HB := am_ (hb); replace HI348 := am_ (hi); (try clear hb); (try clear hb2); (try clear hk); (try clear hi); (try clear ho0); obtain ⟨Ao7, co7, eo7, _⟩ := Kd.Q_slice HO351.out; subst eo7; have hnb8 := NB344_348.out; have hnc8 := NB348_344.out; have hcz9_0 := bc_ BK344; have hfz9_0 := blk_frozen BK344.out 0))
 refine bodyPost_ret (results_cell_row rfl _ _ gb344 29 #[.slice Ao7 t349.length co7] (0, 0) _ rfl (by (with_reducible repeat (first | refine blk_drewN ?_ _ | refine blk_drew ?_ | refine blk_alloc ?_ _)); refine blk_put (cs := #[.slice none 0 0]) ?_ 0 _ rfl; (with_reducible repeat (first | refine blk_drewN ?_ _ | refine blk_drew ?_ | refine blk_alloc ?_ _)); exact BK344.out) Try.underlying29 rfl (by kernel_rfl)) rfl ?_
 exact ⟨_, er_, kq_ (Kd.Q_mono (Kd.Q_far (p := ⟨gb344, 0, none⟩) (Kd.Q_types HO351.out BK344.out (by decide)) (fun _ hk => hk.2) (.slice Ao7 t349.length co7)) (fun _ hk => trivial)), bl_ HB.out⟩
def impl_within.f (a0 : Int) (a1 : Int) (a2 : Int) : Option (Bool) := if a0 ≥ a1 then (some (decide (a0 ≤ a2))) else (some false)
theorem impl_within.calls (a0 : Int) (a1 : Int) (a2 : Int) (r : Bool) (w : World) (h : impl_within.f a0 a1 a2 = some r) :
 Calls Try.prog 67 #[.int .i64 a0, .int .i64 a1, .int .i64 a2] w fun e w' => e = .returned (.bool r) ∧ Drawn0 w w' := by
 have H := h
 clear h
 unfold impl_within.f at H
 by_cases c4 : a0 ≥ a1
 ·rw [if_pos c4] at H
  have c4b0 : decide (a1 ≤ a0) = true := decide_eq_true c4
  clear c4
  obtain rfl := Option.some.inj H
  go_enter Try.func67, Try.ntmps67
  go_wp2
  go_ret
  exact ⟨sd_, dr_⟩
 rw [if_neg c4] at H
 have c4b0 : decide (a1 ≤ a0) = false := decide_eq_false c4
 clear c4
 obtain rfl := Option.some.inj H
 go_enter Try.func67, Try.ntmps67
 go_wp2
 go_ret
 exact ⟨sd_, dr_⟩
def impl_allWithin.l0 : Nat → Int → Int → List Int → Int → Int → Option (Bool)
 | 0, _, _, _, _, _ => none
 | k + 1, x1, x2, x9, x10, x11 => if x11 < x10 then (if 0 ≤ x11 then (if x11 < (x9.length : Int) then ((impl_within.f (rd x9 x11) x1 x2).bind fun t355 => (if t355 = true then (impl_allWithin.l0 k x1 x2 x9 x10 (wrap64 (x11 + 1))) else (some false))) else (none)) else (none)) else (some true)
def impl_allWithin.f (k : Nat) (l0 : List Int) (a1 : Int) (a2 : Int) : Option (Bool) := impl_allWithin.l0 k a1 a2 l0 (l0.length : Int) 0
theorem impl_allWithin.calls (k : Nat) (A0 : Option Addr) (c0 : Nat) (l0 : List Int) (a1 : Int) (a2 : Int) (r : Bool) (w : World) (hr0 : Kd.C (Kd.int .i64) w A0 l0.length l0) (hc0 : l0.length ≤ c0) (h : impl_allWithin.f k l0 a1 a2 = some r) :
 Calls Try.prog 86 #[.slice A0 l0.length c0, .int .i64 a1, .int .i64 a2] w fun e w' => e = .returned (.bool r) ∧ Drawn0 w w' := by
 have HR0 := am_ hr0
 have HC0 := am_ hc0
 clear hr0 hc0
 have H := h
 clear h
 unfold impl_allWithin.f at H
 have H' := am_ H
 clear H
 go_enter Try.func86, Try.ntmps86
 go_wp2
 go_loopg [11] k (fun kq v11 w' => ∃ (x11_1 : Int), v11 = .int .i64 x11_1 ∧ Aside0 (impl_allWithin.l0 kq a1 a2 l0 (l0.length : Int) x11_1 = some r) ∧ Aside0 (kq ≤ k) ∧ Drawn0 w w')
 case atStart => exact ⟨(0), sd_, H', ⟨Nat.le_refl _⟩, dr_⟩
 case round =>
  clear H'
  try clear p2
  obtain ⟨x11_1, rfl, HA, HK1, ⟨m1, rfl⟩⟩ := hrel
  cases gk with
  | zero => exact absurd HA.out (by simp [impl_allWithin.l0])
  | succ k1 =>
   have H := HA.out
   clear HA
   simp only [impl_allWithin.l0] at H
   by_cases c4 : x11_1 < (l0.length : Int)
   rotate_left
   ·rw [if_neg c4] at H
    have c4b0 : decide (x11_1 < (l0.length : Int)) = false := decide_eq_false c4
    clear c4
    obtain rfl := Option.some.inj H
    go_wp2
    go_ret
    exact ⟨sd_, dr_⟩
   rw [if_pos c4] at H
   have c4b0 := decide_eq_true c4
   clear c4
   obtain ⟨c5, H⟩ := in_ H
   have c5b0 := decide_eq_true c5
   clear c5
   obtain ⟨c6, H⟩ := in_ H
   have c6b0 := decide_eq_true c6
   clear c6
   obtain ⟨t355, A7, H⟩ := ob_ H
   (try dsimp only at H)
   by_cases c8 : t355 = true
   ·subst c8
    rw [if_pos rfl] at H
    have H' := am_ H
    clear H
    obtain ⟨p354, q354, ad354, e354, hx354_0⟩ := ri_ (Kd.at_int HR0.out x11_1)
    cases e354
    go_wp2_with (first | ((with_reducible refine gate_callee (f := 67) rfl ?_); refine gl_ 18 Try.func67 #[.int .i64 (rd l0 x11_1), .int .i64 a1, .int .i64 a2] ?_; (with_reducible refine (impl_within.calls (rd l0 x11_1) a1 a2 true _ A7.out).mono ?_); rintro e w' ⟨rfl, ⟨nd, rfl⟩⟩; refine ⟨_, rfl, ?_⟩))
    go_roundg k1
    case measure => have := HK1.out; omega
    case rel => exact ⟨(wrap64 (x11_1 + 1)), sd_, H', ⟨by have := HK1.out; omega⟩, dr_⟩
   obtain rfl := Bool.eq_false_iff.mpr c8
   rw [if_neg nf_] at H
   obtain rfl := Option.some.inj H
   obtain ⟨p354, q354, ad354, e354, hx354_0⟩ := ri_ (Kd.at_int HR0.out x11_1)
   cases e354
   go_wp2_with (first | ((with_reducible refine gate_callee (f := 67) rfl ?_); refine gl_ 18 Try.func67 #[.int .i64 (rd l0 x11_1), .int .i64 a1, .int .i64 a2] ?_; (with_reducible refine (impl_within.calls (rd l0 x11_1) a1 a2 false _ A7.out).mono ?_); rintro e w' ⟨rfl, ⟨nd, rfl⟩⟩; refine ⟨_, rfl, ?_⟩))
   go_ret
   exact ⟨sd_, dr_⟩
def impl_IsAscending.l0 : Nat → List Int → Int → Option (Bool)
 | 0, _, _ => none
 | k + 1, x0, x3 => if x3 < (x0.length : Int) then (if 0 ≤ x3 then (if 0 ≤ (wrap64 (x3 - 1)) then (if (wrap64 (x3 - 1)) < (x0.length : Int) then (if (rd x0 x3) ≤ (rd x0 (wrap64 (x3 - 1))) then (some false) else (impl_IsAscending.l0 k x0 (wrap64 (x3 + 1)))) else (none)) else (none)) else (none)) else (some true)
def impl_IsAscending.f (k : Nat) (l0 : List Int) : Option (Bool) := impl_IsAscending.l0 k l0 1
theorem impl_IsAscending.calls (k : Nat) (A0 : Option Addr) (c0 : Nat) (l0 : List Int) (r : Bool) (w : World) (hr0 : Kd.C (Kd.int .i64) w A0 l0.length l0) (hc0 : l0.length ≤ c0) (h : impl_IsAscending.f k l0 = some r) :
 Calls Try.prog 87 #[.slice A0 l0.length c0] w fun e w' => e = .returned (.bool r) ∧ Drawn0 w w' := by
 have HR0 := am_ hr0
 have HC0 := am_ hc0
 clear hr0 hc0
 have H := h
 clear h
 unfold impl_IsAscending.f at H
 have H' := am_ H
 clear H
 go_enter Try.func87, Try.ntmps87
 go_wp2
 repeat (go_quiet (fail); try go_wp2)
 go_loopg [3] k (fun kq v3 w' => ∃ (x3_1 : Int), v3 = .int .i64 x3_1 ∧ Aside0 (impl_IsAscending.l0 kq l0 x3_1 = some r) ∧ Aside0 (kq ≤ k) ∧ Drawn0 w w')
 case atStart => exact ⟨(1), sd_, H', ⟨Nat.le_refl _⟩, dr_⟩
 case round =>
  clear H'
  obtain ⟨x3_1, rfl, HA, HK1, ⟨m1, rfl⟩⟩ := hrel
  cases gk with
  | zero => exact absurd HA.out (by simp [impl_IsAscending.l0])
  | succ k1 =>
   have H := HA.out
   clear HA
   simp only [impl_IsAscending.l0] at H
   by_cases c2 : x3_1 < (l0.length : Int)
   rotate_left
   ·rw [if_neg c2] at H
    have c2b0 : decide (x3_1 < (l0.length : Int)) = false := decide_eq_false c2
    clear c2
    obtain rfl := Option.some.inj H
    go_wp2
    repeat (go_quiet (fail); try go_wp2)
    go_ret
    exact ⟨sd_, dr_⟩
   rw [if_pos c2] at H
   have c2b0 := decide_eq_true c2
   clear c2
   obtain ⟨c3, H⟩ := in_ H
   have c3b0 := decide_eq_true c3
   clear c3
   obtain ⟨ji4, hji4⟩ : ∃ j_ : Int, (wrap64 (x3_1 - 1)) = j_ := ⟨_, rfl⟩
   replace H : (if 0 ≤ (ji4) then (if (ji4) < (l0.length : Int) then (if (rd l0 x3_1) ≤ (rd l0 (ji4)) then (some false) else (impl_IsAscending.l0 k1 l0 (wrap64 (x3_1 + 1)))) else (none)) else (none)) = some r := by first | (rw [hji4] at H; exact H) | (simp only [hji4] at H ⊢; exact H)
   have hji4w : (IntKind.i64.wrap (x3_1 - 1)) = ji4 := (i64_w _).trans hji4
   obtain ⟨c5, H⟩ := in_ H
   have c5b0 := decide_eq_true c5
   clear c5
   obtain ⟨c6, H⟩ := in_ H
   have c6b0 := decide_eq_true c6
   clear c6
   by_cases c7 : (rd l0 x3_1) ≤ (rd l0 (ji4))
   ·rw [if_pos c7] at H
    have c7b0 := decide_eq_true c7
    clear c7
    obtain rfl := Option.some.inj H
    obtain ⟨p356, q356, ad356, e356, hx356_0⟩ := ri_ (Kd.at_int HR0.out x3_1)
    cases e356
    obtain ⟨p357, q357, ad357, e357, hx357_0⟩ := ri_ (Kd.at_int HR0.out (ji4))
    obtain rfl : ad356 = ad357 := (by injection e357)
    go_wp2
    repeat (go_quiet (fail); try go_wp2)
    go_ret
    exact ⟨by first | rfl | (simp; done) | (simp only [← hji4] <;> (first | rfl | simp)) | (simp [*]; done), dr_⟩
   rw [if_neg c7] at H
   have c7b0 : decide ((rd l0 x3_1) ≤ (rd l0 (ji4))) = false := decide_eq_false c7
   clear c7
   have H' := am_ H
   clear H
   obtain ⟨p356, q356, ad356, e356, hx356_0⟩ := ri_ (Kd.at_int HR0.out x3_1)
   cases e356
   obtain ⟨p357, q357, ad357, e357, hx357_0⟩ := ri_ (Kd.at_int HR0.out (ji4))
   obtain rfl : ad356 = ad357 := (by injection e357)
   go_wp2
   repeat (go_quiet (fail); try go_wp2)
   go_roundg k1
   case measure => have := HK1.out; omega
   case rel => exact ⟨(wrap64 (x3_1 + 1)), sd_, H', ⟨by have := HK1.out; omega⟩, dr_⟩
def impl_GcdOf.l0 : Nat → Int → Int → Option (Int)
 | 0, _, _ => none
 | k + 1, x0, x1 => if x0 = 0 then (some x1) else (impl_GcdOf.l0 k (Int.tmod x1 x0) x0)
def impl_GcdOf.f (k : Nat) (a0 : Int) (a1 : Int) : Option (Int) := (impl_allWithin.f k (([a0, a1] : List Int)) (-1000000) 1000000).bind fun t361 => (if t361 = true then (impl_GcdOf.l0 k (mx a0 (wrap64 (-a0))) (mx a1 (wrap64 (-a1)))) else (some 0))
theorem impl_GcdOf.calls (k : Nat) (a0 : Int) (a1 : Int) (r : Int) (w : World) (h : impl_GcdOf.f k a0 a1 = some r) :
 Calls Try.prog 122 #[.int .i64 a0, .int .i64 a1] w fun e w' => e = .returned (.int .i64 r) ∧ Below w.heap.size w w' := by
 have HB := am_ (Below.refl w.heap.size w)
 have H := h
 clear h
 unfold impl_GcdOf.f at H
 obtain ⟨y358, hy358⟩ : ∃ y_ : List Int, y_ = (([a0, a1] : List Int)) := ⟨_, rfl⟩
 replace H : ((impl_allWithin.f k y358 (-1000000) 1000000).bind fun t361 => (if t361 = true then (impl_GcdOf.l0 k (mx a0 (wrap64 (-a0))) (mx a1 (wrap64 (-a1)))) else (some 0))) = some r := hr_ hy358 H
 have Ny358 := am_ hy358
 clear hy358
 obtain ⟨t361, A3, H⟩ := ob_ H
 (try dsimp only at H)
 by_cases c4 : t361 = true
 rotate_left
 ·obtain rfl := Bool.eq_false_iff.mpr c4
  rw [if_neg nf_] at H
  obtain rfl := Option.some.inj H
  go_enter Try.func122, Try.ntmps122
  go_wp2_with (first | ((with_reducible refine gate_dst (N := 7) rfl ?_); refine Kd.R_lit (Kd.int .i64) _ 3 ?hg (N := 7) ?hd (xs := ([a0, a1] : List Int)) (inner := [.int .i64 a0, .int .i64 a1]) (ok := fun _ => True) (okp := fun _ => True) ?hr ?hp (fun _ hk => hk) trivial (Below.refl _ _) (Nat.le_refl _) (by simp) ?_; (case hd => rfl); (case hg => rfl); (case hr => first | (go_simp; done) | (go_simp; rfl)); (case hp => exact (Reps.one (show Kd.M (Kd.int .i64) _ _ _ a0 [.int .i64 a0] from rfl) (Reps.one (show Kd.M (Kd.int .i64) _ _ _ a1 [.int .i64 a1] from rfl) (Reps.none _ _)))); intro v359 w11 ho12 hb hg_ hnew_; clear hg_ hnew_; (first | rw [← Ny358.out] at ho12 | (simp only [Int.reduceToNat] at ho12; rw [← Ny358.out] at ho12)); have HO360 := rl_ ho12 HB; replace HB := bs_ HB hb; clear hb ho12; obtain ⟨Ao13, co13, eo13⟩ := Kd.R_slice HO360.out; subst eo13) | ((with_reducible refine gate_callee (f := 86) rfl ?_); refine gl_ 8 Try.func86 #[.slice Ao13 y358.length co13, .int .i64 (-1000000), .int .i64 1000000] ?_; (with_reducible refine (impl_allWithin.calls k _ _ y358 (-1000000) 1000000 false _ ?side1 ?side2 A3.out).mono ?_); (case side1 => exact rs_ HO360); (case side2 => exact (Kd.R_reads' HO360.out).2.1); rintro e w' ⟨rfl, ⟨nd, rfl⟩⟩; refine ⟨_, rfl, ?_⟩))
  go_ret
  exact ⟨er_, bl_ HB.out⟩
 subst c4
 rw [if_pos rfl] at H
 obtain ⟨ji5, hji5⟩ : ∃ j_ : Int, (mx a0 (wrap64 (-a0))) = j_ := ⟨_, rfl⟩
 replace H : (impl_GcdOf.l0 k ji5 (mx a1 (wrap64 (-a1)))) = some r := by first | (rw [hji5] at H; exact H) | (simp only [hji5] at H ⊢; exact H)
 (try rw [hji5] at A3)
 have hji5_ : (if a0 < (wrap64 (-a0)) then (wrap64 (-a0)) else a0) = ji5 := hji5
 obtain ⟨ji6, hji6⟩ : ∃ j_ : Int, (mx a1 (wrap64 (-a1))) = j_ := ⟨_, rfl⟩
 replace H : (impl_GcdOf.l0 k ji5 ji6) = some r := by first | (rw [hji6] at H; exact H) | (simp only [hji6] at H ⊢; exact H)
 (try rw [hji6] at A3)
 have hji6_ : (if a1 < (wrap64 (-a1)) then (wrap64 (-a1)) else a1) = ji6 := hji6
 have H' := am_ H
 clear H
 go_enter Try.func122, Try.ntmps122
 go_wp2_with (first | ((with_reducible refine gate_dst (N := 7) rfl ?_); refine Kd.R_lit (Kd.int .i64) _ 3 ?hg (N := 7) ?hd (xs := ([a0, a1] : List Int)) (inner := [.int .i64 a0, .int .i64 a1]) (ok := fun _ => True) (okp := fun _ => True) ?hr ?hp (fun _ hk => hk) trivial (Below.refl _ _) (Nat.le_refl _) (by simp) ?_; (case hd => rfl); (case hg => rfl); (case hr => first | (go_simp; done) | (go_simp; rfl)); (case hp => exact (Reps.one (show Kd.M (Kd.int .i64) _ _ _ a0 [.int .i64 a0] from rfl) (Reps.one (show Kd.M (Kd.int .i64) _ _ _ a1 [.int .i64 a1] from rfl) (Reps.none _ _)))); intro v359 w7 ho8 hb hg_ hnew_; clear hg_ hnew_; (first | rw [← Ny358.out] at ho8 | (simp only [Int.reduceToNat] at ho8; rw [← Ny358.out] at ho8)); have HO360 := rl_ ho8 HB; replace HB := bs_ HB hb; clear hb ho8; obtain ⟨Ao9, co9, eo9⟩ := Kd.R_slice HO360.out; subst eo9) | ((with_reducible refine gate_callee (f := 86) rfl ?_); refine gl_ 8 Try.func86 #[.slice Ao9 y358.length co9, .int .i64 (-1000000), .int .i64 1000000] ?_; (with_reducible refine (impl_allWithin.calls k _ _ y358 (-1000000) 1000000 true _ ?side1 ?side2 A3.out).mono ?_); (case side1 => exact rs_ HO360); (case side2 => exact (Kd.R_reads' HO360.out).2.1); rintro e w' ⟨rfl, ⟨nd, rfl⟩⟩; refine ⟨_, rfl, ?_⟩))
 go_loopg [0, 1] k (fun kq v0 v1 w' => ∃ (x0_1 : Int) (x1_1 : Int), v0 = .int .i64 x0_1 ∧ v1 = .int .i64 x1_1 ∧ Aside0 (impl_GcdOf.l0 kq x0_1 x1_1 = some r) ∧ Aside0 (kq ≤ k) ∧ Aside0 (Below w.heap.size w w'))
 case atStart => exact ⟨(ji5), (ji6), (by first | rfl | (simp; done) | (simp only [← hji5] <;> (first | rfl | simp)) | (simp [*]; done)), (by first | rfl | (simp; done) | (simp only [← hji6] <;> (first | rfl | simp)) | (simp [*]; done)), H', ⟨Nat.le_refl _⟩, ⟨bl_ HB.out⟩⟩
 case round =>
  clear H'
  try clear c1
  try clear p2
  try clear c4
  try clear p6
  try clear c8
  obtain ⟨x0_1, x1_1, rfl, rfl, HA, HK1, HB⟩ := hrel
  cases gk with
  | zero => exact absurd HA.out (by simp [impl_GcdOf.l0])
  | succ k1 =>
   have H := HA.out
   clear HA
   simp only [impl_GcdOf.l0] at H
   by_cases c10 : x0_1 = 0
   ·rw [if_pos c10] at H
    have c10b0 : (x0_1 == 0) = true := beq_iff_eq.mpr c10
    have c10b1 : (x0_1 != 0) = false := bne_eq_false_iff_eq.mpr c10
    clear c10
    obtain rfl := Option.some.inj H
    go_wp2
    go_ret
    exact ⟨by first | rfl | (simp [errW_none, errW_some] <;> rfl) | (simp only [← hji5, ← hji6]; first | rfl | (simp [errW_none, errW_some] <;> rfl)) | (simp [*, errW_none, errW_some] <;> rfl), bl_ HB.out⟩
   rw [if_neg c10] at H
   have c10b0 : (x0_1 == 0) = false := beq_eq_false_iff_ne.mpr c10
   have c10b1 : (x0_1 != 0) = true := bne_iff_ne.mpr c10
   have H' := am_ H
   clear H
   go_wp2
   go_roundg k1
   case measure => have := HK1.out; omega
   case rel => exact ⟨(Int.tmod x1_1 x0_1), (x0_1), sd_, sd_, H', ⟨by have := HK1.out; omega⟩, ⟨bl_ HB.out⟩⟩
def impl_GcdOfList.l0 : Nat → Int → List Int → Int → Int → Option (Int)
 | 0, _, _, _, _ => none
 | k + 1, x3, x6, x7, x8 => if x8 < x7 then (if 0 ≤ x8 then (if x8 < (x6.length : Int) then ((impl_GcdOf.f k x3 (rd x6 x8)).bind fun t363 => (impl_GcdOfList.l0 k t363 x6 x7 (wrap64 (x8 + 1)))) else (none)) else (none)) else (some x3)
def impl_GcdOfList.f (k : Nat) (l0 : List Int) : Option (Int) := impl_GcdOfList.l0 k 0 l0 (l0.length : Int) 0
theorem impl_GcdOfList.calls (k : Nat) (A0 : Option Addr) (c0 : Nat) (l0 : List Int) (r : Int) (w : World) (hr0 : Kd.C (Kd.int .i64) w A0 l0.length l0) (hc0 : l0.length ≤ c0) (h : impl_GcdOfList.f k l0 = some r) :
 Calls Try.prog 88 #[.slice A0 l0.length c0] w fun e w' => e = .returned (.int .i64 r) ∧ Below w.heap.size w w' := by
 have HR0 := am_ hr0
 have HC0 := am_ hc0
 clear hr0 hc0
 have HB := am_ (Below.refl w.heap.size w)
 have H := h
 clear h
 unfold impl_GcdOfList.f at H
 have H' := am_ H
 clear H
 go_enter Try.func88, Try.ntmps88
 go_wp2
 go_loopg [3, 8] k (fun kq v3 v8 w' => ∃ (x3_1 : Int) (x8_1 : Int), v3 = .int .i64 x3_1 ∧ v8 = .int .i64 x8_1 ∧ Aside0 (impl_GcdOfList.l0 kq x3_1 l0 (l0.length : Int) x8_1 = some r) ∧ Aside0 (kq ≤ k) ∧ Aside0 (Below w.heap.size w w'))
 case atStart => exact ⟨(0), (0), sd_, sd_, H', ⟨Nat.le_refl _⟩, ⟨bl_ HB.out⟩⟩
 case round =>
  clear H'
  obtain ⟨x3_1, x8_1, rfl, rfl, HA, HK1, HB⟩ := hrel
  cases gk with
  | zero => exact absurd HA.out (by simp [impl_GcdOfList.l0])
  | succ k1 =>
   have H := HA.out
   clear HA
   simp only [impl_GcdOfList.l0] at H
   by_cases c2 : x8_1 < (l0.length : Int)
   rotate_left
   ·rw [if_neg c2] at H
    have c2b0 : decide (x8_1 < (l0.length : Int)) = false := decide_eq_false c2
    clear c2
    obtain rfl := Option.some.inj H
    go_wp2
    go_ret
    exact ⟨er_, bl_ HB.out⟩
   rw [if_pos c2] at H
   have c2b0 := decide_eq_true c2
   clear c2
   obtain ⟨c3, H⟩ := in_ H
   have c3b0 := decide_eq_true c3
   clear c3
   obtain ⟨c4, H⟩ := in_ H
   have c4b0 := decide_eq_true c4
   clear c4
   obtain ⟨t363, A5, H⟩ := ob_ H
   (try dsimp only at H)
   have H' := am_ H
   clear H
   obtain ⟨p362, q362, ad362, e362, hx362_0⟩ := ri_ (Kd.at_int HR0.out x8_1)
   cases e362
   replace hx362_0 := (HB.out.cell (World.block_lt_of_cell? w _ hx362_0)).trans hx362_0
   go_wp2_with (first | ((with_reducible refine gate_callee (f := 122) rfl ?_); refine gl_ 14 Try.func122 #[.int .i64 x3_1, .int .i64 (rd l0 x8_1)] ?_; (with_reducible refine (impl_GcdOf.calls k1 x3_1 (rd l0 x8_1) t363 _ A5.out).mono ?_); rintro e w6 ⟨rfl, hb⟩; refine ⟨_, rfl, ?_⟩; replace HB := bs_ HB hb; (try clear hb); (try clear hb2); (try clear hk); (try clear hi)))
   go_roundg k1
   case measure => have := HK1.out; omega
   case rel => exact ⟨(t363), (wrap64 (x8_1 + 1)), sd_, sd_, H', ⟨by have := HK1.out; omega⟩, ⟨bl_ HB.out⟩⟩
mutual
def impl_leasts.l0 : Nat → List Int → Int → List Int → Int → Int → Option (List Int)
 | 0, _, _, _, _, _ => none
 | k + 1, x0, x1, x5, x16, x17 => if x17 < x16 then (if 0 ≤ x17 then (if x17 < (x5.length : Int) then (impl_leasts.l0 k x0 x1 (x5.set (x17 : Int).toNat (-1)) x16 (wrap64 (x17 + 1))) else (none)) else (none)) else (if 0 < (x5.length : Int) then (impl_leasts.l1 k x0 x1 (x5.set (0 : Int).toNat 0) true) else (none))
def impl_leasts.l1 : Nat → List Int → Int → List Int → Bool → Option (List Int)
 | 0, _, _, _, _ => none
 | k + 1, x0, x1, x5, x7 => if x7 = true then (impl_leasts.l2 k x0 x1 x5 false (x5.length : Int) 0) else (some x5)
def impl_leasts.l2 : Nat → List Int → Int → List Int → Bool → Int → Int → Option (List Int)
 | 0, _, _, _, _, _, _ => none
 | k + 1, x0, x1, x5, x7, x28, x29 => if x29 < x28 then (if 0 ≤ x29 then (if x29 < (x5.length : Int) then (if (rd x5 x29) < 0 then (impl_leasts.l2 k x0 x1 x5 x7 x28 (wrap64 (x29 + 1))) else (impl_leasts.l3 k x0 x1 x5 x7 x29 (rd x5 x29) x28 x29 x0 (x0.length : Int) 0)) else (none)) else (none)) else (impl_leasts.l1 k x0 x1 x5 x7)
def impl_leasts.l3 : Nat → List Int → Int → List Int → Bool → Int → Int → Int → Int → List Int → Int → Int → Option (List Int)
 | 0, _, _, _, _, _, _, _, _, _, _, _ => none
 | k + 1, x0, x1, x5, x7, x8, x9, x28, x29, x36, x37, x38 => if x38 < x37 then (if 0 ≤ x38 then (if x38 < (x36.length : Int) then (if x1 = 0 then (none) else (if 0 ≤ (Int.tmod (wrap64 (x8 + (rd x36 x38))) x1) then (if (Int.tmod (wrap64 (x8 + (rd x36 x38))) x1) < (x5.length : Int) then (if (rd x5 (Int.tmod (wrap64 (x8 + (rd x36 x38))) x1)) < 0 then (impl_leasts.l3 k x0 x1 (x5.set ((Int.tmod (wrap64 (x8 + (rd x36 x38))) x1) : Int).toNat (wrap64 (x9 + (rd x36 x38)))) true x8 x9 x28 x29 x36 x37 (wrap64 (x38 + 1))) else (if (wrap64 (x9 + (rd x36 x38))) < (rd x5 (Int.tmod (wrap64 (x8 + (rd x36 x38))) x1)) then (impl_leasts.l3 k x0 x1 (x5.set ((Int.tmod (wrap64 (x8 + (rd x36 x38))) x1) : Int).toNat (wrap64 (x9 + (rd x36 x38)))) true x8 x9 x28 x29 x36 x37 (wrap64 (x38 + 1))) else (impl_leasts.l3 k x0 x1 x5 x7 x8 x9 x28 x29 x36 x37 (wrap64 (x38 + 1))))) else (none)) else (none))) else (none)) else (none)) else (impl_leasts.l2 k x0 x1 x5 x7 x28 (wrap64 (x29 + 1)))
end
def impl_leasts.f (k : Nat) (l0 : List Int) (a1 : Int) : Option (List Int) := if 0 ≤ a1 then (if (a1 : Int).toNat ≤ 35184372088832 then ((some (List.replicate (a1 : Int).toNat 0 : List Int)).bind fun y364 => (impl_leasts.l0 k l0 a1 y364 (y364.length : Int) 0)) else (none)) else (none)
theorem impl_leasts.calls (k : Nat) (A0 : Option Addr) (c0 : Nat) (l0 : List Int) (a1 : Int) (r : List Int) (w : World) (hr0 : Kd.C (Kd.int .i64) w A0 l0.length l0) (hc0 : l0.length ≤ c0) (h : impl_leasts.f k l0 a1 = some r) :
 Calls Try.prog 90 #[.slice A0 l0.length c0, .int .i64 a1] w fun e w' => ∃ v0_ : Value, e = .returned (v0_) ∧ Kd.R (Kd.int .i64) 3 w' w.heap.size (fun _ => True) v0_ r ∧ Below w.heap.size w w' := by
 have HR0 := am_ hr0
 have HC0 := am_ hc0
 clear hr0 hc0
 have HB := am_ (Below.refl w.heap.size w)
 have H := h
 clear h
 unfold impl_leasts.f at H
 obtain ⟨c3, H⟩ := in_ H
 have c3b0 := eq_true c3
 have c3b1 := decide_eq_true c3
 clear c3
 obtain ⟨c4, H⟩ := in_ H
 have c4b0 := eq_true c4
 have c4b1 := decide_eq_true c4
 clear c4
 obtain ⟨y364, hy364⟩ : ∃ y_ : List Int, y_ = (List.replicate (a1 : Int).toNat 0) := ⟨_, rfl⟩
 replace H : (impl_leasts.l0 k l0 a1 y364 (y364.length : Int) 0) = some r := hr_ hy364 H
 have Ny364 := am_ hy364
 clear hy364
 have H' := am_ H
 clear H
 go_enter Try.func90, Try.ntmps90
 go_wp2_with (first | ((with_reducible refine gate_dst (N := 14) rfl ?_); refine Kd.R_make (Kd.int .i64) _ 3 rfl (N := 14) rfl 22 _ _ rfl a1 rfl rfl Try.underlying22 (.int .i64 0) 8 info3 rfl (by decide) (by omega) 0 (ok := fun _ => True) (okp := fun _ => True) rfl (fun _ hk => hk) trivial (od_) (Nat.le_trans (Nat.mul_le_mul_right _ (od_ : a1.toNat ≤ 35184372088832)) (by omega)) (Below.refl _ _) (Nat.le_refl _) ?_; intro v365 w5 ho6 hb hg_ hnew_; clear hg_ hnew_; (first | rw [← Ny364.out] at ho6 | (simp only [Int.reduceToNat] at ho6; rw [← Ny364.out] at ho6)); have HO366 := rl_ ho6 HB; replace HB := bs_ HB hb; clear hb ho6; obtain ⟨Ao7, co7, eo7⟩ := Kd.R_slice HO366.out; subst eo7))
 go_loopg [17] k (fun kq v17 w' => ∃ (x5_1 : List Int) (x17_1 : Int), v17 = .int .i64 x17_1 ∧ Aside0 (impl_leasts.l0 kq l0 a1 x5_1 (y364.length : Int) x17_1 = some r) ∧ Aside0 (kq ≤ k) ∧ Aside0 (Kd.R (Kd.int .i64) 3 w' w.heap.size (fun _ => True) (.slice Ao7 y364.length co7) x5_1) ∧ Aside0 (Below w.heap.size w w'))
 case atStart => exact ⟨(y364), (0), sd_, H', ⟨Nat.le_refl _⟩, ⟨kr_ HO366.out⟩, ⟨bl_ HB.out⟩⟩
 case round =>
  clear H'
  try clear p2
  obtain ⟨x5_1, x17_1, rfl, HA, HK1, HO_5, HB⟩ := hrel
  have hl5_1 := (Kd.R_reads' HO_5.out).1
  rw [hl5_1] at HO_5
  (try simp only [hl5_1])
  cases gk with
  | zero => exact absurd HA.out (by simp [impl_leasts.l0])
  | succ k1 =>
   have H := HA.out
   clear HA
   simp only [impl_leasts.l0] at H
   by_cases c8 : x17_1 < (y364.length : Int)
   ·rw [if_pos c8] at H
    have c8b0 := decide_eq_true c8
    (try simp only [hl5_1] at c8b0)
    clear c8
    obtain ⟨c9, H⟩ := in_ H
    have c9b0 := decide_eq_true c9
    clear c9
    obtain ⟨c10, H⟩ := in_ H
    have c10b0 := decide_eq_true c10
    (try simp only [hl5_1] at c10b0)
    clear c10
    obtain ⟨y367, hy367⟩ : ∃ y_ : List Int, y_ = (x5_1.set (x17_1 : Int).toNat (-1)) := ⟨_, rfl⟩
    replace H : (impl_leasts.l0 k1 l0 a1 y367 (y364.length : Int) (wrap64 (x17_1 + 1))) = some r := hr_ hy367 H
    have Ny367 := am_ hy367
    clear hy367
    have H' := am_ H
    clear H
    have p11 : 0 ≤ (x17_1 : Int) := od_
    have q11 : (x17_1 : Int) < ((x5_1.length : Int) : Int) := od_
    obtain ⟨go11, co11, eo11, gb11, gl11, cl11, HG11⟩ := Kd.R_form HO_5.out (by omega)
    (first | cases eo11 | (injection eo11 with ea_ en_ ec_; (first | subst ea_ | (injection ea_ with ea_; subst ea_)); subst ec_; clear en_))
    have GB11 := am_ gb11
    have GG11 := am_ HG11
    clear gb11 gl11 HG11
    obtain ⟨hx11_0, hf11_0⟩ := Kd.R_celln 0 HO_5.out (x17_1 : Int) p11 q11
    replace p11 := eq_true p11
    replace q11 := eq_true q11
    have HP12 := Kd.R_putg HO_5.out (x17_1 : Int) (-1)
    go_wp2_with (first | ((with_reducible refine gate_store (t := 3) (p := 22) rfl ?_); refine store_event (t := 3) (p := 22) (v := ?vo_w13) (w1 := (wr.setCell ⟨go11, (x17_1 : Int).toNat, none⟩ (.int .i64 (-1)))) ?hg ?ho ?hn ?hr ?_; (case ho => rfl); (case hg => rfl); (case hn => rfl); (case hr => first | (go_simp; done) | (go_simp; rfl)); intro w13 hw; have hg : wr.grownBy w13 (some go11) := (by rw [hw]; exact HP12.2); have hp_ : Kd.R (Kd.int .i64) 3 w13 w.heap.size (fun _ => True) (.slice (some ⟨go11, 0, none⟩) x5_1.length co7) y367 := (by rw [hw, Ny367.out]; exact HP12.1); clear HP12; replace HO_5 := am_ (hp_); replace HB := am_ ((by rw [hw]; exact below_set (HB.out) GB11.out : Below w.heap.size w w13)); clear hg hw hp_))
    (try simp only [← hl5_1])
    go_roundg k1
    case measure => have := HK1.out; omega
    case rel => exact ⟨(y367), (wrap64 (x17_1 + 1)), sd_, H', ⟨by have := HK1.out; omega⟩, ⟨by (try simp only [hl5_1]); (with_reducible repeat (first | apply Kd.R_alloc | apply Kd.R_drewN | apply Kd.R_drew)); exact HO_5.out⟩, ⟨bl_ HB.out⟩⟩
   rw [if_neg c8] at H
   have c8b0 : decide (x17_1 < (y364.length : Int)) = false := decide_eq_false c8
   (try simp only [hl5_1] at c8b0)
   clear c8
   obtain ⟨c14, H⟩ := in_ H
   have c14b0 := decide_eq_true c14
   (try simp only [hl5_1] at c14b0)
   have c14b1 : decide (0 < x5_1.length) = true := decide_eq_true (by omega)
   (try simp only [hl5_1] at c14b1)
   (try have c14b1t := of_decide_eq_true c14b1)
   clear c14
   obtain ⟨y368, hy368⟩ : ∃ y_ : List Int, y_ = (x5_1.set (0 : Int).toNat 0) := ⟨_, rfl⟩
   replace H : (impl_leasts.l1 k1 l0 a1 y368 true) = some r := hr_ hy368 H
   have Ny368 := am_ hy368
   clear hy368
   have H' := am_ H
   clear H
   have p15 : 0 ≤ (0 : Int) := (by omega)
   have q15 : (0 : Int) < ((x5_1.length : Int) : Int) := od_
   have qi15 : (0 < x5_1.length) = True := eq_true (by omega)
   obtain ⟨go15, co15, eo15, gb15, gl15, cl15, HG15⟩ := Kd.R_form HO_5.out (by omega)
   (first | cases eo15 | (injection eo15 with ea_ en_ ec_; (first | subst ea_ | (injection ea_ with ea_; subst ea_)); subst ec_; clear en_))
   have GB15 := am_ gb15
   have GG15 := am_ HG15
   clear gb15 gl15 HG15
   obtain ⟨hx15_0, hf15_0⟩ := Kd.R_celln 0 HO_5.out (0 : Int) p15 q15
   (try rw [show ((0 : Int)).toNat = 0 from rfl] at hx15_0)
   (try simp only [Nat.reduceMul, Nat.zero_mul, Nat.zero_add, Nat.reduceAdd] at hx15_0)
   (try rw [show ((0 : Int)).toNat = 0 from rfl] at hf15_0)
   (try simp only [Nat.reduceMul, Nat.zero_mul, Nat.zero_add, Nat.reduceAdd] at hf15_0)
   replace p15 := eq_true p15
   replace q15 := eq_true q15
   have HP16 := Kd.R_putg HO_5.out (0 : Int) 0
   go_wp2_with (first | ((with_reducible refine gate_store (t := 3) (p := 25) rfl ?_); refine store_event (t := 3) (p := 25) (v := ?vo_w17) (w1 := (wr.setCell ⟨go15, (0 : Int).toNat, none⟩ (.int .i64 0))) ?hg ?ho ?hn ?hr ?_; (case ho => rfl); (case hg => rfl); (case hn => rfl); (case hr => first | (go_simp; done) | (go_simp; rfl)); intro w17 hw; have hg : wr.grownBy w17 (some go15) := (by rw [hw]; exact HP16.2); have hp_ : Kd.R (Kd.int .i64) 3 w17 w.heap.size (fun _ => True) (.slice (some ⟨go15, 0, none⟩) x5_1.length co7) y368 := (by rw [hw, Ny368.out]; exact HP16.1); clear HP16; replace HO_5 := am_ (hp_); replace HB := am_ ((by rw [hw]; exact below_set (HB.out) GB15.out : Below w.heap.size w w17)); clear hg hw hp_))
   go_loopg [7] k1 (fun kq v7 w' => ∃ (x5_2 : List Int) (x7_2 : Bool), v7 = .bool x7_2 ∧ Aside0 (impl_leasts.l1 kq l0 a1 x5_2 x7_2 = some r) ∧ Aside0 (kq ≤ k1) ∧ Aside0 (Kd.R (Kd.int .i64) 3 w' w.heap.size (fun _ => True) (.slice (some ⟨go15, 0, none⟩) x5_1.length co7) x5_2) ∧ Aside0 (Below w.heap.size w w'))
   case atStart => exact ⟨(y368), (true), sd_, H', ⟨Nat.le_refl _⟩, ⟨by (try simp only [hl5_1]); (with_reducible repeat (first | apply Kd.R_alloc | apply Kd.R_drewN | apply Kd.R_drew)); exact HO_5.out⟩, ⟨bl_ HB.out⟩⟩
   case round =>
    clear H'
    try clear c1
    try clear p1
    try clear q1
    try clear hx1
    try clear qi1
    try clear p2
    try clear p6
    try clear p11
    try clear q11
    try clear hx11
    try clear hf11
    try clear p15
    try clear q15
    try clear hx15
    try clear qi15
    try clear hf15
    try clear hx11_0
    try clear hx15_0
    obtain ⟨x5_2, x7_2, rfl, HA, HK2, HO_5, HB⟩ := hrel
    have hl5_2 := (Kd.R_reads' HO_5.out).1
    rw [hl5_2] at HO_5
    (try simp only [hl5_2])
    cases gk with
    | zero => exact absurd HA.out (by simp [impl_leasts.l1])
    | succ k2 =>
     have H := HA.out
     clear HA
     simp only [impl_leasts.l1] at H
     by_cases c18 : x7_2 = true
     rotate_left
     ·obtain rfl := Bool.eq_false_iff.mpr c18
      rw [if_neg nf_] at H
      obtain rfl := Option.some.inj H
      go_wp2
      go_ret
      exact ⟨_, er_, kr_ HO_5.out, bl_ HB.out⟩
     subst c18
     rw [if_pos rfl] at H
     have H' := am_ H
     clear H
     go_wp2
     go_loopg [7, 29] k2 (fun kq v7 v29 w' => ∃ (x5_3 : List Int) (x7_3 : Bool) (x29_3 : Int), v7 = .bool x7_3 ∧ v29 = .int .i64 x29_3 ∧ Aside0 (impl_leasts.l2 kq l0 a1 x5_3 x7_3 (x5_2.length : Int) x29_3 = some r) ∧ Aside0 (kq ≤ k2) ∧ Aside0 (Kd.R (Kd.int .i64) 3 w' w.heap.size (fun _ => True) (.slice (some ⟨go15, 0, none⟩) x5_2.length co7) x5_3) ∧ Aside0 (Below w.heap.size w w'))
     case atStart => exact ⟨(x5_2), (false), (0), sd_, sd_, H', ⟨Nat.le_refl _⟩, ⟨by (try simp only [hl5_1]); (try simp only [hl5_2]); (with_reducible repeat (first | apply Kd.R_alloc | apply Kd.R_drewN | apply Kd.R_drew)); exact HO_5.out⟩, ⟨bl_ HB.out⟩⟩
     case round =>
      clear H'
      try clear c1
      try clear p1
      try clear q1
      try clear hx1
      try clear qi1
      try clear p2
      try clear p6
      try clear p11
      try clear q11
      try clear hx11
      try clear hf11
      try clear p15
      try clear q15
      try clear hx15
      try clear qi15
      try clear hf15
      try clear c18
      try clear hx11_0
      try clear hx15_0
      obtain ⟨x5_3, x7_3, x29_3, rfl, rfl, HA, HK3, HO_5, HB⟩ := hrel
      have hl5_3 := (Kd.R_reads' HO_5.out).1
      rw [hl5_3] at HO_5
      (try simp only [hl5_3])
      cases gk with
      | zero => exact absurd HA.out (by simp [impl_leasts.l2])
      | succ k3 =>
       have H := HA.out
       clear HA
       simp only [impl_leasts.l2] at H
       by_cases c19 : x29_3 < (x5_2.length : Int)
       rotate_left
       ·rw [if_neg c19] at H
        have c19b0 : decide (x29_3 < (x5_2.length : Int)) = false := decide_eq_false c19
        (try simp only [hl5_1, hl5_2, hl5_3] at c19b0)
        clear c19
        have H' := am_ H
        clear H
        go_wp2
        (try simp only [← hl5_2, ← hl5_3])
        go_roundg k3
        case measure => have := HK1.out; have := HK2.out; have := HK3.out; omega
        case rel => exact ⟨(x5_3), (x7_3), sd_, H', ⟨by have := HK1.out; have := HK2.out; have := HK3.out; omega⟩, ⟨by (try simp only [hl5_1]); (try simp only [hl5_2]); (try simp only [hl5_3]); (with_reducible repeat (first | apply Kd.R_alloc | apply Kd.R_drewN | apply Kd.R_drew)); exact HO_5.out⟩, ⟨bl_ HB.out⟩⟩
       rw [if_pos c19] at H
       have c19b0 := decide_eq_true c19
       (try simp only [hl5_1, hl5_2, hl5_3] at c19b0)
       clear c19
       obtain ⟨c20, H⟩ := in_ H
       have c20b0 := decide_eq_true c20
       clear c20
       obtain ⟨c21, H⟩ := in_ H
       have c21b0 := decide_eq_true c21
       (try simp only [hl5_1, hl5_2, hl5_3] at c21b0)
       clear c21
       by_cases c22 : (rd x5_3 x29_3) < 0
       ·rw [if_pos c22] at H
        have c22b0 := decide_eq_true c22
        clear c22
        have H' := am_ H
        clear H
        obtain ⟨p369, q369, ad369, e369, hx369_0⟩ := ri_ (Kd.at_int (Kd.R_reads' HO_5.out).2.2 x29_3)
        obtain rfl : (⟨go15, 0, none⟩ : Addr) = ad369 := (by injection e369)
        (first | simp only [add_plain] at hx369_0 | simp only [add_at] at hx369_0 | simp only [Addr.add, Nat.zero_add] at hx369_0 | skip)
        go_wp2
        (try simp only [← hl5_3])
        go_roundg k3
        case measure => have := HK1.out; have := HK2.out; have := HK3.out; omega
        case rel => exact ⟨(x5_3), (x7_3), (wrap64 (x29_3 + 1)), sd_, sd_, H', ⟨by have := HK1.out; have := HK2.out; have := HK3.out; omega⟩, ⟨by (try simp only [hl5_1]); (try simp only [hl5_2]); (try simp only [hl5_3]); (with_reducible repeat (first | apply Kd.R_alloc | apply Kd.R_drewN | apply Kd.R_drew)); exact HO_5.out⟩, ⟨bl_ HB.out⟩⟩
       rw [if_neg c22] at H
       have c22b0 : decide ((rd x5_3 x29_3) < 0) = false := decide_eq_false c22
       clear c22
       have H' := am_ H
       clear H
       obtain ⟨p369, q369, ad369, e369, hx369_0⟩ := ri_ (Kd.at_int (Kd.R_reads' HO_5.out).2.2 x29_3)
       obtain rfl : (⟨go15, 0, none⟩ : Addr) = ad369 := (by injection e369)
       (first | simp only [add_plain] at hx369_0 | simp only [add_at] at hx369_0 | simp only [Addr.add, Nat.zero_add] at hx369_0 | skip)
       go_wp2
       go_loopg [7, 38] k3 (fun kq v7 v38 w' => ∃ (x5_4 : List Int) (x7_4 : Bool) (x38_4 : Int), v7 = .bool x7_4 ∧ v38 = .int .i64 x38_4 ∧ Aside0 (impl_leasts.l3 kq l0 a1 x5_4 x7_4 x29_3 (rd x5_3 x29_3) (x5_2.length : Int) x29_3 l0 (l0.length : Int) x38_4 = some r) ∧ Aside0 (kq ≤ k3) ∧ Aside0 (Kd.R (Kd.int .i64) 3 w' w.heap.size (fun _ => True) (.slice (some ⟨go15, 0, none⟩) x5_3.length co7) x5_4) ∧ Aside0 (Below w.heap.size w w'))
       case atStart => exact ⟨(x5_3), (x7_3), (0), sd_, sd_, H', ⟨Nat.le_refl _⟩, ⟨by (try simp only [hl5_1]); (try simp only [hl5_2]); (try simp only [hl5_3]); (with_reducible repeat (first | apply Kd.R_alloc | apply Kd.R_drewN | apply Kd.R_drew)); exact HO_5.out⟩, ⟨bl_ HB.out⟩⟩
       case round =>
        clear H'
        try clear c1
        try clear p1
        try clear q1
        try clear hx1
        try clear qi1
        try clear c2
        try clear p2
        try clear p3
        try clear q3
        try clear hx3
        try clear p6
        try clear p11
        try clear q11
        try clear hx11
        try clear hf11
        try clear p15
        try clear q15
        try clear hx15
        try clear qi15
        try clear hf15
        try clear c18
        try clear hx11_0
        try clear hx15_0
        try clear hx369_0
        try clear p369
        try clear q369
        obtain ⟨x5_4, x7_4, x38_4, rfl, rfl, HA, HK4, HO_5, HB⟩ := hrel
        have hl5_4 := (Kd.R_reads' HO_5.out).1
        rw [hl5_4] at HO_5
        (try simp only [hl5_4])
        cases gk with
        | zero => exact absurd HA.out (by simp [impl_leasts.l3])
        | succ k4 =>
         have H := HA.out
         clear HA
         simp only [impl_leasts.l3] at H
         by_cases c23 : x38_4 < (l0.length : Int)
         rotate_left
         ·rw [if_neg c23] at H
          have c23b0 : decide (x38_4 < (l0.length : Int)) = false := decide_eq_false c23
          (try simp only [hl5_1, hl5_2, hl5_3, hl5_4] at c23b0)
          clear c23
          have H' := am_ H
          clear H
          go_wp2
          (try simp only [← hl5_3, ← hl5_4])
          go_roundg k4
          case measure => have := HK1.out; have := HK2.out; have := HK3.out; have := HK4.out; omega
          case rel => exact ⟨(x5_4), (x7_4), (wrap64 (x29_3 + 1)), sd_, sd_, H', ⟨by have := HK1.out; have := HK2.out; have := HK3.out; have := HK4.out; omega⟩, ⟨by (try simp only [hl5_1]); (try simp only [hl5_2]); (try simp only [hl5_3]); (try simp only [hl5_4]); (with_reducible repeat (first | apply Kd.R_alloc | apply Kd.R_drewN | apply Kd.R_drew)); exact HO_5.out⟩, ⟨bl_ HB.out⟩⟩
         rw [if_pos c23] at H
         have c23b0 := decide_eq_true c23
         (try simp only [hl5_1, hl5_2, hl5_3, hl5_4] at c23b0)
         clear c23
         obtain ⟨c24, H⟩ := in_ H
         have c24b0 := decide_eq_true c24
         clear c24
         obtain ⟨c25, H⟩ := in_ H
         have c25b0 := decide_eq_true c25
         (try simp only [hl5_1, hl5_2, hl5_3, hl5_4] at c25b0)
         clear c25
         obtain ⟨c26, H⟩ := ip_ H
         have c26b0 : (a1 == 0) = false := beq_eq_false_iff_ne.mpr c26
         have c26b1 : (a1 != 0) = true := bne_iff_ne.mpr c26
         obtain ⟨ji27, hji27⟩ : ∃ j_ : Int, (Int.tmod (wrap64 (x29_3 + (rd l0 x38_4))) a1) = j_ := ⟨_, rfl⟩
         replace H : (if 0 ≤ (ji27) then (if (ji27) < (x5_4.length : Int) then (if (rd x5_4 (ji27)) < 0 then (impl_leasts.l3 k4 l0 a1 (x5_4.set ((ji27) : Int).toNat (wrap64 ((rd x5_3 x29_3) + (rd l0 x38_4)))) true x29_3 (rd x5_3 x29_3) (x5_2.length : Int) x29_3 l0 (l0.length : Int) (wrap64 (x38_4 + 1))) else (if (wrap64 ((rd x5_3 x29_3) + (rd l0 x38_4))) < (rd x5_4 (ji27)) then (impl_leasts.l3 k4 l0 a1 (x5_4.set ((ji27) : Int).toNat (wrap64 ((rd x5_3 x29_3) + (rd l0 x38_4)))) true x29_3 (rd x5_3 x29_3) (x5_2.length : Int) x29_3 l0 (l0.length : Int) (wrap64 (x38_4 + 1))) else (impl_leasts.l3 k4 l0 a1 x5_4 x7_4 x29_3 (rd x5_3 x29_3) (x5_2.length : Int) x29_3 l0 (l0.length : Int) (wrap64 (x38_4 + 1))))) else (none)) else (none)) = some r := by first | (rw [hji27] at H; exact H) | (simp only [hji27] at H ⊢; exact H)
         obtain ⟨c28, H⟩ := in_ H
         have c28b0 := decide_eq_true c28
         clear c28
         obtain ⟨c29, H⟩ := in_ H
         have c29b0 := decide_eq_true c29
         (try simp only [hl5_1, hl5_2, hl5_3, hl5_4] at c29b0)
         clear c29
         by_cases c30 : (rd x5_4 (ji27)) < 0
         ·rw [if_pos c30] at H
          have c30b0 := decide_eq_true c30
          clear c30
          obtain ⟨y372, hy372⟩ : ∃ y_ : List Int, y_ = (x5_4.set ((ji27) : Int).toNat (wrap64 ((rd x5_3 x29_3) + (rd l0 x38_4)))) := ⟨_, rfl⟩
          replace H : (impl_leasts.l3 k4 l0 a1 y372 true x29_3 (rd x5_3 x29_3) (x5_2.length : Int) x29_3 l0 (l0.length : Int) (wrap64 (x38_4 + 1))) = some r := hr_ hy372 H
          have Ny372 := am_ hy372
          clear hy372
          have H' := am_ H
          clear H
          obtain ⟨p370, q370, ad370, e370, hx370_0⟩ := ri_ (Kd.at_int HR0.out x38_4)
          cases e370
          replace hx370_0 := (HB.out.cell (World.block_lt_of_cell? w _ hx370_0)).trans hx370_0
          obtain ⟨p371, q371, ad371, e371, hx371_0⟩ := ri_ (Kd.at_int (Kd.R_reads' HO_5.out).2.2 (ji27))
          obtain rfl : (⟨go15, 0, none⟩ : Addr) = ad371 := (by injection e371)
          (first | simp only [add_plain] at hx371_0 | simp only [add_at] at hx371_0 | simp only [Addr.add, Nat.zero_add] at hx371_0 | skip)
          have p31 : 0 ≤ ((ji27) : Int) := od_
          have q31 : ((ji27) : Int) < ((x5_4.length : Int) : Int) := od_
          obtain ⟨hx31_0, hf31_0⟩ := Kd.R_celln 0 HO_5.out ((ji27) : Int) p31 q31
          replace p31 := eq_true p31
          replace q31 := eq_true q31
          have HP32 := Kd.R_putg HO_5.out ((ji27) : Int) (wrap64 ((rd x5_3 x29_3) + (rd l0 x38_4)))
          go_wp2_with (first | ((with_reducible refine gate_store (t := 3) (p := 67) rfl ?_); refine store_event (t := 3) (p := 67) (v := ?vo_w33) (w1 := (wr.setCell ⟨go15, ((ji27) : Int).toNat, none⟩ (.int .i64 (wrap64 ((rd x5_3 x29_3) + (rd l0 x38_4)))))) ?hg ?ho ?hn ?hr ?_; (case ho => rfl); (case hg => rfl); (case hn => rfl); (case hr => first | (go_simp; done) | (go_simp; rfl)); intro w33 hw; have hg : wr.grownBy w33 (some go15) := (by rw [hw]; exact HP32.2); have hp_ : Kd.R (Kd.int .i64) 3 w33 w.heap.size (fun _ => True) (.slice (some ⟨go15, 0, none⟩) x5_4.length co7) y372 := (by rw [hw, Ny372.out]; exact HP32.1); clear HP32; replace HO_5 := am_ (hp_); replace HB := am_ ((by rw [hw]; exact below_set (HB.out) GB15.out : Below w.heap.size w w33)); clear hg hw hp_))
          (try simp only [← hl5_4])
          go_roundg k4
          case measure => have := HK1.out; have := HK2.out; have := HK3.out; have := HK4.out; omega
          case rel => exact ⟨(y372), (true), (wrap64 (x38_4 + 1)), sd_, sd_, H', ⟨by have := HK1.out; have := HK2.out; have := HK3.out; have := HK4.out; omega⟩, ⟨by (try simp only [hl5_1]); (try simp only [hl5_2]); (try simp only [hl5_3]); (try simp only [hl5_4]); (with_reducible repeat (first | apply Kd.R_alloc | apply Kd.R_drewN | apply Kd.R_drew)); exact HO_5.out⟩, ⟨bl_ HB.out⟩⟩
         rw [if_neg c30] at H
         have c30b0 : decide ((rd x5_4 (ji27)) < 0) = false := decide_eq_false c30
         clear c30
         by_cases c34 : (wrap64 ((rd x5_3 x29_3) + (rd l0 x38_4))) < (rd x5_4 (ji27))
         ·rw [if_pos c34] at H
          have c34b0 := decide_eq_true c34
          clear c34
          obtain ⟨y374, hy374⟩ : ∃ y_ : List Int, y_ = (x5_4.set ((ji27) : Int).toNat (wrap64 ((rd x5_3 x29_3) + (rd l0 x38_4)))) := ⟨_, rfl⟩
          replace H : (impl_leasts.l3 k4 l0 a1 y374 true x29_3 (rd x5_3 x29_3) (x5_2.length : Int) x29_3 l0 (l0.length : Int) (wrap64 (x38_4 + 1))) = some r := hr_ hy374 H
          have Ny374 := am_ hy374
          clear hy374
          have H' := am_ H
          clear H
          obtain ⟨p370, q370, ad370, e370, hx370_0⟩ := ri_ (Kd.at_int HR0.out x38_4)
          cases e370
          replace hx370_0 := (HB.out.cell (World.block_lt_of_cell? w _ hx370_0)).trans hx370_0
          obtain ⟨p371, q371, ad371, e371, hx371_0⟩ := ri_ (Kd.at_int (Kd.R_reads' HO_5.out).2.2 (ji27))
          obtain rfl : (⟨go15, 0, none⟩ : Addr) = ad371 := (by injection e371)
          (first | simp only [add_plain] at hx371_0 | simp only [add_at] at hx371_0 | simp only [Addr.add, Nat.zero_add] at hx371_0 | skip)
          obtain ⟨p373, q373, ad373, e373, hx373_0⟩ := ri_ (Kd.at_int (Kd.R_reads' HO_5.out).2.2 (ji27))
          obtain rfl : (⟨go15, 0, none⟩ : Addr) = ad373 := (by injection e373)
          (first | simp only [add_plain] at hx373_0 | simp only [add_at] at hx373_0 | simp only [Addr.add, Nat.zero_add] at hx373_0 | skip)
          have p35 : 0 ≤ ((ji27) : Int) := od_
          have q35 : ((ji27) : Int) < ((x5_4.length : Int) : Int) := od_
          obtain ⟨hx35_0, hf35_0⟩ := Kd.R_celln 0 HO_5.out ((ji27) : Int) p35 q35
          replace p35 := eq_true p35
          replace q35 := eq_true q35
          have HP36 := Kd.R_putg HO_5.out ((ji27) : Int) (wrap64 ((rd x5_3 x29_3) + (rd l0 x38_4)))
          go_wp2_with (first | ((with_reducible refine gate_store (t := 3) (p := 67) rfl ?_); refine store_event (t := 3) (p := 67) (v := ?vo_w37) (w1 := (wr.setCell ⟨go15, ((ji27) : Int).toNat, none⟩ (.int .i64 (wrap64 ((rd x5_3 x29_3) + (rd l0 x38_4)))))) ?hg ?ho ?hn ?hr ?_; (case ho => rfl); (case hg => rfl); (case hn => rfl); (case hr => first | (go_simp; done) | (go_simp; rfl)); intro w37 hw; have hg : wr.grownBy w37 (some go15) := (by rw [hw]; exact HP36.2); have hp_ : Kd.R (Kd.int .i64) 3 w37 w.heap.size (fun _ => True) (.slice (some ⟨go15, 0, none⟩) x5_4.length co7) y374 := (by rw [hw, Ny374.out]; exact HP36.1); clear HP36; replace HO_5 := am_ (hp_); replace HB := am_ ((by rw [hw]; exact below_set (HB.out) GB15.out : Below w.heap.size w w37)); clear hg hw hp_))
          (try simp only [← hl5_4])
          go_roundg k4
          case measure => have := HK1.out; have := HK2.out; have := HK3.out; have := HK4.out; omega
          case rel => exact ⟨(y374), (true), (wrap64 (x38_4 + 1)), sd_, sd_, H', ⟨by have := HK1.out; have := HK2.out; have := HK3.out; have := HK4.out; omega⟩, ⟨by (try simp only [hl5_1]); (try simp only [hl5_2]); (try simp only [hl5_3]); (try simp only [hl5_4]); (with_reducible repeat (first | apply Kd.R_alloc | apply Kd.R_drewN | apply Kd.R_drew)); exact HO_5.out⟩, ⟨bl_ HB.out⟩⟩
         rw [if_neg c34] at H
         have c34b0 : decide ((wrap64 ((rd x5_3 x29_3) + (rd l0 x38_4))) < (rd x5_4 (ji27))) = false := decide_eq_false c34
         clear c34
         have H' := am_ H
         clear H
         obtain ⟨p370, q370, ad370, e370, hx370_0⟩ := ri_ (Kd.at_int HR0.out x38_4)
         cases e370
         replace hx370_0 := (HB.out.cell (World.block_lt_of_cell? w _ hx370_0)).trans hx370_0
         obtain ⟨p371, q371, ad371, e371, hx371_0⟩ := ri_ (Kd.at_int (Kd.R_reads' HO_5.out).2.2 (ji27))
         obtain rfl : (⟨go15, 0, none⟩ : Addr) = ad371 := (by injection e371)
         (first | simp only [add_plain] at hx371_0 | simp only [add_at] at hx371_0 | simp only [Addr.add, Nat.zero_add] at hx371_0 | skip)
         obtain ⟨p373, q373, ad373, e373, hx373_0⟩ := ri_ (Kd.at_int (Kd.R_reads' HO_5.out).2.2 (ji27))
         obtain rfl : (⟨go15, 0, none⟩ : Addr) = ad373 := (by injection e373)
         (first | simp only [add_plain] at hx373_0 | simp only [add_at] at hx373_0 | simp only [Addr.add, Nat.zero_add] at hx373_0 | skip)
         go_wp2
         (try simp only [← hl5_4])
         go_roundg k4
         case measure => have := HK1.out; have := HK2.out; have := HK3.out; have := HK4.out; omega
         case rel => exact ⟨(x5_4), (x7_4), (wrap64 (x38_4 + 1)), sd_, sd_, H', ⟨by have := HK1.out; have := HK2.out; have := HK3.out; have := HK4.out; omega⟩, ⟨by (try simp only [hl5_1]); (try simp only [hl5_2]); (try simp only [hl5_3]); (try simp only [hl5_4]); (with_reducible repeat (first | apply Kd.R_alloc | apply Kd.R_drewN | apply Kd.R_drew)); exact HO_5.out⟩, ⟨bl_ HB.out⟩⟩
def impl_usable.f (k : Nat) (l0 : List Int) : Option (Bool) := (impl_within.f (l0.length : Int) 1 20).bind fun t375 => (if t375 = true then ((impl_allWithin.f k l0 1 60).bind fun t376 => (some t376)) else (some false))
theorem impl_usable.calls (k : Nat) (A0 : Option Addr) (c0 : Nat) (l0 : List Int) (r : Bool) (w : World) (hr0 : Kd.C (Kd.int .i64) w A0 l0.length l0) (hc0 : l0.length ≤ c0) (h : impl_usable.f k l0 = some r) :
 Calls Try.prog 107 #[.slice A0 l0.length c0] w fun e w' => e = .returned (.bool r) ∧ Drawn0 w w' := by
 have HR0 := am_ hr0
 have HC0 := am_ hc0
 clear hr0 hc0
 have H := h
 clear h
 unfold impl_usable.f at H
 obtain ⟨t375, A2, H⟩ := ob_ H
 (try dsimp only at H)
 by_cases c3 : t375 = true
 ·subst c3
  rw [if_pos rfl] at H
  obtain ⟨t376, A4, H⟩ := ob_ H
  (try dsimp only at H)
  obtain rfl := Option.some.inj H
  go_enter Try.func107, Try.ntmps107
  go_wp2_with (first | ((with_reducible refine gate_callee (f := 67) rfl ?_); refine gl_ 5 Try.func67 #[.int .i64 (l0.length : Int), .int .i64 1, .int .i64 20] ?_; (with_reducible refine (impl_within.calls (l0.length : Int) 1 20 true _ A2.out).mono ?_); rintro e w' ⟨rfl, ⟨nd, rfl⟩⟩; refine ⟨_, rfl, ?_⟩) | (go_at_call 86; (with_reducible refine (impl_allWithin.calls k _ _ l0 1 60 t376 _ ?side1 ?side2 A4.out).mono ?_); (case side1 => repeat (first | exact HR0.out | (with_reducible refine Kd.C_alloc ?_ _) | (with_reducible refine Kd.C_drewN ?_ _) | (with_reducible refine Kd.C_drew ?_))); (case side2 => exact HC0.out); rintro e w' ⟨rfl, ⟨nd, rfl⟩⟩))
  go_ret
  exact ⟨sd_, dr_⟩
 obtain rfl := Bool.eq_false_iff.mpr c3
 rw [if_neg nf_] at H
 obtain rfl := Option.some.inj H
 go_enter Try.func107, Try.ntmps107
 go_wp2_with (first | ((with_reducible refine gate_callee (f := 67) rfl ?_); refine gl_ 5 Try.func67 #[.int .i64 (l0.length : Int), .int .i64 1, .int .i64 20] ?_; (with_reducible refine (impl_within.calls (l0.length : Int) 1 20 false _ A2.out).mono ?_); rintro e w' ⟨rfl, ⟨nd, rfl⟩⟩; refine ⟨_, rfl, ?_⟩))
 go_ret
 exact ⟨sd_, dr_⟩
end Go.Proofs.Ytddgegejeoihaaa.PFnArf
end
