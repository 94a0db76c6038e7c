/- Part 9 of the claim for FnGlued, of the chain from the printed contracts and the plain laws to the row. It has no condition of its own. -/
import Derived.Test.YtbjbolblahlhcaaG1ZFnGlued
import Derived.Test.YtbjbolblahlhcaaG7ZFnGlued
import Derived.Test.YtbjbolblahlhcaaG8ZFnGlued
section
namespace Go.Proofs.Ytbjbolblahlhcaa.PFnGlued
open Go.RowKit Go.Proofs.YtbjbolblahlhcaaW.PrintWords Go.Proofs.YtbjbolblahlhcaaW.PrintLast Go.Proofs.YtbjbolblahlhcaaW.PrintMore
open Go.Proofs.Ytbjbolblahlhcaa.SortW (bk_ kr_ t_ f_)
open Go.Proofs.Ytbjbolblahlhcaa.SqW
attribute [local go_sem] max2_int min2_int max_two min_two max_three min_three max_four min_four
set_option maxHeartbeats 8000000
set_option maxRecDepth 100000
set_option linter.unusedVariables false
set_option linter.unusedSimpArgs false
def spec_l3Bent.f (k : Nat) (s0_0 : List Int) (s0_1 : Int) (s0_2 : Int) : Option (List Int × Int × Int) := (spec_l3Draw.f k s0_0 s0_1 s0_2).bind fun bt529 => ((spec_l1Below.f s0_0 bt529.2.1 bt529.2.2 12).bind fun bt535 => (if bt535.1 = 0 then ((spec_l1PickInt.f s0_0 bt535.2.1 bt535.2.2 (([0, 61, 12, (-3), 60] : List Int))).bind fun bt541 => (if bt529.1.length < 17592186044416 then (some ((bt529.1 ++ [bt541.1]), bt541.2.1, bt541.2.2)) else (none))) else (if bt535.1 = 1 then (if 1 ≤ (bt529.1.length : Int) then (some ((bt529.1.drop (1 : Int).toNat), bt535.2.1, bt535.2.2)) else (none)) else (if bt535.1 = 2 then ((spec_l1PickInt.f s0_0 bt535.2.1 bt535.2.2 (([0, 59, 4] : List Int))).bind fun bt553 => (some ((([bt553.1, 60] : List Int)), bt553.2.1, bt553.2.2))) else (some (bt529.1, bt535.2.1, bt535.2.2))))))
def spec_l3Bent.T4 : Bool × List (List Nat × List Nat) := (true, [([], []), ([0], [0]), ([], []), ([], []), ([2, 3], [2, 3]), ([4], [4]), ([1, 5, 4], [1, 5]), ([0, 1, 2, 3, 4, 5, 6], []), ([7, 6, 6, 0, 1, 2, 3, 4, 5, 6], [6, 7])])
def spec_l3Bent.B4 : List Nat := [0, 1, 0, 0, 12, 28, 63, 127, 255]
theorem spec_l3Bent.tab4 : rtab .any (opsOf Try.f91 4) = spec_l3Bent.T4 := by kernel_rfl
theorem spec_l3Bent.bits4 : waitsOk spec_l3Bent.T4.2 spec_l3Bent.B4 = true := by kernel_rfl
theorem spec_l3Bent.calls (k : Nat) (g : Nat) (s0_0 : List Int) (s0_1 : Int) (s0_2 : Int) (r1 : List Int) (r2 : Int) (r3 : Int) (w0 w : World) (hI : IsS95 w0 w g s0_0 s0_1 s0_2) (hB : Below w0.heap.size w0 w) (h : spec_l3Bent.f k s0_0 s0_1 s0_2 = some (r1, r2, r3)) :
 Calls Try.prog 91 #[.pointer (some ⟨g, 0, none⟩)] w fun e w' => ∃ v0_ : Value, e = .returned (.agg #[v0_]) ∧ Kd.Q (Kd.int .i64) 3 w' w.heap.size (fun _ => True) v0_ r1 ∧ IsS95 w0 w' g s0_0 r2 r3 ∧ Below w0.heap.size w0 w' ∧ KeepBut w w' g none := by
 have hu41 := Try.underlying41
 have HI0 := Aside0.mk hI
 have HK := Aside0.mk (KeepBut.refl w g none)
 have HL := Aside0.mk hB.size
 clear hI
 have HW0 := Aside0.mk hB.size
 have HB := Aside0.mk hB
 clear hB
 have H := h
 clear h
 unfold spec_l3Bent.f at H
 replace H := Option.bind_eq_some_iff.mp H
 obtain ⟨⟨t529, t532, t533⟩, A20, H⟩ := H
 (try dsimp only at H)
 have A2 := Aside0.mk A20
 clear A20
 replace H := Option.bind_eq_some_iff.mp H
 obtain ⟨⟨t535, t536, t537⟩, A30, H⟩ := H
 (try dsimp only at H)
 have A3 := Aside0.mk A30
 clear A30
 by_cases c4 : t535 = 0
 ·rw [if_pos c4] at H
  have c4b0 : (t535 == 0) = true := beq_iff_eq.mpr c4
  have c4b1 : (t535 != 0) = false := bne_eq_false_iff_eq.mpr c4
  clear c4
  obtain ⟨y538, hy538⟩ : ∃ y_ : List Int, y_ = (([0, 61, 12, (-3), 60] : List Int)) := ⟨_, rfl⟩
  replace H : ((spec_l1PickInt.f s0_0 t536 t537 y538).bind fun bt541 => (if t529.length < 17592186044416 then (some ((t529 ++ [bt541.1]), bt541.2.1, bt541.2.2)) else (none))) = some (r1, r2, r3) := hr_ hy538 H
  have Ny538 := Aside0.mk hy538
  clear hy538
  replace H := Option.bind_eq_some_iff.mp H
  obtain ⟨⟨t541, t542, t543⟩, A50, H⟩ := H
  (try dsimp only at H)
  have A5 := Aside0.mk A50
  clear A50
  by_cases c6 : t529.length < 17592186044416
  ·rw [if_pos c6] at H
   have LMc6 := Aside0.mk c6
   clear c6
   obtain ⟨y544, hy544⟩ : ∃ y_ : List Int, y_ = (t529 ++ [t541]) := ⟨_, rfl⟩
   replace H : (some (y544, t542, t543)) = some (r1, r2, r3) := hr_ hy544 H
   have Ny544 := Aside0.mk hy544
   clear hy544
   simp only [Option.some.injEq, Prod.mk.injEq] at H
   obtain ⟨rfl, rfl, rfl⟩ := H
   go_enter Try.func91, Try.ntmps91
   try go_wp2_with (first | ((with_reducible refine gate_dst (N := 2) rfl ?_); refine be_ 2 #[.slice none 0 0] 41 fun gb528 hg w7 hbox hb => ?_; replace HB := bs_ HB hb; have BK528 := Aside0.mk (hbox); have GW528 := Aside0.mk ((by rw [hg]; exact (keep_size (w := w) (g := g) (row := none) (kp_ HK.out)) : w.heap.size ≤ gb528)); have GE528 := Aside0.mk ((Nat.le_trans HW0.out (by rw [hg]; exact (keep_size (w := w) (g := g) (row := none) (kp_ HK.out)) : w.heap.size ≤ gb528) : w0.heap.size ≤ gb528)); replace HK := Aside0.mk (KeepBut.trans (kp_ HK.out) (KeepBut.of_below hb g none) (.inl rfl)); have NB0_528 := Aside0.mk ((by rw [hg]; exact Nat.ne_of_lt (IsS95.lt (show IsS95 w0 _ g s0_0 s0_1 s0_2 from hi_ HI0.out)) : g ≠ gb528)); have NB528_0 := Aside0.mk ((by rw [hg]; exact Nat.ne_of_gt (IsS95.lt (show IsS95 w0 _ g s0_0 s0_1 s0_2 from hi_ HI0.out)) : gb528 ≠ g)); replace HI0 := Aside0.mk (IsS95.below (hi_ HI0.out) hb); clear hb hbox hg) | ((with_reducible refine gate_callee (f := 132) rfl ?_); refine gl_ 5 Try.func132 #[.pointer (some ⟨g, 0, none⟩)] ?_; (with_reducible refine (spec_l3Draw.calls k g s0_0 s0_1 s0_2 t529 t532 t533 w0 _ ?side1 ?side2 A2.out).mono ?_); (case side1 => exact hi_ HI0.out); (case side2 => exact bl_ HB.out); rintro e w8 ⟨v530, rfl, ho0, hi, hb, hk⟩; refine ⟨_, rfl, ?_⟩; replace BK528 := Aside0.mk (KeepBut.blk hk (g' := gb528) (o := .cells #[.slice none 0 0] 41 (0, 0)) (bk_ BK528.out) NB528_0.out (by simp)); have HO531 := Aside0.mk (Kd.R_lower ho0 (keep_size (w := w) (g := g) (row := none) (kp_ HK.out))); replace HK := Aside0.mk (KeepBut.trans (kp_ HK.out) hk (.inl rfl)); replace HB := Aside0.mk (hb); replace HI0 := Aside0.mk (hi); (try clear hb); (try clear hb2); (try clear hk); (try clear hi); (try clear ho0)) | ((with_reducible refine gate_dst (N := 3) rfl ?_); refine be_ 3 #[.slice none 0 0] 41 fun gb534 hg w9 hbox hb => ?_; replace HO531 := rb_ HO531 hb; replace HB := bs_ HB hb; have BK534 := Aside0.mk (hbox); have GW534 := Aside0.mk ((by rw [hg]; exact (keep_size (w := w) (g := g) (row := none) (kp_ HK.out)) : w.heap.size ≤ gb534)); have GE534 := Aside0.mk ((Nat.le_trans HW0.out (by rw [hg]; exact (keep_size (w := w) (g := g) (row := none) (kp_ HK.out)) : w.heap.size ≤ gb534) : w0.heap.size ≤ gb534)); replace HK := Aside0.mk (KeepBut.trans (kp_ HK.out) (KeepBut.of_below hb g none) (.inl rfl)); have NB528_534 := nl_ hg BK528; have NB534_528 := ng_ hg BK528; replace BK528 := bb_ BK528 hb; have NB0_534 := Aside0.mk ((by rw [hg]; exact Nat.ne_of_lt (IsS95.lt (show IsS95 w0 _ g s0_0 t532 t533 from hi_ HI0.out)) : g ≠ gb534)); have NB534_0 := Aside0.mk ((by rw [hg]; exact Nat.ne_of_gt (IsS95.lt (show IsS95 w0 _ g s0_0 t532 t533 from hi_ HI0.out)) : gb534 ≠ g)); replace HI0 := Aside0.mk (IsS95.below (hi_ HI0.out) hb); clear hb hbox hg; obtain ⟨Ao10, co10, eo10⟩ := Kd.R_slice HO531.out; subst eo10; have hnb11 := NB534_528.out; have hnc11 := NB528_534.out; have hnb12 := NB534_0.out; have hnc12 := NB0_534.out; have hcz13_0 := bc_ BK534; have hfz13_0 := blk_frozen BK534.out 0) | ((with_reducible refine gate_callee (f := 82) rfl ?_); refine gl_ 7 Try.func82 #[.pointer (some ⟨g, 0, none⟩), .int .i64 12] ?_; (with_reducible refine (spec_l1Below.calls g s0_0 t532 t533 12 t535 t536 t537 w0 _ ?side1 ?side2 A3.out).mono ?_); (case side1 => exact hi_ HI0.out); (case side2 => exact bl_ HB.out); rintro e w14 ⟨rfl, hi, hb, hk⟩; refine ⟨_, rfl, ?_⟩; replace BK528 := Aside0.mk (KeepBut.blk hk (g' := gb528) (o := .cells #[.slice none 0 0] 41 (0, 0)) (bf_ BK528.out) NB528_0.out (by simp)); replace HO531 := Aside0.mk (Kd.R_mono (Kd.R_keep (IsS95.apart (show IsS95 w0 _ g s0_0 t532 t533 from hi_ HI0.out) (kr_ ((Kd.R_mono (Kd.R_far (p := ⟨gb534, 0, none⟩) (Kd.R_types HO531.out BK534.out (by decide)) (fun _ hk => hk.2) (.slice Ao10 t529.length co10)) (fun _ h_ => h_.1)))) (by decide)) hk (fun _ h => h.2)) (fun _ h => h.1)); replace BK534 := Aside0.mk (KeepBut.blk hk (g' := gb534) (o := .cells #[.slice Ao10 t529.length co10] 41 (0, 0)) (by (with_reducible repeat (first | refine blk_drewN ?_ _ | refine blk_drew ?_ | refine blk_alloc ?_ _)); refine blk_put (cs := #[.slice none 0 0]) ?_ 0 _ rfl; (with_reducible repeat (first | refine blk_drewN ?_ _ | refine blk_drew ?_ | refine blk_alloc ?_ _)); exact BK534.out) NB534_0.out (by simp)); replace HK := Aside0.mk (KeepBut.trans (kp_ HK.out) hk (.inl rfl)); replace HB := Aside0.mk (hb); replace HI0 := Aside0.mk (hi); (try clear hb); (try clear hb2); (try clear hk); (try clear hi)))
   replace HO531 := Aside0.mk (Kd.R_drew HO531.out)
   replace BK528 := Aside0.mk (blk_drew BK528.out)
   replace BK534 := Aside0.mk (blk_drew BK534.out)
   replace HI0 := Aside0.mk (IsS95.drew HI0.out)
   replace HK := Aside0.mk (keep_drew HK.out)
   replace HB := Aside0.mk (below_drew1 HB.out)
   refine start_ (n := 9) (S := fun w' => w'.cell? ⟨gb534, 0, none⟩ = some (.slice Ao10 t529.length co10)) (ds := [8]) (fl_ 9 0) (by kernel_rfl) rfl rfl ((blk_cell BK534.out 0).trans rfl) (fun hHeld => ?_); refine with_tabW spec_l3Bent.tab4 spec_l3Bent.bits4 (fun HT_ HW_ => ?_)
   generalize w14.drew = w15 at HO531 BK528 BK534 HI0 HK HB hHeld ⊢
   refine pu_ 0 10 (fl_ 9 1) ?_
   refine pu_ 2 12 (fm_ 9 5) ?_
   refine ta_ 1 11 (fl_ 9 3) ?_
   refine on_ 3 13 (fl_ 9 4) fun K hK => ?_
   refine Kd.R_lit_step (Kd.int .i64) _ 3 ?hg (N := 13) ?hd (xs := ([0, 61, 12, (-3), 60] : List Int)) (inner := [.int .i64 0, .int .i64 61, .int .i64 12, .int .i64 (-3), .int .i64 60]) (ok := fun _ => True) (okp := fun _ => True) ?hr ?hp (fun _ hk => hk) trivial (Below.refl _ _) (Nat.le_refl _) (by simp) ?_; (case hd => rfl); (case hg => rfl); (case hr => first | (go_simp; done) | (go_simp; rfl)); (case hp => exact (Reps.one (show Kd.M (Kd.int .i64) _ _ _ 0 [.int .i64 0] from rfl) (Reps.one (show Kd.M (Kd.int .i64) _ _ _ 61 [.int .i64 61] from rfl) (Reps.one (show Kd.M (Kd.int .i64) _ _ _ 12 [.int .i64 12] from rfl) (Reps.one (show Kd.M (Kd.int .i64) _ _ _ (-3) [.int .i64 (-3)] from rfl) (Reps.one (show Kd.M (Kd.int .i64) _ _ _ 60 [.int .i64 60] from rfl) (Reps.none _ _)))))))
   intro v539 w16 ho17 hb hg_ hnew_
   clear hg_ hnew_
   (first | rw [← Ny538.out] at ho17 | (simp only [Int.reduceToNat] at ho17; rw [← Ny538.out] at ho17))
   have HO540 := Aside0.mk (Kd.R_lower (Kd.R_new' ho17 (Kd.R_lt (kr_ HO531.out))) (keep_size (w := w) (g := g) (row := none) (kp_ HK.out)))
   replace HO531 := Aside0.mk (Kd.R_elder' (kr_ HO531.out) (Kd.R_base ho17) hb)
   replace HI0 := Aside0.mk (IsS95.below (hi_ HI0.out) hb)
   replace BK528 := bb_ BK528 hb
   replace BK534 := bb_ BK534 hb
   replace HK := Aside0.mk (KeepBut.trans (kp_ HK.out) (KeepBut.of_below hb g none) (.inl rfl))
   replace HB := bs_ HB hb
   clear hb ho17
   obtain ⟨Ao18, co18, eo18⟩ := Kd.R_slice HO540.out
   (first | subst eo18 | (injection eo18 with f1_ f2_ f3_; have f4_ := f1_.symm; have f5_ := f3_.symm; clear f1_ f2_ f3_; subst f4_; subst f5_))
   refine hK.out _ _ ((blk_cell BK534.out 0).trans rfl) (fun hHeld => ?_)
   clear hK K
   refine no_ 13 ?_
   refine on_ 4 14 (fl_ 9 5) fun K hK => ?_
   refine go_ Try.func84 #[.pointer (some ⟨g, 0, none⟩), .slice Ao18 y538.length co18] ?_
   with_reducible refine (spec_l1PickInt.calls g s0_0 t536 t537 _ _ y538 t541 t542 t543 w0 _ ?side1 ?side2 ?side3 ?side4 ?side5 A5.out).mono ?_
   (case side1 => exact hi_ HI0.out)
   (case side2 => exact bl_ HB.out)
   (case side3 => exact rs_ HO540)
   (case side4 => exact (Kd.R_reads' HO540.out).2.1)
   (case side5 => exact far_slice (IsS95.own_ne HI0.out HO540.out (by decide)))
   rintro e w19 ⟨rfl, hi, hb, hk⟩
   refine ⟨_, rfl, ?_⟩
   replace BK528 := Aside0.mk (KeepBut.blk hk (g' := gb528) (o := .cells #[.slice none 0 0] 41 (0, 0)) (bk_ BK528.out) NB528_0.out (by simp))
   replace HO531 := Aside0.mk (Kd.R_mono (Kd.R_keep (IsS95.apart (show IsS95 w0 _ g s0_0 t536 t537 from hi_ HI0.out) (kr_ HO531.out) (by decide)) hk (fun _ h => h.2)) (fun _ h => h.1))
   replace BK534 := Aside0.mk (KeepBut.blk hk (g' := gb534) (o := .cells #[.slice Ao10 t529.length co10] 41 (0, 0)) (bk_ BK534.out) NB534_0.out (by simp))
   replace HO540 := Aside0.mk (Kd.R_mono (Kd.R_keep (IsS95.apart (show IsS95 w0 _ g s0_0 t536 t537 from hi_ HI0.out) (kr_ HO540.out) (by decide)) hk (fun _ h => h.2)) (fun _ h => h.1))
   replace HK := Aside0.mk (KeepBut.trans (kp_ HK.out) hk (.inl rfl))
   replace HB := Aside0.mk (hb)
   replace HI0 := Aside0.mk (hi)
   (try clear hb)
   (try clear hb2)
   (try clear hk)
   (try clear hi)
   refine hK.out _ _ ((blk_cell BK534.out 0).trans rfl) (fun hHeld => ?_)
   clear hK K
   refine no_ 14 ?_
   refine on_ 5 15 (fl_ 9 6) fun K hK => ?_
   refine value_ (w1 := ?_) (v := ?_) (by rfl) rfl ?_ ?_
   rotate_left 2
   ·go_simp
    constructor
    ·rfl
    ·rfl
   refine hK.out _ _ ((blk_cell (blk_alloc BK534.out _) 0).trans rfl) (fun hHeld => ?_)
   clear hK K
   refine no_ 15 ?_
   refine on_ 6 16 (fl_ 9 7) fun K hK => ?_
   refine Kd.R_append_step (Kd.int .i64) w.heap.size (by rfl) (.tmp 11) (.tmp 15) 22 3 (.int .i64 0) 8 rfl Try.underlying22 info3 rfl (by decide) (by omega) (.slice Ao10 t529.length co10) t529 t541 [.int .i64 t541] (fun k_ => some k_ ≠ (.slice Ao18 y538.length co18 : Value).ownBlock) (fun _ => False) rfl rfl ?aP (fun _ hk => hk.elim) ?aF ?aO (Below.refl _ _) ?aS ?aL ?_
   (case aP => exact rfl)
   (case aF => exact (fun k_ hk => Kd.fresh' (Kd.R_lt (kr_ HO540.out)) k_ hk))
   (case aO => exact (kr_ (Kd.R_mono HO531.out (fun _ hk => hk.2))))
   (case aS => exact (keep_size (w := w) (g := g) (row := none) (kp_ HK.out)))
   (case aL => have := LMc6.out; omega)
   intro v545 w20 ho hb hg hat
   rw [← Ny544.out] at ho
   have n0_ := Aside0.mk (IsS95.grown (hi_ HI0.out) hg (IsS95.own_ne HI0.out HO531.out (by decide)))
   have n1_ := Aside0.mk (blk_grown (g := gb528) (o := .cells #[.slice none 0 0] 41 (0, 0)) (bk_ BK528.out) hg (Kd.R_ne HO531.out BK528.out (by decide)))
   have n2_ := Aside0.mk (blk_grown (g := gb534) (o := .cells #[.slice Ao10 t529.length co10] 41 (0, 0)) (bk_ BK534.out) hg (Kd.R_ne HO531.out BK534.out (by decide)))
   have n3_ := Aside0.mk (Kd.R_after (ok := (fun _ => True)) (kr_ HO540.out) hg hat)
   have n4_ := Aside0.mk (below_weaken (bl_ HB.out) HL.out hb)
   have n5_ := Aside0.mk (KeepBut.trans (kp_ HK.out) (KeepBut.of_grown hg g) (Kd.R_base2 HO531.out))
   have n6_ := Aside0.mk (ho)
   clear HI0
   clear BK528
   clear BK534
   clear HO540
   clear HB
   clear HK
   clear HO531
   have HI0 := n0_
   have BK528 := n1_
   have BK534 := n2_
   have HO540 := n3_
   have HB := n4_
   have HK := n5_
   have HO546 := n6_
   clear n0_ n1_ n2_ n3_ n4_ n5_ n6_
   clear ho hb hg hat
   obtain ⟨Ao21, co21, eo21⟩ := Kd.R_slice HO546.out
   (first | subst eo21 | (injection eo21 with f1_ f2_ f3_; have f4_ := f1_.symm; have f5_ := f3_.symm; clear f1_ f2_ f3_; subst f4_; subst f5_))
   refine hK.out _ _ ((blk_cell BK534.out 0).trans rfl) (fun hHeld => ?_)
   clear hK K
   refine no_ 16 ?_
   refine pu_ 7 17 (fl_ 9 8) ?_
   refine last_ (i := 8) (N := none) (fl_ 9 9) rfl rfl (one_of HT_.out (by kernel_rfl)) (by decide) (fun K hK => ?_)
   have hs22 : w20.cell? ⟨gb534, 0, none⟩ = some (.slice Ao10 t529.length co10) := (blk_cell BK534.out 0).trans rfl
   have hfs22 := blk_frozen BK534.out 0
   have hns22_0 := NB528_534.out
   have hms22_0 := NB534_528.out
   refine skip_ (w1 := ?_) (by rfl) rfl ?_ ?_
   rotate_left
   ·go_simp
    rfl
   refine hK.out _ _ ?_
   clear hK K
   refine done_ (done_of HT_.out (by kernel_rfl)) ?_
   have hcz23_0 := bc_ BK534
   have hfz23_0 := blk_frozen BK534.out 0
   have hnb24 := NB528_0.out
   have hnc24 := NB0_528.out
   have hcz25_0 := bc_ BK528
   have hfz25_0 := blk_frozen BK528.out 0
   try go_wp2
   refine bodyPost_ret (results_cell_row rfl _ _ gb528 41 #[.slice Ao21 y544.length co21] (0, 0) _ rfl (by (with_reducible repeat (first | refine blk_drewN ?_ _ | refine blk_drew ?_ | refine blk_alloc ?_ _)); refine blk_put (cs := #[.slice none 0 0]) ?_ 0 _ rfl; (with_reducible repeat (first | refine blk_drewN ?_ _ | refine blk_drew ?_ | refine blk_alloc ?_ _)); refine blk_far ?_ NB528_534.out _; (with_reducible repeat (first | refine blk_drewN ?_ _ | refine blk_drew ?_ | refine blk_alloc ?_ _)); exact BK528.out) Try.underlying41 rfl (by kernel_rfl)) rfl ?_
   exact ⟨_, er_, Kd.Q_of_R (kr_ (Kd.R_mono (Kd.R_far (p := ⟨gb528, 0, none⟩) (Kd.R_far (p := ⟨gb534, 0, none⟩) (Kd.R_types (Kd.R_types HO546.out BK534.out (by decide)) BK528.out (by decide)) (fun _ hk => hk.1.2) (.slice Ao21 y544.length co21)) (fun _ hk => hk.2) (.slice Ao21 y544.length co21)) (fun _ hk => trivial))), hi_ HI0.out, bl_ HB.out, kp_ HK.out⟩
  ·rw [if_neg c6] at H
   exact absurd H (by simp)
 ·rw [if_neg c4] at H
  have c4b0 : (t535 == 0) = false := beq_eq_false_iff_ne.mpr c4
  have c4b1 : (t535 != 0) = true := bne_iff_ne.mpr c4
  by_cases c26 : t535 = 1
  ·rw [if_pos c26] at H
   have c26b0 : (t535 == 1) = true := beq_iff_eq.mpr c26
   have c26b1 : (t535 != 1) = false := bne_eq_false_iff_eq.mpr c26
   clear c26
   by_cases c27 : 1 ≤ (t529.length : Int)
   ·rw [if_pos c27] at H
    have c27b0 := eq_true c27
    have c27b1 : decide (1 ≤ (t529.length : Int)) = true := decide_eq_true c27
    clear c27
    obtain ⟨y547, hy547⟩ : ∃ y_ : List Int, y_ = (t529.drop (1 : Int).toNat) := ⟨_, rfl⟩
    replace H : (some (y547, t536, t537)) = some (r1, r2, r3) := hr_ hy547 H
    have Ny547 := Aside0.mk hy547
    clear hy547
    simp only [Option.some.injEq, Prod.mk.injEq] at H
    obtain ⟨rfl, rfl, rfl⟩ := H
    go_enter Try.func91, Try.ntmps91
    go_wp2_with (first | ((with_reducible refine gate_dst (N := 2) rfl ?_); refine be_ 2 #[.slice none 0 0] 41 fun gb528 hg w28 hbox hb => ?_; replace HB := bs_ HB hb; have BK528 := Aside0.mk (hbox); have GW528 := Aside0.mk ((by rw [hg]; exact (keep_size (w := w) (g := g) (row := none) (kp_ HK.out)) : w.heap.size ≤ gb528)); have GE528 := Aside0.mk ((Nat.le_trans HW0.out (by rw [hg]; exact (keep_size (w := w) (g := g) (row := none) (kp_ HK.out)) : w.heap.size ≤ gb528) : w0.heap.size ≤ gb528)); replace HK := Aside0.mk (KeepBut.trans (kp_ HK.out) (KeepBut.of_below hb g none) (.inl rfl)); have NB0_528 := Aside0.mk ((by rw [hg]; exact Nat.ne_of_lt (IsS95.lt (show IsS95 w0 _ g s0_0 s0_1 s0_2 from hi_ HI0.out)) : g ≠ gb528)); have NB528_0 := Aside0.mk ((by rw [hg]; exact Nat.ne_of_gt (IsS95.lt (show IsS95 w0 _ g s0_0 s0_1 s0_2 from hi_ HI0.out)) : gb528 ≠ g)); replace HI0 := Aside0.mk (IsS95.below (hi_ HI0.out) hb); clear hb hbox hg) | ((with_reducible refine gate_callee (f := 132) rfl ?_); refine gl_ 5 Try.func132 #[.pointer (some ⟨g, 0, none⟩)] ?_; (with_reducible refine (spec_l3Draw.calls k g s0_0 s0_1 s0_2 t529 t532 t533 w0 _ ?side1 ?side2 A2.out).mono ?_); (case side1 => exact hi_ HI0.out); (case side2 => exact bl_ HB.out); rintro e w29 ⟨v530, rfl, ho0, hi, hb, hk⟩; refine ⟨_, rfl, ?_⟩; replace BK528 := Aside0.mk (KeepBut.blk hk (g' := gb528) (o := .cells #[.slice none 0 0] 41 (0, 0)) (bk_ BK528.out) NB528_0.out (by simp)); have HO531 := Aside0.mk (Kd.R_lower ho0 (keep_size (w := w) (g := g) (row := none) (kp_ HK.out))); replace HK := Aside0.mk (KeepBut.trans (kp_ HK.out) hk (.inl rfl)); replace HB := Aside0.mk (hb); replace HI0 := Aside0.mk (hi); (try clear hb); (try clear hb2); (try clear hk); (try clear hi); (try clear ho0)) | ((with_reducible refine gate_dst (N := 3) rfl ?_); refine be_ 3 #[.slice none 0 0] 41 fun gb534 hg w30 hbox hb => ?_; replace HO531 := rb_ HO531 hb; replace HB := bs_ HB hb; have BK534 := Aside0.mk (hbox); have GW534 := Aside0.mk ((by rw [hg]; exact (keep_size (w := w) (g := g) (row := none) (kp_ HK.out)) : w.heap.size ≤ gb534)); have GE534 := Aside0.mk ((Nat.le_trans HW0.out (by rw [hg]; exact (keep_size (w := w) (g := g) (row := none) (kp_ HK.out)) : w.heap.size ≤ gb534) : w0.heap.size ≤ gb534)); replace HK := Aside0.mk (KeepBut.trans (kp_ HK.out) (KeepBut.of_below hb g none) (.inl rfl)); have NB528_534 := nl_ hg BK528; have NB534_528 := ng_ hg BK528; replace BK528 := bb_ BK528 hb; have NB0_534 := Aside0.mk ((by rw [hg]; exact Nat.ne_of_lt (IsS95.lt (show IsS95 w0 _ g s0_0 t532 t533 from hi_ HI0.out)) : g ≠ gb534)); have NB534_0 := Aside0.mk ((by rw [hg]; exact Nat.ne_of_gt (IsS95.lt (show IsS95 w0 _ g s0_0 t532 t533 from hi_ HI0.out)) : gb534 ≠ g)); replace HI0 := Aside0.mk (IsS95.below (hi_ HI0.out) hb); clear hb hbox hg; obtain ⟨Ao31, co31, eo31⟩ := Kd.R_slice HO531.out; subst eo31; have hnb32 := NB534_528.out; have hnc32 := NB528_534.out; have hnb33 := NB534_0.out; have hnc33 := NB0_534.out; have hcz34_0 := bc_ BK534; have hfz34_0 := blk_frozen BK534.out 0) | ((with_reducible refine gate_callee (f := 82) rfl ?_); refine gl_ 7 Try.func82 #[.pointer (some ⟨g, 0, none⟩), .int .i64 12] ?_; (with_reducible refine (spec_l1Below.calls g s0_0 t532 t533 12 t535 t536 t537 w0 _ ?side1 ?side2 A3.out).mono ?_); (case side1 => exact hi_ HI0.out); (case side2 => exact bl_ HB.out); rintro e w35 ⟨rfl, hi, hb, hk⟩; refine ⟨_, rfl, ?_⟩; replace BK528 := Aside0.mk (KeepBut.blk hk (g' := gb528) (o := .cells #[.slice none 0 0] 41 (0, 0)) (bf_ BK528.out) NB528_0.out (by simp)); replace HO531 := Aside0.mk (Kd.R_mono (Kd.R_keep (IsS95.apart (show IsS95 w0 _ g s0_0 t532 t533 from hi_ HI0.out) (kr_ ((Kd.R_mono (Kd.R_far (p := ⟨gb534, 0, none⟩) (Kd.R_types HO531.out BK534.out (by decide)) (fun _ hk => hk.2) (.slice Ao31 t529.length co31)) (fun _ h_ => h_.1)))) (by decide)) hk (fun _ h => h.2)) (fun _ h => h.1)); replace BK534 := Aside0.mk (KeepBut.blk hk (g' := gb534) (o := .cells #[.slice Ao31 t529.length co31] 41 (0, 0)) (by (with_reducible repeat (first | refine blk_drewN ?_ _ | refine blk_drew ?_ | refine blk_alloc ?_ _)); refine blk_put (cs := #[.slice none 0 0]) ?_ 0 _ rfl; (with_reducible repeat (first | refine blk_drewN ?_ _ | refine blk_drew ?_ | refine blk_alloc ?_ _)); exact BK534.out) NB534_0.out (by simp)); replace HK := Aside0.mk (KeepBut.trans (kp_ HK.out) hk (.inl rfl)); replace HB := Aside0.mk (hb); replace HI0 := Aside0.mk (hi); (try clear hb); (try clear hb2); (try clear hk); (try clear hi); have hcz36_0 := bc_ BK534; have hfz36_0 := blk_frozen BK534.out 0; have q37 : (1 : Int) ≤ ((t529.length : Int) : Int) := od_; obtain ⟨i037, hi037, _, hsz37, _⟩ := info_parts info3; have hcut37 := cut_from (P := Try.prog) 22 3 .i64 Try.underlying22 hi037 1 hsz37 Ao31 t529.length co31 1 (by omega) q37; have hr37 := Kd.Q_drop (k := (1 : Int).toNat) (Kd.Q_of_R HO531.out) (by omega); obtain ⟨A37, hA37⟩ : ∃ A1, A1 = (if co31 = (1 : Int).toNat then Ao31 else (Ao31 : Option Addr).map (·.add ((1 : Int).toNat * 1))) := ⟨_, rfl⟩; obtain ⟨c37, hc37⟩ : ∃ c1, c1 = co31 - (1 : Int).toNat := ⟨_, rfl⟩; have hy37 : y547.length = t529.length - (1 : Int).toNat := (by rw [Ny547.out, List.length_drop]); rw [← Ny547.out] at hr37; rw [← hy37, ← hA37, ← hc37] at hcut37; replace hr37 : Kd.Q (Kd.int .i64) 3 w35 w.heap.size (fun _ => True) (.slice A37 y547.length c37) y547 := (by rw [hA37, hc37, hy37]; exact hr37); have HE37 : Aside0 ((Value.slice A37 y547.length c37).ownBlock = (.slice Ao31 t529.length co31 : Value).ownBlock) := ⟨by rw [hA37]; split <;> (cases (Ao31 : Option Addr) <;> rfl)⟩; clear hy37 hi037 hsz37 HO531 hA37 hc37; have HO549 := Aside0.mk hr37; clear hr37; replace q37 := eq_true q37; have hnb38 := NB528_0.out; have hnc38 := NB0_528.out; have hcz39_0 := bc_ BK528; have hfz39_0 := blk_frozen BK528.out 0))
    refine bodyPost_ret (results_cell_row rfl _ _ gb528 41 #[.slice A37 y547.length c37] (0, 0) _ rfl (by (with_reducible repeat (first | refine blk_drewN ?_ _ | refine blk_drew ?_ | refine blk_alloc ?_ _)); refine blk_put (cs := #[.slice none 0 0]) ?_ 0 _ rfl; (with_reducible repeat (first | refine blk_drewN ?_ _ | refine blk_drew ?_ | refine blk_alloc ?_ _)); refine blk_far ?_ NB528_534.out _; (with_reducible repeat (first | refine blk_drewN ?_ _ | refine blk_drew ?_ | refine blk_alloc ?_ _)); exact BK528.out) Try.underlying41 rfl (by kernel_rfl)) rfl ?_
    exact ⟨_, er_, kq_ (Kd.Q_mono (Kd.Q_far (p := ⟨gb528, 0, none⟩) (Kd.Q_far (p := ⟨gb534, 0, none⟩) (Kd.Q_types (Kd.Q_types HO549.out BK534.out (by decide)) BK528.out (by decide)) (fun _ hk => hk.1.2) (.slice A37 y547.length c37)) (fun _ hk => hk.2) (.slice A37 y547.length c37)) (fun _ hk => trivial)), hi_ HI0.out, bl_ HB.out, kp_ HK.out⟩
   ·rw [if_neg c27] at H
    exact absurd H (by simp)
  ·rw [if_neg c26] at H
   have c26b0 : (t535 == 1) = false := beq_eq_false_iff_ne.mpr c26
   have c26b1 : (t535 != 1) = true := bne_iff_ne.mpr c26
   by_cases c40 : t535 = 2
   ·rw [if_pos c40] at H
    have c40b0 : (t535 == 2) = true := beq_iff_eq.mpr c40
    have c40b1 : (t535 != 2) = false := bne_eq_false_iff_eq.mpr c40
    clear c40
    obtain ⟨y550, hy550⟩ : ∃ y_ : List Int, y_ = (([0, 59, 4] : List Int)) := ⟨_, rfl⟩
    replace H : ((spec_l1PickInt.f s0_0 t536 t537 y550).bind fun bt553 => (some ((([bt553.1, 60] : List Int)), bt553.2.1, bt553.2.2))) = some (r1, r2, r3) := hr_ hy550 H
    have Ny550 := Aside0.mk hy550
    clear hy550
    replace H := Option.bind_eq_some_iff.mp H
    obtain ⟨⟨t553, t554, t555⟩, A410, H⟩ := H
    (try dsimp only at H)
    have A41 := Aside0.mk A410
    clear A410
    obtain ⟨y556, hy556⟩ : ∃ y_ : List Int, y_ = (([t553, 60] : List Int)) := ⟨_, rfl⟩
    replace H : (some (y556, t554, t555)) = some (r1, r2, r3) := hr_ hy556 H
    have Ny556 := Aside0.mk hy556
    clear hy556
    simp only [Option.some.injEq, Prod.mk.injEq] at H
    obtain ⟨rfl, rfl, rfl⟩ := H
    go_enter Try.func91, Try.ntmps91
    go_wp2_with (first | ((with_reducible refine gate_dst (N := 2) rfl ?_); refine be_ 2 #[.slice none 0 0] 41 fun gb528 hg w42 hbox hb => ?_; replace HB := bs_ HB hb; have BK528 := Aside0.mk (hbox); have GW528 := Aside0.mk ((by rw [hg]; exact (keep_size (w := w) (g := g) (row := none) (kp_ HK.out)) : w.heap.size ≤ gb528)); have GE528 := Aside0.mk ((Nat.le_trans HW0.out (by rw [hg]; exact (keep_size (w := w) (g := g) (row := none) (kp_ HK.out)) : w.heap.size ≤ gb528) : w0.heap.size ≤ gb528)); replace HK := Aside0.mk (KeepBut.trans (kp_ HK.out) (KeepBut.of_below hb g none) (.inl rfl)); have NB0_528 := Aside0.mk ((by rw [hg]; exact Nat.ne_of_lt (IsS95.lt (show IsS95 w0 _ g s0_0 s0_1 s0_2 from hi_ HI0.out)) : g ≠ gb528)); have NB528_0 := Aside0.mk ((by rw [hg]; exact Nat.ne_of_gt (IsS95.lt (show IsS95 w0 _ g s0_0 s0_1 s0_2 from hi_ HI0.out)) : gb528 ≠ g)); replace HI0 := Aside0.mk (IsS95.below (hi_ HI0.out) hb); clear hb hbox hg) | ((with_reducible refine gate_callee (f := 132) rfl ?_); refine gl_ 5 Try.func132 #[.pointer (some ⟨g, 0, none⟩)] ?_; (with_reducible refine (spec_l3Draw.calls k g s0_0 s0_1 s0_2 t529 t532 t533 w0 _ ?side1 ?side2 A2.out).mono ?_); (case side1 => exact hi_ HI0.out); (case side2 => exact bl_ HB.out); rintro e w43 ⟨v530, rfl, ho0, hi, hb, hk⟩; refine ⟨_, rfl, ?_⟩; replace BK528 := Aside0.mk (KeepBut.blk hk (g' := gb528) (o := .cells #[.slice none 0 0] 41 (0, 0)) (bk_ BK528.out) NB528_0.out (by simp)); have HO531 := Aside0.mk (Kd.R_lower ho0 (keep_size (w := w) (g := g) (row := none) (kp_ HK.out))); replace HK := Aside0.mk (KeepBut.trans (kp_ HK.out) hk (.inl rfl)); replace HB := Aside0.mk (hb); replace HI0 := Aside0.mk (hi); (try clear hb); (try clear hb2); (try clear hk); (try clear hi); (try clear ho0)) | ((with_reducible refine gate_dst (N := 3) rfl ?_); refine be_ 3 #[.slice none 0 0] 41 fun gb534 hg w44 hbox hb => ?_; replace HO531 := rb_ HO531 hb; replace HB := bs_ HB hb; have BK534 := Aside0.mk (hbox); have GW534 := Aside0.mk ((by rw [hg]; exact (keep_size (w := w) (g := g) (row := none) (kp_ HK.out)) : w.heap.size ≤ gb534)); have GE534 := Aside0.mk ((Nat.le_trans HW0.out (by rw [hg]; exact (keep_size (w := w) (g := g) (row := none) (kp_ HK.out)) : w.heap.size ≤ gb534) : w0.heap.size ≤ gb534)); replace HK := Aside0.mk (KeepBut.trans (kp_ HK.out) (KeepBut.of_below hb g none) (.inl rfl)); have NB528_534 := nl_ hg BK528; have NB534_528 := ng_ hg BK528; replace BK528 := bb_ BK528 hb; have NB0_534 := Aside0.mk ((by rw [hg]; exact Nat.ne_of_lt (IsS95.lt (show IsS95 w0 _ g s0_0 t532 t533 from hi_ HI0.out)) : g ≠ gb534)); have NB534_0 := Aside0.mk ((by rw [hg]; exact Nat.ne_of_gt (IsS95.lt (show IsS95 w0 _ g s0_0 t532 t533 from hi_ HI0.out)) : gb534 ≠ g)); replace HI0 := Aside0.mk (IsS95.below (hi_ HI0.out) hb); clear hb hbox hg; obtain ⟨Ao45, co45, eo45⟩ := Kd.R_slice HO531.out; subst eo45; have hnb46 := NB534_528.out; have hnc46 := NB528_534.out; have hnb47 := NB534_0.out; have hnc47 := NB0_534.out; have hcz48_0 := bc_ BK534; have hfz48_0 := blk_frozen BK534.out 0) | ((with_reducible refine gate_callee (f := 82) rfl ?_); refine gl_ 7 Try.func82 #[.pointer (some ⟨g, 0, none⟩), .int .i64 12] ?_; (with_reducible refine (spec_l1Below.calls g s0_0 t532 t533 12 t535 t536 t537 w0 _ ?side1 ?side2 A3.out).mono ?_); (case side1 => exact hi_ HI0.out); (case side2 => exact bl_ HB.out); rintro e w49 ⟨rfl, hi, hb, hk⟩; refine ⟨_, rfl, ?_⟩; replace BK528 := Aside0.mk (KeepBut.blk hk (g' := gb528) (o := .cells #[.slice none 0 0] 41 (0, 0)) (bf_ BK528.out) NB528_0.out (by simp)); replace HO531 := Aside0.mk (Kd.R_mono (Kd.R_keep (IsS95.apart (show IsS95 w0 _ g s0_0 t532 t533 from hi_ HI0.out) (kr_ ((Kd.R_mono (Kd.R_far (p := ⟨gb534, 0, none⟩) (Kd.R_types HO531.out BK534.out (by decide)) (fun _ hk => hk.2) (.slice Ao45 t529.length co45)) (fun _ h_ => h_.1)))) (by decide)) hk (fun _ h => h.2)) (fun _ h => h.1)); replace BK534 := Aside0.mk (KeepBut.blk hk (g' := gb534) (o := .cells #[.slice Ao45 t529.length co45] 41 (0, 0)) (by (with_reducible repeat (first | refine blk_drewN ?_ _ | refine blk_drew ?_ | refine blk_alloc ?_ _)); refine blk_put (cs := #[.slice none 0 0]) ?_ 0 _ rfl; (with_reducible repeat (first | refine blk_drewN ?_ _ | refine blk_drew ?_ | refine blk_alloc ?_ _)); exact BK534.out) NB534_0.out (by simp)); replace HK := Aside0.mk (KeepBut.trans (kp_ HK.out) hk (.inl rfl)); replace HB := Aside0.mk (hb); replace HI0 := Aside0.mk (hi); (try clear hb); (try clear hb2); (try clear hk); (try clear hi)) | ((with_reducible refine gate_dst (N := 27) rfl ?_); refine Kd.R_lit (Kd.int .i64) _ 3 ?hg (N := 27) ?hd (xs := ([0, 59, 4] : List Int)) (inner := [.int .i64 0, .int .i64 59, .int .i64 4]) (ok := fun _ => True) (okp := fun _ => True) ?hr ?hp (fun _ hk => hk) trivial (Below.refl _ _) (Nat.le_refl _) (by simp) ?_; (case hd => rfl); (case hg => rfl); (case hr => first | (go_simp; done) | (go_simp; rfl)); (case hp => exact (Reps.one (show Kd.M (Kd.int .i64) _ _ _ 0 [.int .i64 0] from rfl) (Reps.one (show Kd.M (Kd.int .i64) _ _ _ 59 [.int .i64 59] from rfl) (Reps.one (show Kd.M (Kd.int .i64) _ _ _ 4 [.int .i64 4] from rfl) (Reps.none _ _))))); intro v551 w50 ho51 hb hg_ hnew_; clear hg_ hnew_; (first | rw [← Ny550.out] at ho51 | (simp only [Int.reduceToNat] at ho51; rw [← Ny550.out] at ho51)); have HO552 := Aside0.mk (Kd.R_lower (Kd.R_new' ho51 (Kd.R_lt (kr_ HO531.out))) (keep_size (w := w) (g := g) (row := none) (kp_ HK.out))); replace HO531 := Aside0.mk (Kd.R_elder' (kr_ HO531.out) (Kd.R_base ho51) hb); replace HI0 := Aside0.mk (IsS95.below (hi_ HI0.out) hb); replace BK528 := bb_ BK528 hb; replace BK534 := bb_ BK534 hb; replace HK := Aside0.mk (KeepBut.trans (kp_ HK.out) (KeepBut.of_below hb g none) (.inl rfl)); replace HB := bs_ HB hb; clear hb ho51; obtain ⟨Ao52, co52, eo52⟩ := Kd.R_slice HO552.out; subst eo52) | ((with_reducible refine gate_callee (f := 84) rfl ?_); refine gl_ 28 Try.func84 #[.pointer (some ⟨g, 0, none⟩), .slice Ao52 y550.length co52] ?_; (with_reducible refine (spec_l1PickInt.calls g s0_0 t536 t537 _ _ y550 t553 t554 t555 w0 _ ?side1 ?side2 ?side3 ?side4 ?side5 A41.out).mono ?_); (case side1 => exact hi_ HI0.out); (case side2 => exact bl_ HB.out); (case side3 => exact rs_ HO552); (case side4 => exact (Kd.R_reads' HO552.out).2.1); (case side5 => exact far_slice (IsS95.own_ne HI0.out HO552.out (by decide))); rintro e w53 ⟨rfl, hi, hb, hk⟩; refine ⟨_, rfl, ?_⟩; replace BK528 := Aside0.mk (KeepBut.blk hk (g' := gb528) (o := .cells #[.slice none 0 0] 41 (0, 0)) (bk_ BK528.out) NB528_0.out (by simp)); replace HO531 := Aside0.mk (Kd.R_mono (Kd.R_keep (IsS95.apart (show IsS95 w0 _ g s0_0 t536 t537 from hi_ HI0.out) (kr_ HO531.out) (by decide)) hk (fun _ h => h.2)) (fun _ h => h.1)); replace BK534 := Aside0.mk (KeepBut.blk hk (g' := gb534) (o := .cells #[.slice Ao45 t529.length co45] 41 (0, 0)) (bk_ BK534.out) NB534_0.out (by simp)); replace HO552 := Aside0.mk (Kd.R_mono (Kd.R_keep (IsS95.apart (show IsS95 w0 _ g s0_0 t536 t537 from hi_ HI0.out) (kr_ HO552.out) (by decide)) hk (fun _ h => h.2)) (fun _ h => h.1)); replace HK := Aside0.mk (KeepBut.trans (kp_ HK.out) hk (.inl rfl)); replace HB := Aside0.mk (hb); replace HI0 := Aside0.mk (hi); (try clear hb); (try clear hb2); (try clear hk); (try clear hi)) | ((with_reducible refine gate_dst (N := 29) rfl ?_); refine Kd.R_lit (Kd.int .i64) _ 3 ?hg (N := 29) ?hd (xs := ([t553, 60] : List Int)) (inner := [.int .i64 t553, .int .i64 60]) (ok := fun _ => True) (okp := fun _ => True) ?hr ?hp (fun _ hk => hk) trivial (Below.refl _ _) (Nat.le_refl _) (by simp) ?_; (case hd => rfl); (case hg => rfl); (case hr => first | (go_simp; done) | (go_simp; rfl)); (case hp => exact (Reps.one (show Kd.M (Kd.int .i64) _ _ _ t553 [.int .i64 t553] from rfl) (Reps.one (show Kd.M (Kd.int .i64) _ _ _ 60 [.int .i64 60] from rfl) (Reps.none _ _)))); intro v557 w54 ho55 hb hg_ hnew_; clear hg_ hnew_; (first | rw [← Ny556.out] at ho55 | (simp only [Int.reduceToNat] at ho55; rw [← Ny556.out] at ho55)); have HO558 := Aside0.mk (Kd.R_lower (Kd.R_new' (Kd.R_new' ho55 (Kd.R_lt (kr_ HO531.out))) (Kd.R_lt (kr_ HO552.out))) (keep_size (w := w) (g := g) (row := none) (kp_ HK.out))); replace HO531 := Aside0.mk (Kd.R_elder' (kr_ HO531.out) (Kd.R_base ho55) hb); replace HO552 := Aside0.mk (Kd.R_elder' (kr_ HO552.out) (Kd.R_base ho55) hb); replace HI0 := Aside0.mk (IsS95.below (hi_ HI0.out) hb); replace BK528 := bb_ BK528 hb; replace BK534 := bb_ BK534 hb; replace HK := Aside0.mk (KeepBut.trans (kp_ HK.out) (KeepBut.of_below hb g none) (.inl rfl)); replace HB := bs_ HB hb; clear hb ho55; obtain ⟨Ao56, co56, eo56⟩ := Kd.R_slice HO558.out; subst eo56; have hcz57_0 := bc_ BK534; have hfz57_0 := blk_frozen BK534.out 0; have hnb58 := NB528_0.out; have hnc58 := NB0_528.out; have hcz59_0 := bc_ BK528; have hfz59_0 := blk_frozen BK528.out 0))
    refine bodyPost_ret (results_cell_row rfl _ _ gb528 41 #[.slice Ao56 y556.length co56] (0, 0) _ rfl (by (with_reducible repeat (first | refine blk_drewN ?_ _ | refine blk_drew ?_ | refine blk_alloc ?_ _)); refine blk_put (cs := #[.slice none 0 0]) ?_ 0 _ rfl; (with_reducible repeat (first | refine blk_drewN ?_ _ | refine blk_drew ?_ | refine blk_alloc ?_ _)); refine blk_far ?_ NB528_534.out _; (with_reducible repeat (first | refine blk_drewN ?_ _ | refine blk_drew ?_ | refine blk_alloc ?_ _)); exact BK528.out) Try.underlying41 rfl (by kernel_rfl)) rfl ?_
    exact ⟨_, er_, Kd.Q_of_R (kr_ (Kd.R_mono (Kd.R_far (p := ⟨gb528, 0, none⟩) (Kd.R_far (p := ⟨gb534, 0, none⟩) (Kd.R_types (Kd.R_types HO558.out BK534.out (by decide)) BK528.out (by decide)) (fun _ hk => hk.1.2) (.slice Ao56 y556.length co56)) (fun _ hk => hk.2) (.slice Ao56 y556.length co56)) (fun _ hk => trivial))), hi_ HI0.out, bl_ HB.out, kp_ HK.out⟩
   ·rw [if_neg c40] at H
    have c40b0 : (t535 == 2) = false := beq_eq_false_iff_ne.mpr c40
    have c40b1 : (t535 != 2) = true := bne_iff_ne.mpr c40
    simp only [Option.some.injEq, Prod.mk.injEq] at H
    obtain ⟨rfl, rfl, rfl⟩ := H
    go_enter Try.func91, Try.ntmps91
    go_wp2_with (first | ((with_reducible refine gate_dst (N := 2) rfl ?_); refine be_ 2 #[.slice none 0 0] 41 fun gb528 hg w60 hbox hb => ?_; replace HB := bs_ HB hb; have BK528 := Aside0.mk (hbox); have GW528 := Aside0.mk ((by rw [hg]; exact (keep_size (w := w) (g := g) (row := none) (kp_ HK.out)) : w.heap.size ≤ gb528)); have GE528 := Aside0.mk ((Nat.le_trans HW0.out (by rw [hg]; exact (keep_size (w := w) (g := g) (row := none) (kp_ HK.out)) : w.heap.size ≤ gb528) : w0.heap.size ≤ gb528)); replace HK := Aside0.mk (KeepBut.trans (kp_ HK.out) (KeepBut.of_below hb g none) (.inl rfl)); have NB0_528 := Aside0.mk ((by rw [hg]; exact Nat.ne_of_lt (IsS95.lt (show IsS95 w0 _ g s0_0 s0_1 s0_2 from hi_ HI0.out)) : g ≠ gb528)); have NB528_0 := Aside0.mk ((by rw [hg]; exact Nat.ne_of_gt (IsS95.lt (show IsS95 w0 _ g s0_0 s0_1 s0_2 from hi_ HI0.out)) : gb528 ≠ g)); replace HI0 := Aside0.mk (IsS95.below (hi_ HI0.out) hb); clear hb hbox hg) | ((with_reducible refine gate_callee (f := 132) rfl ?_); refine gl_ 5 Try.func132 #[.pointer (some ⟨g, 0, none⟩)] ?_; (with_reducible refine (spec_l3Draw.calls k g s0_0 s0_1 s0_2 t529 t532 t533 w0 _ ?side1 ?side2 A2.out).mono ?_); (case side1 => exact hi_ HI0.out); (case side2 => exact bl_ HB.out); rintro e w61 ⟨v530, rfl, ho0, hi, hb, hk⟩; refine ⟨_, rfl, ?_⟩; replace BK528 := Aside0.mk (KeepBut.blk hk (g' := gb528) (o := .cells #[.slice none 0 0] 41 (0, 0)) (bk_ BK528.out) NB528_0.out (by simp)); have HO531 := Aside0.mk (Kd.R_lower ho0 (keep_size (w := w) (g := g) (row := none) (kp_ HK.out))); replace HK := Aside0.mk (KeepBut.trans (kp_ HK.out) hk (.inl rfl)); replace HB := Aside0.mk (hb); replace HI0 := Aside0.mk (hi); (try clear hb); (try clear hb2); (try clear hk); (try clear hi); (try clear ho0)) | ((with_reducible refine gate_dst (N := 3) rfl ?_); refine be_ 3 #[.slice none 0 0] 41 fun gb534 hg w62 hbox hb => ?_; replace HO531 := rb_ HO531 hb; replace HB := bs_ HB hb; have BK534 := Aside0.mk (hbox); have GW534 := Aside0.mk ((by rw [hg]; exact (keep_size (w := w) (g := g) (row := none) (kp_ HK.out)) : w.heap.size ≤ gb534)); have GE534 := Aside0.mk ((Nat.le_trans HW0.out (by rw [hg]; exact (keep_size (w := w) (g := g) (row := none) (kp_ HK.out)) : w.heap.size ≤ gb534) : w0.heap.size ≤ gb534)); replace HK := Aside0.mk (KeepBut.trans (kp_ HK.out) (KeepBut.of_below hb g none) (.inl rfl)); have NB528_534 := nl_ hg BK528; have NB534_528 := ng_ hg BK528; replace BK528 := bb_ BK528 hb; have NB0_534 := Aside0.mk ((by rw [hg]; exact Nat.ne_of_lt (IsS95.lt (show IsS95 w0 _ g s0_0 t532 t533 from hi_ HI0.out)) : g ≠ gb534)); have NB534_0 := Aside0.mk ((by rw [hg]; exact Nat.ne_of_gt (IsS95.lt (show IsS95 w0 _ g s0_0 t532 t533 from hi_ HI0.out)) : gb534 ≠ g)); replace HI0 := Aside0.mk (IsS95.below (hi_ HI0.out) hb); clear hb hbox hg; obtain ⟨Ao63, co63, eo63⟩ := Kd.R_slice HO531.out; subst eo63; have hnb64 := NB534_528.out; have hnc64 := NB528_534.out; have hnb65 := NB534_0.out; have hnc65 := NB0_534.out; have hcz66_0 := bc_ BK534; have hfz66_0 := blk_frozen BK534.out 0) | ((with_reducible refine gate_callee (f := 82) rfl ?_); refine gl_ 7 Try.func82 #[.pointer (some ⟨g, 0, none⟩), .int .i64 12] ?_; (with_reducible refine (spec_l1Below.calls g s0_0 t532 t533 12 t535 t536 t537 w0 _ ?side1 ?side2 A3.out).mono ?_); (case side1 => exact hi_ HI0.out); (case side2 => exact bl_ HB.out); rintro e w67 ⟨rfl, hi, hb, hk⟩; refine ⟨_, rfl, ?_⟩; replace BK528 := Aside0.mk (KeepBut.blk hk (g' := gb528) (o := .cells #[.slice none 0 0] 41 (0, 0)) (bf_ BK528.out) NB528_0.out (by simp)); replace HO531 := Aside0.mk (Kd.R_mono (Kd.R_keep (IsS95.apart (show IsS95 w0 _ g s0_0 t532 t533 from hi_ HI0.out) (kr_ ((Kd.R_mono (Kd.R_far (p := ⟨gb534, 0, none⟩) (Kd.R_types HO531.out BK534.out (by decide)) (fun _ hk => hk.2) (.slice Ao63 t529.length co63)) (fun _ h_ => h_.1)))) (by decide)) hk (fun _ h => h.2)) (fun _ h => h.1)); replace BK534 := Aside0.mk (KeepBut.blk hk (g' := gb534) (o := .cells #[.slice Ao63 t529.length co63] 41 (0, 0)) (by (with_reducible repeat (first | refine blk_drewN ?_ _ | refine blk_drew ?_ | refine blk_alloc ?_ _)); refine blk_put (cs := #[.slice none 0 0]) ?_ 0 _ rfl; (with_reducible repeat (first | refine blk_drewN ?_ _ | refine blk_drew ?_ | refine blk_alloc ?_ _)); exact BK534.out) NB534_0.out (by simp)); replace HK := Aside0.mk (KeepBut.trans (kp_ HK.out) hk (.inl rfl)); replace HB := Aside0.mk (hb); replace HI0 := Aside0.mk (hi); (try clear hb); (try clear hb2); (try clear hk); (try clear hi); have hcz68_0 := bc_ BK534; have hfz68_0 := blk_frozen BK534.out 0; have hnb69 := NB528_0.out; have hnc69 := NB0_528.out; have hcz70_0 := bc_ BK528; have hfz70_0 := blk_frozen BK528.out 0))
    refine bodyPost_ret (results_cell_row rfl _ _ gb528 41 #[.slice Ao63 t529.length co63] (0, 0) _ rfl (by (with_reducible repeat (first | refine blk_drewN ?_ _ | refine blk_drew ?_ | refine blk_alloc ?_ _)); refine blk_put (cs := #[.slice none 0 0]) ?_ 0 _ rfl; (with_reducible repeat (first | refine blk_drewN ?_ _ | refine blk_drew ?_ | refine blk_alloc ?_ _)); exact BK528.out) Try.underlying41 rfl (by kernel_rfl)) rfl ?_
    exact ⟨_, er_, Kd.Q_of_R (kr_ (Kd.R_mono (Kd.R_far (p := ⟨gb528, 0, none⟩) (Kd.R_types HO531.out BK528.out (by decide)) (fun _ hk => hk.2) (.slice Ao63 t529.length co63)) (fun _ hk => trivial))), hi_ HI0.out, bl_ HB.out, kp_ HK.out⟩
def spec_SplitByte.l0 : Nat → ByteArray → Int → List ByteArray → Int → Int → Option (List ByteArray)
 | 0, _, _, _, _, _ => none
 | k + 1, x0, x1, x5, x6, x7 => if x7 ≤ (x0.size : Int) then (if x7 = (x0.size : Int) then (if 0 ≤ x6 then (if x6 ≤ x7 then (if x5.length < 8796093022208 then (spec_SplitByte.l0 k x0 x1 (x5 ++ [x0.extract (x6 : Int).toNat (x7 : Int).toNat]) (wrap64 (x7 + 1)) (wrap64 (x7 + 1))) else (none)) else (none)) else (none)) else (if 0 ≤ x7 then (if x7 < (x0.size : Int) then (if (bt x0 x7) = x1 then (if 0 ≤ x6 then (if x6 ≤ x7 then (if x5.length < 8796093022208 then (spec_SplitByte.l0 k x0 x1 (x5 ++ [x0.extract (x6 : Int).toNat (x7 : Int).toNat]) (wrap64 (x7 + 1)) (wrap64 (x7 + 1))) else (none)) else (none)) else (none)) else (spec_SplitByte.l0 k x0 x1 x5 x6 (wrap64 (x7 + 1)))) else (none)) else (none))) else (some x5)
def spec_SplitByte.f (k : Nat) (a0 : ByteArray) (a1 : Int) : Option (List ByteArray) := spec_SplitByte.l0 k a0 a1 (([] : List ByteArray)) 0 0
theorem spec_SplitByte.calls (k : Nat) (a0 : ByteArray) (a1 : Int) (r : List ByteArray) (w : World) (h : spec_SplitByte.f k a0 a1 = some r) :
 Calls Try.prog 162 #[.string a0, .int .u8 a1] w fun e w' => ∃ v0_ : Value, e = .returned (v0_) ∧ Kd.R Kd.string 9 w' w.heap.size (fun _ => True) v0_ r ∧ Below w.heap.size w w' := by
 have HB := Aside0.mk (Below.refl w.heap.size w)
 have H := h
 clear h
 unfold spec_SplitByte.f at H
 obtain ⟨y559, hy559⟩ : ∃ y_ : List ByteArray, y_ = (([] : List ByteArray)) := ⟨_, rfl⟩
 replace H : (spec_SplitByte.l0 k a0 a1 y559 0 0) = some r := hr_ hy559 H
 have Ny559 := Aside0.mk hy559
 clear hy559
 have H' := Aside0.mk H
 clear H
 go_enter Try.func162, Try.ntmps162
 go_wp2_with (first | ((with_reducible refine gate_dst (N := 8) rfl ?_); refine Kd.R_lit Kd.string _ 9 ?hg (N := 8) ?hd (xs := ([] : List ByteArray)) (inner := []) (ok := fun _ => True) (okp := fun _ => True) ?hr ?hp (fun _ hk => hk) trivial (Below.refl _ _) (Nat.le_refl _) (by simp) ?_; (case hd => rfl); (case hg => rfl); (case hr => first | (go_simp; done) | (go_simp; rfl)); (case hp => exact (Reps.none _ _)); intro v560 w3 ho4 hb hg_ hnew_; clear hg_ hnew_; (first | rw [← Ny559.out] at ho4 | (simp only [Int.reduceToNat] at ho4; rw [← Ny559.out] at ho4)); have HO561 := rl_ ho4 HB; replace HB := bs_ HB hb; clear hb ho4))
 go_loopg [5, 6, 7] k (fun kq v5 v6 v7 w' => ∃ (x5_1 : List ByteArray) (x6_1 : Int) (x7_1 : Int), v6 = .int .i64 x6_1 ∧ v7 = .int .i64 x7_1 ∧ Aside0 (spec_SplitByte.l0 kq a0 a1 x5_1 x6_1 x7_1 = some r) ∧ Aside0 (kq ≤ k) ∧ Aside0 (Kd.R Kd.string 9 w' w.heap.size (fun _ => True) v5 x5_1) ∧ Aside0 (Below w.heap.size w w'))
 case atStart => exact ⟨(y559), (0), (0), sd_, sd_, H', ⟨Nat.le_refl _⟩, ⟨kr_ HO561.out⟩, ⟨bl_ HB.out⟩⟩
 case round =>
  clear H'
  try clear c1
  try clear p2
  obtain ⟨x5_1, x6_1, x7_1, rfl, rfl, HA, HK1, HO_5, HB⟩ := hrel
  cases gk with
  | zero => exact absurd HA.out (by simp [spec_SplitByte.l0])
  | succ k1 =>
   have H := HA.out
   clear HA
   simp only [spec_SplitByte.l0] at H
   by_cases c5 : x7_1 ≤ (a0.size : Int)
   ·rw [if_pos c5] at H
    have c5b0 : decide (x7_1 ≤ (a0.size : Int)) = true := decide_eq_true c5
    clear c5
    by_cases c6 : x7_1 = (a0.size : Int)
    ·rw [if_pos c6] at H
     have c6b0 : (x7_1 == (a0.size : Int)) = true := beq_iff_eq.mpr c6
     have c6b1 : (x7_1 != (a0.size : Int)) = false := bne_eq_false_iff_eq.mpr c6
     clear c6
     by_cases c7 : 0 ≤ x6_1
     ·rw [if_pos c7] at H
      have c7b0 := eq_true c7
      have c7b1 : decide (0 ≤ x6_1) = true := decide_eq_true c7
      clear c7
      by_cases c8 : x6_1 ≤ x7_1
      ·rw [if_pos c8] at H
       have c8b0 := eq_true c8
       have c8b1 : decide (x6_1 ≤ x7_1) = true := decide_eq_true c8
       clear c8
       have c9b0 := eq_true (od_ : x7_1 ≤ (a0.size : Int))
       by_cases c10 : x5_1.length < 8796093022208
       ·rw [if_pos c10] at H
        have LMc10 := Aside0.mk c10
        clear c10
        obtain ⟨y562, hy562⟩ : ∃ y_ : List ByteArray, y_ = (x5_1 ++ [a0.extract (x6_1 : Int).toNat (x7_1 : Int).toNat]) := ⟨_, rfl⟩
        replace H : (spec_SplitByte.l0 k1 a0 a1 y562 (wrap64 (x7_1 + 1)) (wrap64 (x7_1 + 1))) = some r := hr_ hy562 H
        have Ny562 := Aside0.mk hy562
        clear hy562
        have H' := Aside0.mk H
        clear H
        go_wp2_with (first | ((with_reducible refine gate_builtin (b := .append) (xs := #[.tmp 26, .tmp 31]) rfl ?_); at_builtin; refine Kd.R_append Kd.string (w0 := w) w.heap.size rfl (.tmp 26) (.tmp 31) 104 9 (.string ⟨#[]⟩) 16 rfl Try.underlying104 info9 rfl (by decide) (by omega) u5 x5_1 (a0.extract (x6_1 : Int).toNat (x7_1 : Int).toNat) [.string (a0.extract (x6_1 : Int).toNat (x7_1 : Int).toNat)] (fun _ => True) (fun _ => False) rfl rfl ?aP (fun _ hk => hk.elim) ?aF ?aO ?aB ?aS ?aL ?_; (case aP => exact rfl); (case aB => exact (bl_ HB.out)); (case aF => exact (fun _ _ => trivial)); (case aO => exact (kr_ HO_5.out)); (case aS => exact (below_size (bl_ HB.out))); (case aL => have := LMc10.out; omega); intro v563 w11 ho hb hg hat; rw [← Ny562.out] at ho; have n0_ := Aside0.mk (hb); have n1_ := Aside0.mk (ho); clear HB; clear HO_5; have HB := n0_; have HO564 := n1_; clear n0_ n1_; clear ho hb hg hat))
        go_roundg k1
        case measure => have := HK1.out; omega
        case rel => exact ⟨(y562), (wrap64 (x7_1 + 1)), (wrap64 (x7_1 + 1)), sd_, sd_, H', ⟨by have := HK1.out; omega⟩, ⟨kr_ HO564.out⟩, ⟨bl_ HB.out⟩⟩
       ·rw [if_neg c10] at H
        exact absurd H (by simp)
      ·rw [if_neg c8] at H
       exact absurd H (by simp)
     ·rw [if_neg c7] at H
      exact absurd H (by simp)
    ·rw [if_neg c6] at H
     have c6b0 : (x7_1 == (a0.size : Int)) = false := beq_eq_false_iff_ne.mpr c6
     have c6b1 : (x7_1 != (a0.size : Int)) = true := bne_iff_ne.mpr c6
     by_cases c12 : 0 ≤ x7_1
     ·rw [if_pos c12] at H
      have c12b0 : decide (0 ≤ x7_1) = true := decide_eq_true c12
      clear c12
      by_cases c13 : x7_1 < (a0.size : Int)
      ·rw [if_pos c13] at H
       have c13b0 : decide (x7_1 < (a0.size : Int)) = true := decide_eq_true c13
       clear c13
       by_cases c15 : (bt a0 x7_1) = a1
       ·rw [if_pos c15] at H
        have c15b0 : ((bt a0 x7_1) == a1) = true := beq_iff_eq.mpr c15
        have c15b1 : ((bt a0 x7_1) != a1) = false := bne_eq_false_iff_eq.mpr c15
        clear c15
        by_cases c16 : 0 ≤ x6_1
        ·rw [if_pos c16] at H
         have c16b0 := eq_true c16
         have c16b1 : decide (0 ≤ x6_1) = true := decide_eq_true c16
         clear c16
         by_cases c17 : x6_1 ≤ x7_1
         ·rw [if_pos c17] at H
          have c17b0 := eq_true c17
          have c17b1 : decide (x6_1 ≤ x7_1) = true := decide_eq_true c17
          clear c17
          have c18b0 := eq_true (od_ : x7_1 ≤ (a0.size : Int))
          by_cases c19 : x5_1.length < 8796093022208
          ·rw [if_pos c19] at H
           have LMc19 := Aside0.mk c19
           clear c19
           obtain ⟨y565, hy565⟩ : ∃ y_ : List ByteArray, y_ = (x5_1 ++ [a0.extract (x6_1 : Int).toNat (x7_1 : Int).toNat]) := ⟨_, rfl⟩
           replace H : (spec_SplitByte.l0 k1 a0 a1 y565 (wrap64 (x7_1 + 1)) (wrap64 (x7_1 + 1))) = some r := hr_ hy565 H
           have Ny565 := Aside0.mk hy565
           clear hy565
           have H' := Aside0.mk H
           clear H
           have p14 : 0 ≤ (x7_1 : Int) := od_
           have q14 : x7_1 < (a0.size : Int) := od_
           have hx14 := bt_at a0 x7_1
           replace p14 := eq_true p14
           replace q14 := eq_true q14
           go_wp2_with (first | ((with_reducible refine gate_builtin (b := .append) (xs := #[.tmp 26, .tmp 31]) rfl ?_); at_builtin; refine Kd.R_append Kd.string (w0 := w) w.heap.size rfl (.tmp 26) (.tmp 31) 104 9 (.string ⟨#[]⟩) 16 rfl Try.underlying104 info9 rfl (by decide) (by omega) u5 x5_1 (a0.extract (x6_1 : Int).toNat (x7_1 : Int).toNat) [.string (a0.extract (x6_1 : Int).toNat (x7_1 : Int).toNat)] (fun _ => True) (fun _ => False) rfl rfl ?aP (fun _ hk => hk.elim) ?aF ?aO ?aB ?aS ?aL ?_; (case aP => exact rfl); (case aB => exact (bl_ HB.out)); (case aF => exact (fun _ _ => trivial)); (case aO => exact (kr_ HO_5.out)); (case aS => exact (below_size (bl_ HB.out))); (case aL => have := LMc19.out; omega); intro v566 w20 ho hb hg hat; rw [← Ny565.out] at ho; have n0_ := Aside0.mk (hb); have n1_ := Aside0.mk (ho); clear HB; clear HO_5; have HB := n0_; have HO567 := n1_; clear n0_ n1_; clear ho hb hg hat))
           go_roundg k1
           case measure => have := HK1.out; omega
           case rel => exact ⟨(y565), (wrap64 (x7_1 + 1)), (wrap64 (x7_1 + 1)), sd_, sd_, H', ⟨by have := HK1.out; omega⟩, ⟨kr_ HO567.out⟩, ⟨bl_ HB.out⟩⟩
          ·rw [if_neg c19] at H
           exact absurd H (by simp)
         ·rw [if_neg c17] at H
          exact absurd H (by simp)
        ·rw [if_neg c16] at H
         exact absurd H (by simp)
       ·rw [if_neg c15] at H
        have c15b0 : ((bt a0 x7_1) == a1) = false := beq_eq_false_iff_ne.mpr c15
        have c15b1 : ((bt a0 x7_1) != a1) = true := bne_iff_ne.mpr c15
        have H' := Aside0.mk H
        clear H
        have p14 : 0 ≤ (x7_1 : Int) := od_
        have q14 : x7_1 < (a0.size : Int) := od_
        have hx14 := bt_at a0 x7_1
        replace p14 := eq_true p14
        replace q14 := eq_true q14
        go_wp2
        go_roundg k1
        case measure => have := HK1.out; omega
        case rel => exact ⟨(x5_1), (x6_1), (wrap64 (x7_1 + 1)), sd_, sd_, H', ⟨by have := HK1.out; omega⟩, ⟨kr_ HO_5.out⟩, ⟨bl_ HB.out⟩⟩
      ·rw [if_neg c13] at H
       exact absurd H (by simp)
     ·rw [if_neg c12] at H
      exact absurd H (by simp)
   ·rw [if_neg c5] at H
    have c5b0 : decide (x7_1 ≤ (a0.size : Int)) = false := decide_eq_false c5
    clear c5
    obtain rfl := Option.some.inj H
    go_wp2
    go_ret
    exact ⟨_, er_, kr_ HO_5.out, bl_ HB.out⟩
def spec_FormatInt.l0 : Nat → Int → Bool → ByteArray → Option (ByteArray)
 | 0, _, _, _ => none
 | k + 1, x0, x3, x4 => if x0 = 0 then (if x3 = true then (if 1 + x4.size ≤ 9223372036854775807 then (some ((⟨#[45]⟩ : ByteArray) ++ x4)) else (none)) else (some x4)) else (if (Int.tmod x0 10) < 0 then ((some (([(wrap64 (48 + (wrap64 (-(Int.tmod x0 10))))) % 256] : List Int) : List Int)).bind fun y568 => (if (strOfNums y568).size + x4.size ≤ 9223372036854775807 then (spec_FormatInt.l0 k (wrap64 (Int.tdiv x0 10)) x3 ((strOfNums y568) ++ x4)) else (none))) else ((some (([(wrap64 (48 + (Int.tmod x0 10))) % 256] : List Int) : List Int)).bind fun y571 => (if (strOfNums y571).size + x4.size ≤ 9223372036854775807 then (spec_FormatInt.l0 k (wrap64 (Int.tdiv x0 10)) x3 ((strOfNums y571) ++ x4)) else (none))))
def spec_FormatInt.f (k : Nat) (a0 : Int) : Option (ByteArray) := if a0 = 0 then (some (⟨#[48]⟩ : ByteArray)) else (spec_FormatInt.l0 k a0 (decide (a0 < 0)) (⟨#[]⟩ : ByteArray))
theorem spec_FormatInt.calls (k : Nat) (a0 : Int) (r : ByteArray) (w : World) (h : spec_FormatInt.f k a0 = some r) :
 Calls Try.prog 177 #[.int .i64 a0] w fun e w' => e = .returned (.string r) ∧ Below w.heap.size w w' := by
 have HB := Aside0.mk (Below.refl w.heap.size w)
 have H := h
 clear h
 unfold spec_FormatInt.f at H
 by_cases c2 : a0 = 0
 ·rw [if_pos c2] at H
  have c2b0 : (a0 == 0) = true := beq_iff_eq.mpr c2
  have c2b1 : (a0 != 0) = false := bne_eq_false_iff_eq.mpr c2
  clear c2
  obtain rfl := Option.some.inj H
  go_enter Try.func177, Try.ntmps177
  go_wp2
  go_ret
  exact ⟨er_, bl_ HB.out⟩
 ·rw [if_neg c2] at H
  have c2b0 : (a0 == 0) = false := beq_eq_false_iff_ne.mpr c2
  have c2b1 : (a0 != 0) = true := bne_iff_ne.mpr c2
  have H' := Aside0.mk H
  clear H
  go_enter Try.func177, Try.ntmps177
  go_wp2
  go_loopg [0, 4] k (fun kq v0 v4 w' => ∃ (x0_1 : Int) (x4_1 : ByteArray), v0 = .int .i64 x0_1 ∧ v4 = .string x4_1 ∧ Aside0 (spec_FormatInt.l0 kq x0_1 (decide (a0 < 0)) x4_1 = some r) ∧ Aside0 (kq ≤ k) ∧ Aside0 (Below w.heap.size w w'))
  case atStart => exact ⟨(a0), ((⟨#[]⟩ : ByteArray)), sd_, sd_, H', ⟨Nat.le_refl _⟩, ⟨bl_ HB.out⟩⟩
  case round =>
   clear H'
   try clear c1
   try clear c2
   try clear c2b0
   try clear c2b1
   try clear p2
   obtain ⟨x0_1, x4_1, rfl, rfl, HA, HK1, HB⟩ := hrel
   cases gk with
   | zero => exact absurd HA.out (by simp [spec_FormatInt.l0])
   | succ k1 =>
    have H := HA.out
    clear HA
    simp only [spec_FormatInt.l0] at H
    by_cases c3 : x0_1 = 0
    ·rw [if_pos c3] at H
     have c3b0 : (x0_1 == 0) = true := beq_iff_eq.mpr c3
     have c3b1 : (x0_1 != 0) = false := bne_eq_false_iff_eq.mpr c3
     clear c3
     by_cases c4 : (decide (a0 < 0)) = true
     ·rw [if_pos c4] at H
      have c4b0 : (decide (a0 < 0)) = true := c4
      (try have c4b0t := of_decide_eq_true c4b0)
      clear c4
      by_cases c5 : 1 + x4_1.size ≤ 9223372036854775807
      ·rw [if_pos c5] at H
       have c5b0 := eq_true c5
       have c5b1 : decide (1 + x4_1.size ≤ 9223372036854775807) = true := decide_eq_true c5
       try have c5b2 : (9223372036854775807 < 1 + x4_1.size) = False := eq_false (Nat.not_lt.2 c5)
       obtain rfl := Option.some.inj H
       go_wp2
       go_ret
       exact ⟨er_, bl_ HB.out⟩
      ·rw [if_neg c5] at H
       exact absurd H (by simp)
     ·rw [if_neg c4] at H
      have c4b0 : (decide (a0 < 0)) = false := by simpa using c4
      (try have c4b0t := of_decide_eq_false c4b0)
      clear c4
      obtain rfl := Option.some.inj H
      go_wp2
      go_ret
      exact ⟨er_, bl_ HB.out⟩
    ·rw [if_neg c3] at H
     have c3b0 : (x0_1 == 0) = false := beq_eq_false_iff_ne.mpr c3
     have c3b1 : (x0_1 != 0) = true := bne_iff_ne.mpr c3
     by_cases c6 : (Int.tmod x0_1 10) < 0
     ·rw [if_pos c6] at H
      have c6b0 : decide ((Int.tmod x0_1 10) < 0) = true := decide_eq_true c6
      clear c6
      obtain ⟨y568, hy568⟩ : ∃ y_ : List Int, y_ = (([(wrap64 (48 + (wrap64 (-(Int.tmod x0_1 10))))) % 256] : List Int)) := ⟨_, rfl⟩
      replace H : (if (strOfNums y568).size + x4_1.size ≤ 9223372036854775807 then (spec_FormatInt.l0 k1 (wrap64 (Int.tdiv x0_1 10)) (decide (a0 < 0)) ((strOfNums y568) ++ x4_1)) else (none)) = some r := hr_ hy568 H
      have Ny568 := Aside0.mk hy568
      clear hy568
      by_cases c7 : (strOfNums y568).size + x4_1.size ≤ 9223372036854775807
      ·rw [if_pos c7] at H
       have c7b0 := eq_true c7
       have c7b1 : decide ((strOfNums y568).size + x4_1.size ≤ 9223372036854775807) = true := decide_eq_true c7
       try have c7b2 : (9223372036854775807 < (strOfNums y568).size + x4_1.size) = False := eq_false (Nat.not_lt.2 c7)
       have H' := Aside0.mk H
       clear H
       go_wp2_with (first | ((with_reducible refine gate_dst (N := 21) rfl ?_); refine Kd.R_lit (Kd.int .u8) _ 5 ?hg (N := 21) ?hd (xs := ([(wrap64 (48 + (wrap64 (-(Int.tmod x0_1 10))))) % 256] : List Int)) (inner := [.int .u8 ((wrap64 (48 + (wrap64 (-(Int.tmod x0_1 10))))) % 256)]) (ok := fun _ => True) (okp := fun _ => True) ?hr ?hp (fun _ hk => hk) trivial (Below.refl _ _) (Nat.le_refl _) (by simp) ?_; (case hd => rfl); (case hg => rfl); (case hr => first | (go_simp; done) | (go_simp; rfl)); (case hp => exact (Reps.one (show Kd.M (Kd.int .u8) _ _ _ ((wrap64 (48 + (wrap64 (-(Int.tmod x0_1 10))))) % 256) [.int .u8 ((wrap64 (48 + (wrap64 (-(Int.tmod x0_1 10))))) % 256)] from rfl) (Reps.none _ _))); intro v569 w8 ho9 hb hg_ hnew_; clear hg_ hnew_; (first | rw [← Ny568.out] at ho9 | (simp only [Int.reduceToNat] at ho9; rw [← Ny568.out] at ho9)); have HO570 := rl_ ho9 HB; replace HB := bs_ HB hb; clear hb ho9; have hcv10 := own_string (P := Try.prog) Try.underlying28 Try.underlying5 Try.underlying9 (Kd.own_of_R HO570.out)))
       go_roundg k1
       case measure => have := HK1.out; omega
       case rel => exact ⟨(wrap64 (Int.tdiv x0_1 10)), ((strOfNums y568) ++ x4_1), sd_, sd_, H', ⟨by have := HK1.out; omega⟩, ⟨bl_ HB.out⟩⟩
      ·rw [if_neg c7] at H
       exact absurd H (by simp)
     ·rw [if_neg c6] at H
      have c6b0 : decide ((Int.tmod x0_1 10) < 0) = false := decide_eq_false c6
      clear c6
      obtain ⟨y571, hy571⟩ : ∃ y_ : List Int, y_ = (([(wrap64 (48 + (Int.tmod x0_1 10))) % 256] : List Int)) := ⟨_, rfl⟩
      replace H : (if (strOfNums y571).size + x4_1.size ≤ 9223372036854775807 then (spec_FormatInt.l0 k1 (wrap64 (Int.tdiv x0_1 10)) (decide (a0 < 0)) ((strOfNums y571) ++ x4_1)) else (none)) = some r := hr_ hy571 H
      have Ny571 := Aside0.mk hy571
      clear hy571
      by_cases c11 : (strOfNums y571).size + x4_1.size ≤ 9223372036854775807
      ·rw [if_pos c11] at H
       have c11b0 := eq_true c11
       have c11b1 : decide ((strOfNums y571).size + x4_1.size ≤ 9223372036854775807) = true := decide_eq_true c11
       try have c11b2 : (9223372036854775807 < (strOfNums y571).size + x4_1.size) = False := eq_false (Nat.not_lt.2 c11)
       have H' := Aside0.mk H
       clear H
       go_wp2_with (first | ((with_reducible refine gate_dst (N := 21) rfl ?_); refine Kd.R_lit (Kd.int .u8) _ 5 ?hg (N := 21) ?hd (xs := ([(wrap64 (48 + (Int.tmod x0_1 10))) % 256] : List Int)) (inner := [.int .u8 ((wrap64 (48 + (Int.tmod x0_1 10))) % 256)]) (ok := fun _ => True) (okp := fun _ => True) ?hr ?hp (fun _ hk => hk) trivial (Below.refl _ _) (Nat.le_refl _) (by simp) ?_; (case hd => rfl); (case hg => rfl); (case hr => first | (go_simp; done) | (go_simp; rfl)); (case hp => exact (Reps.one (show Kd.M (Kd.int .u8) _ _ _ ((wrap64 (48 + (Int.tmod x0_1 10))) % 256) [.int .u8 ((wrap64 (48 + (Int.tmod x0_1 10))) % 256)] from rfl) (Reps.none _ _))); intro v572 w12 ho13 hb hg_ hnew_; clear hg_ hnew_; (first | rw [← Ny571.out] at ho13 | (simp only [Int.reduceToNat] at ho13; rw [← Ny571.out] at ho13)); have HO573 := rl_ ho13 HB; replace HB := bs_ HB hb; clear hb ho13; have hcv14 := own_string (P := Try.prog) Try.underlying28 Try.underlying5 Try.underlying9 (Kd.own_of_R HO573.out)))
       go_roundg k1
       case measure => have := HK1.out; omega
       case rel => exact ⟨(wrap64 (Int.tdiv x0_1 10)), ((strOfNums y571) ++ x4_1), sd_, sd_, H', ⟨by have := HK1.out; omega⟩, ⟨bl_ HB.out⟩⟩
      ·rw [if_neg c11] at H
       exact absurd H (by simp)
mutual
def spec_l1Read.j0 : Nat → ByteArray → Int → Bool → Option (Int × Bool)
 | 0, _, _, _ => none
 | k + 1, x0, x1, x6 => if x6 = true then (if 1 ≤ (x0.size : Int) then (spec_l1Read.j1 k x0 x1 x6 (x0.extract 1 x0.size)) else (none)) else (spec_l1Read.j1 k x0 x1 x6 x0)
def spec_l1Read.j1 : Nat → ByteArray → Int → Bool → ByteArray → Option (Int × Bool)
 | 0, _, _, _, _ => none
 | k + 1, x0, x1, x6, x7 => if (x7.size : Int) < 1 then (spec_l1Read.j2 k x0 x6 x7 true) else (spec_l1Read.j2 k x0 x6 x7 (decide ((x7.size : Int) > x1)))
def spec_l1Read.j2 : Nat → ByteArray → Bool → ByteArray → Bool → Option (Int × Bool)
 | 0, _, _, _, _ => none
 | k + 1, x0, x6, x7, x30 => if x30 = true then (some (0, false)) else (spec_l1Read.l0 k x0 x6 x7 0 0)
def spec_l1Read.l0 : Nat → ByteArray → Bool → ByteArray → Int → Int → Option (Int × Bool)
 | 0, _, _, _, _, _ => none
 | k + 1, x0, x6, x7, x8, x9 => if x9 < (x7.size : Int) then (if 0 ≤ x9 then (if (bt x7 x9) < 48 then (some (0, false)) else (if (bt x7 x9) > 57 then (some (0, false)) else (spec_l1Read.l0 k x0 x6 x7 (wrap64 ((wrap64 (10 * x8)) + (((bt x7 x9) - 48) % 256))) (wrap64 (x9 + 1))))) else (none)) else (if x6 = true then ((spec_FormatInt.f k (wrap64 (-x8))).bind fun t574 => (if t574.toList = x0.toList then (some (wrap64 (-x8), true)) else (some (0, false)))) else ((spec_FormatInt.f k x8).bind fun t575 => (if t575.toList = x0.toList then (some (x8, true)) else (some (0, false)))))
end
def spec_l1Read.f (k : Nat) (a0 : ByteArray) (a1 : Int) : Option (Int × Bool) := if (a0.size : Int) > 0 then (if 0 < (a0.size : Int) then (spec_l1Read.j0 k a0 a1 ((bt a0 0) == 45)) else (none)) else (spec_l1Read.j0 k a0 a1 false)
theorem spec_l1Read.calls (k : Nat) (a0 : ByteArray) (a1 : Int) (r1 : Int) (r2 : Bool) (w : World) (h : spec_l1Read.f k a0 a1 = some (r1, r2)) :
 Calls Try.prog 176 #[.string a0, .int .i64 a1] w fun e w' => e = .returned (.tuple #[.int .i64 r1, .bool r2]) ∧ Below w.heap.size w w' := by
 have HB := Aside0.mk (Below.refl w.heap.size w)
 have H := h
 clear h
 unfold spec_l1Read.f at H
 have HC3 := Aside0.mk H
 clear H
 go_enter Try.func176, Try.ntmps176
 go_upto_region 1 with (fail)
 go_cut [6] (fun v6 wc => ∃ (kq : Nat) (x6_2 : Bool), v6 = .bool x6_2 ∧ Aside0 (spec_l1Read.j0 kq a0 a1 x6_2 = some (r1, r2)) ∧ Aside0 (kq ≤ k) ∧ Aside0 (Below w.heap.size w wc))
 case first =>
  have H := HC3.out
  clear HC3
  by_cases c4 : (a0.size : Int) > 0
  ·rw [if_pos c4] at H
   have c4b0 : decide (0 < (a0.size : Int)) = true := decide_eq_true c4
   have c4b1 : decide (0 < a0.size) = true := decide_eq_true (by omega)
   clear c4
   (first | rw [c4b0] | (simp only [i64_w, i32_w]; rw [c4b0]) | skip)
   by_cases c5 : 0 < (a0.size : Int)
   ·rw [if_pos c5] at H
    have c5b0 : decide (0 < (a0.size : Int)) = true := decide_eq_true c5
    have c5b1 : decide (0 < a0.size) = true := decide_eq_true (by omega)
    clear c5
    have H' := Aside0.mk H
    clear H
    have p6 : 0 ≤ (0 : Int) := (by omega)
    have q6 : 0 < a0.size := (by have : (0 : Int) < (a0.size : Int) := od_; omega)
    have hx6 : ∀ h : 0 < a0.size, ((a0[0]'h).toNat : Int) = bt a0 0 := bt_at a0 0
    clear p6
    have qi6 : (0 < (a0.size : Int)) = True := eq_true (od_)
    replace q6 := eq_true q6
    go_wp2
    go_meet
    case rel => exact ⟨_, (((bt a0 0) == 45)), sd_, H', ⟨le_⟩, ⟨bl_ HB.out⟩⟩
   ·rw [if_neg c5] at H
    exact absurd H (by simp)
  ·rw [if_neg c4] at H
   have c4b0 : decide (0 < (a0.size : Int)) = false := decide_eq_false c4
   have c4b1 : decide (0 < a0.size) = false := decide_eq_false (by omega)
   clear c4
   (first | rw [c4b0] | (simp only [i64_w, i32_w]; rw [c4b0]) | skip)
   have H' := Aside0.mk H
   clear H
   go_wp2
   go_meet
   case rel => exact ⟨_, (false), sd_, H', ⟨le_⟩, ⟨bl_ HB.out⟩⟩
 case rest =>
  clear HC3
  try clear c1
  try clear p2
  try clear c4
  try clear c4b0
  try clear c4b1
  try clear c5
  try clear c5b0
  try clear c5b1
  try clear p6
  try clear q6
  try clear hx6
  try clear qi6
  try clear p6
  try clear q6
  obtain ⟨kq, x6_2, rfl, HA, HJ2, HB⟩ := hcut
  cases kq with
  | zero => exact absurd HA.out (by simp [spec_l1Read.j0])
  | succ kj2 =>
   have H := HA.out
   clear HA
   simp only [spec_l1Read.j0] at H
   have HC7 := Aside0.mk H
   clear H
   go_upto_if 19 with (fail)
   go_cut [7] (fun v7 wc => ∃ (kq : Nat) (x7_6 : ByteArray), v7 = .string x7_6 ∧ Aside0 (spec_l1Read.j1 kq a0 a1 x6_2 x7_6 = some (r1, r2)) ∧ Aside0 (kq ≤ kj2) ∧ Aside0 (Below w.heap.size w wc))
   case first =>
    have H := HC7.out
    clear HC7
    by_cases c8 : x6_2 = true
    ·subst c8
     rw [if_pos rfl] at H
     by_cases c9 : 1 ≤ (a0.size : Int)
     ·rw [if_pos c9] at H
      have c9b0 := eq_true c9
      have c9b1 : decide (1 ≤ (a0.size : Int)) = true := decide_eq_true c9
      clear c9
      have H' := Aside0.mk H
      clear H
      go_wp2
      go_meet
      case rel => exact ⟨_, (a0.extract 1 a0.size), sd_, H', ⟨by have := HJ2.out; first | omega | exact Nat.le_refl _⟩, ⟨bl_ HB.out⟩⟩
     ·rw [if_neg c9] at H
      exact absurd H (by simp)
    ·obtain rfl := Bool.eq_false_iff.mpr c8
     rw [if_neg nf_] at H
     have H' := Aside0.mk H
     clear H
     go_wp2
     go_meet
     case rel => exact ⟨_, (a0), sd_, H', ⟨by have := HJ2.out; first | omega | exact Nat.le_refl _⟩, ⟨bl_ HB.out⟩⟩
   case rest =>
    clear HC7
    try clear c1
    try clear p2
    try clear c4
    try clear c4b0
    try clear c4b1
    try clear c5
    try clear c5b0
    try clear c5b1
    try clear p6
    try clear q6
    try clear hx6
    try clear qi6
    try clear c8
    try clear c9
    try clear c9b0
    try clear c9b1
    try clear p2
    try clear p6
    try clear q6
    obtain ⟨kq, x7_6, rfl, HA, HJ6, HB⟩ := hcut
    cases kq with
    | zero => exact absurd HA.out (by simp [spec_l1Read.j1])
    | succ kj6 =>
     have H := HA.out
     clear HA
     simp only [spec_l1Read.j1] at H
     have HC10 := Aside0.mk H
     clear H
     go_upto_region 5 with (fail)
     go_cut [30] (fun v30 wc => ∃ (kq : Nat) (x30_9 : Bool), v30 = .bool x30_9 ∧ Aside0 (spec_l1Read.j2 kq a0 x6_2 x7_6 x30_9 = some (r1, r2)) ∧ Aside0 (kq ≤ kj6) ∧ Aside0 (Below w.heap.size w wc))
     case first =>
      have H := HC10.out
      clear HC10
      by_cases c11 : (x7_6.size : Int) < 1
      ·rw [if_pos c11] at H
       have c11b0 : decide ((x7_6.size : Int) < 1) = true := decide_eq_true c11
       have c11b1 : decide (x7_6.size < 1) = true := decide_eq_true (by omega)
       clear c11
       (first | rw [c11b0] | (simp only [i64_w, i32_w]; rw [c11b0]) | skip)
       have H' := Aside0.mk H
       clear H
       go_wp2
       go_meet
       case rel => exact ⟨_, (true), sd_, H', ⟨by have := HJ2.out; have := HJ6.out; first | omega | exact Nat.le_refl _⟩, ⟨bl_ HB.out⟩⟩
      ·rw [if_neg c11] at H
       have c11b0 : decide ((x7_6.size : Int) < 1) = false := decide_eq_false c11
       have c11b1 : decide (x7_6.size < 1) = false := decide_eq_false (by omega)
       clear c11
       (first | rw [c11b0] | (simp only [i64_w, i32_w]; rw [c11b0]) | skip)
       have H' := Aside0.mk H
       clear H
       go_wp2
       go_meet
       case rel => exact ⟨_, (decide ((x7_6.size : Int) > a1)), sd_, H', ⟨by have := HJ2.out; have := HJ6.out; first | omega | exact Nat.le_refl _⟩, ⟨bl_ HB.out⟩⟩
     case rest =>
      clear HC10
      try clear c1
      try clear p2
      try clear c4
      try clear c4b0
      try clear c4b1
      try clear c5
      try clear c5b0
      try clear c5b1
      try clear p6
      try clear q6
      try clear hx6
      try clear qi6
      try clear c8
      try clear c9
      try clear c9b0
      try clear c9b1
      try clear c11
      try clear c11b0
      try clear c11b1
      try clear p2
      try clear p6
      try clear q6
      obtain ⟨kq, x30_9, rfl, HA, HJ9, HB⟩ := hcut
      cases kq with
      | zero => exact absurd HA.out (by simp [spec_l1Read.j2])
      | succ kj9 =>
       have H := HA.out
       clear HA
       simp only [spec_l1Read.j2] at H
       by_cases c12 : x30_9 = true
       ·subst c12
        rw [if_pos rfl] at H
        simp only [Option.some.injEq, Prod.mk.injEq] at H
        obtain ⟨rfl, rfl⟩ := H
        go_wp2
        go_ret2
        exact ⟨er_, bl_ HB.out⟩
       ·obtain rfl := Bool.eq_false_iff.mpr c12
        rw [if_neg nf_] at H
        have H' := Aside0.mk H
        clear H
        go_wp2
        go_loopg [8, 9] kj9 (fun kq v8 v9 w' => ∃ (x8_4 : Int) (x9_4 : Int), v8 = .int .i64 x8_4 ∧ v9 = .int .i64 x9_4 ∧ Aside0 (spec_l1Read.l0 kq a0 x6_2 x7_6 x8_4 x9_4 = some (r1, r2)) ∧ Aside0 (kq ≤ kj9) ∧ Aside0 (Below w.heap.size w w'))
        case atStart => exact ⟨(0), (0), sd_, sd_, H', ⟨Nat.le_refl _⟩, ⟨bl_ HB.out⟩⟩
        case round =>
         clear H'
         try clear c1
         try clear p2
         try clear c4
         try clear c4b0
         try clear c4b1
         try clear c5
         try clear c5b0
         try clear c5b1
         try clear p6
         try clear q6
         try clear hx6
         try clear qi6
         try clear c8
         try clear c9
         try clear c9b0
         try clear c9b1
         try clear c11
         try clear c11b0
         try clear c11b1
         try clear c12
         try clear p2
         try clear p6
         try clear q6
         obtain ⟨x8_4, x9_4, rfl, rfl, HA, HK4, HB⟩ := hrel
         cases gk with
         | zero => exact absurd HA.out (by simp [spec_l1Read.l0])
         | succ k4 =>
          have H := HA.out
          clear HA
          simp only [spec_l1Read.l0] at H
          by_cases c13 : x9_4 < (x7_6.size : Int)
          ·rw [if_pos c13] at H
           have c13b0 : decide (x9_4 < (x7_6.size : Int)) = true := decide_eq_true c13
           clear c13
           by_cases c14 : 0 ≤ x9_4
           ·rw [if_pos c14] at H
            have c14b0 : decide (0 ≤ x9_4) = true := decide_eq_true c14
            clear c14
            by_cases c16 : (bt x7_6 x9_4) < 48
            ·rw [if_pos c16] at H
             have c16b0 : decide ((bt x7_6 x9_4) < 48) = true := decide_eq_true c16
             clear c16
             simp only [Option.some.injEq, Prod.mk.injEq] at H
             obtain ⟨rfl, rfl⟩ := H
             have p15 : 0 ≤ (x9_4 : Int) := od_
             have q15 : x9_4 < (x7_6.size : Int) := od_
             have hx15 := bt_at x7_6 x9_4
             replace p15 := eq_true p15
             replace q15 := eq_true q15
             go_wp2
             go_ret2
             exact ⟨er_, bl_ HB.out⟩
            ·rw [if_neg c16] at H
             have c16b0 : decide ((bt x7_6 x9_4) < 48) = false := decide_eq_false c16
             clear c16
             by_cases c18 : (bt x7_6 x9_4) > 57
             ·rw [if_pos c18] at H
              have c18b0 : decide (57 < (bt x7_6 x9_4)) = true := decide_eq_true c18
              clear c18
              simp only [Option.some.injEq, Prod.mk.injEq] at H
              obtain ⟨rfl, rfl⟩ := H
              have p15 : 0 ≤ (x9_4 : Int) := od_
              have q15 : x9_4 < (x7_6.size : Int) := od_
              have hx15 := bt_at x7_6 x9_4
              replace p15 := eq_true p15
              replace q15 := eq_true q15
              have p17 : 0 ≤ (x9_4 : Int) := od_
              have q17 : x9_4 < (x7_6.size : Int) := od_
              have hx17 := bt_at x7_6 x9_4
              replace p17 := eq_true p17
              replace q17 := eq_true q17
              go_wp2
              go_ret2
              exact ⟨er_, bl_ HB.out⟩
             ·rw [if_neg c18] at H
              have c18b0 : decide (57 < (bt x7_6 x9_4)) = false := decide_eq_false c18
              clear c18
              have H' := Aside0.mk H
              clear H
              have p15 : 0 ≤ (x9_4 : Int) := od_
              have q15 : x9_4 < (x7_6.size : Int) := od_
              have hx15 := bt_at x7_6 x9_4
              replace p15 := eq_true p15
              replace q15 := eq_true q15
              have p17 : 0 ≤ (x9_4 : Int) := od_
              have q17 : x9_4 < (x7_6.size : Int) := od_
              have hx17 := bt_at x7_6 x9_4
              replace p17 := eq_true p17
              replace q17 := eq_true q17
              have p19 : 0 ≤ (x9_4 : Int) := od_
              have q19 : x9_4 < (x7_6.size : Int) := od_
              have hx19 := bt_at x7_6 x9_4
              replace p19 := eq_true p19
              replace q19 := eq_true q19
              go_wp2
              go_roundg k4
              case measure => have := HJ2.out; have := HJ6.out; have := HJ9.out; have := HK4.out; omega
              case rel => exact ⟨(wrap64 ((wrap64 (10 * x8_4)) + (((bt x7_6 x9_4) - 48) % 256))), (wrap64 (x9_4 + 1)), sd_, sd_, H', ⟨by have := HJ2.out; have := HJ6.out; have := HJ9.out; have := HK4.out; omega⟩, ⟨bl_ HB.out⟩⟩
           ·rw [if_neg c14] at H
            exact absurd H (by simp)
          ·rw [if_neg c13] at H
           have c13b0 : decide (x9_4 < (x7_6.size : Int)) = false := decide_eq_false c13
           clear c13
           by_cases c20 : x6_2 = true
           ·subst c20
            rw [if_pos rfl] at H
            obtain ⟨t574, A21, H⟩ := ob_ H
            (try dsimp only at H)
            by_cases c22 : t574.toList = a0.toList
            ·rw [if_pos c22] at H
             have c22b0 : (t574.toList == a0.toList) = true := beq_iff_eq.mpr c22
             have c22b1 : (t574.toList != a0.toList) = false := bne_eq_false_iff_eq.mpr c22
             clear c22
             simp only [Option.some.injEq, Prod.mk.injEq] at H
             obtain ⟨rfl, rfl⟩ := H
             go_wp2_with (first | ((with_reducible refine gate_callee (f := 177) rfl ?_); refine gl_ 59 Try.func177 #[.int .i64 (wrap64 (-x8_4))] ?_; (with_reducible refine (spec_FormatInt.calls k4 (wrap64 (-x8_4)) t574 _ A21.out).mono ?_); rintro e w23 ⟨rfl, hb⟩; refine ⟨_, rfl, ?_⟩; replace HB := bs_ HB hb; (try clear hb); (try clear hb2); (try clear hk); (try clear hi)))
             go_ret2
             exact ⟨er_, bl_ HB.out⟩
            ·rw [if_neg c22] at H
             have c22b0 : (t574.toList == a0.toList) = false := beq_eq_false_iff_ne.mpr c22
             have c22b1 : (t574.toList != a0.toList) = true := bne_iff_ne.mpr c22
             simp only [Option.some.injEq, Prod.mk.injEq] at H
             obtain ⟨rfl, rfl⟩ := H
             go_wp2_with (first | ((with_reducible refine gate_callee (f := 177) rfl ?_); refine gl_ 59 Try.func177 #[.int .i64 (wrap64 (-x8_4))] ?_; (with_reducible refine (spec_FormatInt.calls k4 (wrap64 (-x8_4)) t574 _ A21.out).mono ?_); rintro e w24 ⟨rfl, hb⟩; refine ⟨_, rfl, ?_⟩; replace HB := bs_ HB hb; (try clear hb); (try clear hb2); (try clear hk); (try clear hi)))
             go_ret2
             exact ⟨er_, bl_ HB.out⟩
           ·obtain rfl := Bool.eq_false_iff.mpr c20
            rw [if_neg nf_] at H
            obtain ⟨t575, A25, H⟩ := ob_ H
            (try dsimp only at H)
            by_cases c26 : t575.toList = a0.toList
            ·rw [if_pos c26] at H
             have c26b0 : (t575.toList == a0.toList) = true := beq_iff_eq.mpr c26
             have c26b1 : (t575.toList != a0.toList) = false := bne_eq_false_iff_eq.mpr c26
             clear c26
             simp only [Option.some.injEq, Prod.mk.injEq] at H
             obtain ⟨rfl, rfl⟩ := H
             go_wp2_with (first | ((with_reducible refine gate_callee (f := 177) rfl ?_); refine gl_ 59 Try.func177 #[.int .i64 x8_4] ?_; (with_reducible refine (spec_FormatInt.calls k4 x8_4 t575 _ A25.out).mono ?_); rintro e w27 ⟨rfl, hb⟩; refine ⟨_, rfl, ?_⟩; replace HB := bs_ HB hb; (try clear hb); (try clear hb2); (try clear hk); (try clear hi)))
             go_ret2
             exact ⟨er_, bl_ HB.out⟩
            ·rw [if_neg c26] at H
             have c26b0 : (t575.toList == a0.toList) = false := beq_eq_false_iff_ne.mpr c26
             have c26b1 : (t575.toList != a0.toList) = true := bne_iff_ne.mpr c26
             simp only [Option.some.injEq, Prod.mk.injEq] at H
             obtain ⟨rfl, rfl⟩ := H
             go_wp2_with (first | ((with_reducible refine gate_callee (f := 177) rfl ?_); refine gl_ 59 Try.func177 #[.int .i64 x8_4] ?_; (with_reducible refine (spec_FormatInt.calls k4 x8_4 t575 _ A25.out).mono ?_); rintro e w28 ⟨rfl, hb⟩; refine ⟨_, rfl, ?_⟩; replace HB := bs_ HB hb; (try clear hb); (try clear hb2); (try clear hk); (try clear hi)))
             go_ret2
             exact ⟨er_, bl_ HB.out⟩
def spec_ParseInt.f (k : Nat) (a0 : ByteArray) : Option (Int × Bool) := (spec_l1Read.f k a0 12).bind fun bt576 => (some (bt576.1, bt576.2))
theorem spec_ParseInt.calls (k : Nat) (a0 : ByteArray) (r1 : Int) (r2 : Bool) (w : World) (h : spec_ParseInt.f k a0 = some (r1, r2)) :
 Calls Try.prog 163 #[.string a0] w fun e w' => e = .returned (.tuple #[.int .i64 r1, .bool r2]) ∧ Below w.heap.size w w' := by
 have HB := Aside0.mk (Below.refl w.heap.size w)
 have H := h
 clear h
 unfold spec_ParseInt.f at H
 replace H := Option.bind_eq_some_iff.mp H
 obtain ⟨⟨t576, t577⟩, A20, H⟩ := H
 (try dsimp only at H)
 have A2 := Aside0.mk A20
 clear A20
 simp only [Option.some.injEq, Prod.mk.injEq] at H
 obtain ⟨rfl, rfl⟩ := H
 go_enter Try.func163, Try.ntmps163
 go_wp2_with (first | ((with_reducible refine gate_callee (f := 176) rfl ?_); refine gl_ 5 Try.func176 #[.string a0, .int .i64 12] ?_; (with_reducible refine (spec_l1Read.calls k a0 12 t576 t577 _ A2.out).mono ?_); rintro e w3 ⟨rfl, hb⟩; refine ⟨_, rfl, ?_⟩; replace HB := bs_ HB hb; (try clear hb); (try clear hb2); (try clear hk); (try clear hi)))
 go_ret2
 exact ⟨er_, bl_ HB.out⟩
mutual
def spec_ParseList.l0 : Nat → ByteArray → List Int → List ByteArray → Int → Option (List Int × Bool)
 | 0, _, _, _, _ => none
 | k + 1, x0, x4, x5, x6 => if x6 < (x5.length : Int) then (spec_ParseList.j1 k x0 x4 x5 x6 (x0.toList != ([110, 111, 110, 101] : List UInt8))) else (spec_ParseList.j1 k x0 x4 x5 x6 false)
def spec_ParseList.j1 : Nat → ByteArray → List Int → List ByteArray → Int → Bool → Option (List Int × Bool)
 | 0, _, _, _, _, _ => none
 | k + 1, x0, x4, x5, x6, x19 => if x19 = true then (if 0 ≤ x6 then (if x6 < (x5.length : Int) then ((spec_ParseInt.f k (rdOf ByteArray.empty x5 x6)).bind fun bt585 => (if bt585.2 = true then (if x4.length < 17592186044416 then (spec_ParseList.l0 k x0 (x4 ++ [bt585.1]) x5 (wrap64 (x6 + 1))) else (none)) else (some ((([] : List Int)), false)))) else (none)) else (none)) else (some (x4, true))
end
def spec_ParseList.f (k : Nat) (a0 : ByteArray) : Option (List Int × Bool) := (spec_SplitByte.f k a0 44).bind fun t581 => (spec_ParseList.l0 k a0 (([] : List Int)) t581 0)
theorem spec_ParseList.calls (k : Nat) (a0 : ByteArray) (r1 : List Int) (r2 : Bool) (w : World) (h : spec_ParseList.f k a0 = some (r1, r2)) :
 Calls Try.prog 158 #[.string a0] w fun e w' => ∃ v0_ : Value, e = .returned (.tuple #[v0_, .bool r2]) ∧ Kd.R (Kd.int .i64) 3 w' w.heap.size (fun _ => True) v0_ r1 ∧ Below w.heap.size w w' := by
 have HB := Aside0.mk (Below.refl w.heap.size w)
 have H := h
 clear h
 unfold spec_ParseList.f at H
 obtain ⟨y578, hy578⟩ : ∃ y_ : List Int, y_ = (([] : List Int)) := ⟨_, rfl⟩
 replace H : ((spec_SplitByte.f k a0 44).bind fun t581 => (spec_ParseList.l0 k a0 y578 t581 0)) = some (r1, r2) := hr_ hy578 H
 have Ny578 := Aside0.mk hy578
 clear hy578
 obtain ⟨t581, A2, H⟩ := ob_ H
 (try dsimp only at H)
 have H' := Aside0.mk H
 clear H
 go_enter Try.func158, Try.ntmps158
 go_wp2_with (first | ((with_reducible refine gate_dst (N := 9) rfl ?_); refine Kd.R_lit (Kd.int .i64) _ 3 ?hg (N := 9) ?hd (xs := ([] : List Int)) (inner := []) (ok := fun _ => True) (okp := fun _ => True) ?hr ?hp (fun _ hk => hk) trivial (Below.refl _ _) (Nat.le_refl _) (by simp) ?_; (case hd => rfl); (case hg => rfl); (case hr => first | (go_simp; done) | (go_simp; rfl)); (case hp => exact (Reps.none _ _)); intro v579 w3 ho4 hb hg_ hnew_; clear hg_ hnew_; (first | rw [← Ny578.out] at ho4 | (simp only [Int.reduceToNat] at ho4; rw [← Ny578.out] at ho4)); have HO580 := rl_ ho4 HB; replace HB := bs_ HB hb; clear hb ho4) | ((with_reducible refine gate_callee (f := 162) rfl ?_); refine gl_ 11 Try.func162 #[.string a0, .int .u8 44] ?_; (with_reducible refine (spec_SplitByte.calls k a0 44 t581 _ A2.out).mono ?_); rintro e w5 ⟨v582, rfl, ho0, hb⟩; refine ⟨_, rfl, ?_⟩; replace HO580 := rb_ HO580 hb; have HO583 := rl_ ho0 HB; replace HB := bs_ HB hb; (try clear hb); (try clear hb2); (try clear hk); (try clear hi); (try clear ho0)))
 go_loopg [4, 6] k (fun kq v4 v6 w' => ∃ (x4_1 : List Int) (x6_1 : Int), v6 = .int .i64 x6_1 ∧ Aside0 (spec_ParseList.l0 kq a0 x4_1 t581 x6_1 = some (r1, r2)) ∧ Aside0 (kq ≤ k) ∧ Aside0 (Kd.R (Kd.int .i64) 3 w' w.heap.size (fun _ => True) v4 x4_1) ∧ Aside0 (Kd.R Kd.string 9 w' w.heap.size (fun _ => True) v582 t581) ∧ Aside0 (Below w.heap.size w w'))
 case atStart => exact ⟨(y578), (0), sd_, H', ⟨Nat.le_refl _⟩, ⟨kr_ HO580.out⟩, ⟨kr_ HO583.out⟩, ⟨bl_ HB.out⟩⟩
 case round =>
  clear H'
  try clear c1
  try clear p2
  obtain ⟨x4_1, x6_1, rfl, HA, HK1, HO_4, HO_5, HB⟩ := hrel
  cases gk with
  | zero => exact absurd HA.out (by simp [spec_ParseList.l0])
  | succ k1 =>
   have H := HA.out
   clear HA
   simp only [spec_ParseList.l0] at H
   have HC6 := Aside0.mk H
   clear H
   go_upto_region 4 with (fail)
   go_cut [19] (fun v19 wc => ∃ (kq : Nat) (x19_5 : Bool), v19 = .bool x19_5 ∧ Aside0 (spec_ParseList.j1 kq a0 x4_1 t581 x6_1 x19_5 = some (r1, r2)) ∧ Aside0 (kq ≤ k1) ∧ Aside0 (Kd.R (Kd.int .i64) 3 wc w.heap.size (fun _ => True) u4 x4_1) ∧ Aside0 (Kd.R Kd.string 9 wc w.heap.size (fun _ => True) v582 t581) ∧ Aside0 (Below w.heap.size w wc))
   case first =>
    have H := HC6.out
    clear HC6
    by_cases c7 : x6_1 < (t581.length : Int)
    ·rw [if_pos c7] at H
     have c7b0 : decide (x6_1 < (t581.length : Int)) = true := decide_eq_true c7
     clear c7
     (first | rw [c7b0] | (simp only [i64_w, i32_w]; rw [c7b0]) | skip)
     have H' := Aside0.mk H
     clear H
     obtain ⟨Ao8, co8, eo8⟩ := Kd.R_slice HO_5.out
     subst eo8
     go_wp2
     go_meet
     case rel => exact ⟨_, ((a0.toList != ([110, 111, 110, 101] : List UInt8))), sd_, H', ⟨by have := HK1.out; first | omega | exact Nat.le_refl _⟩, ⟨kr_ HO_4.out⟩, ⟨kr_ HO_5.out⟩, ⟨bl_ HB.out⟩⟩
    ·rw [if_neg c7] at H
     have c7b0 : decide (x6_1 < (t581.length : Int)) = false := decide_eq_false c7
     clear c7
     (first | rw [c7b0] | (simp only [i64_w, i32_w]; rw [c7b0]) | skip)
     have H' := Aside0.mk H
     clear H
     obtain ⟨Ao9, co9, eo9⟩ := Kd.R_slice HO_5.out
     subst eo9
     go_wp2
     go_meet
     case rel => exact ⟨_, (false), sd_, H', ⟨by have := HK1.out; first | omega | exact Nat.le_refl _⟩, ⟨kr_ HO_4.out⟩, ⟨kr_ HO_5.out⟩, ⟨bl_ HB.out⟩⟩
   case rest =>
    clear HC6
    try clear c1
    try clear p2
    try clear c7
    try clear c7b0
    try clear p2
    obtain ⟨kq, x19_5, rfl, HA, HJ5, HO_4, HO_5, HB⟩ := hcut
    cases kq with
    | zero => exact absurd HA.out (by simp [spec_ParseList.j1])
    | succ kj5 =>
     have H := HA.out
     clear HA
     simp only [spec_ParseList.j1] at H
     by_cases c10 : x19_5 = true
     ·subst c10
      rw [if_pos rfl] at H
      by_cases c11 : 0 ≤ x6_1
      ·rw [if_pos c11] at H
       have c11b0 : decide (0 ≤ x6_1) = true := decide_eq_true c11
       clear c11
       by_cases c12 : x6_1 < (t581.length : Int)
       ·rw [if_pos c12] at H
        have c12b0 : decide (x6_1 < (t581.length : Int)) = true := decide_eq_true c12
        clear c12
        replace H := Option.bind_eq_some_iff.mp H
        obtain ⟨⟨t585, t586⟩, A130, H⟩ := H
        (try dsimp only at H)
        have A13 := Aside0.mk A130
        clear A130
        by_cases c14 : t586 = true
        ·subst c14
         rw [if_pos rfl] at H
         by_cases c15 : x4_1.length < 17592186044416
         ·rw [if_pos c15] at H
          have LMc15 := Aside0.mk c15
          clear c15
          obtain ⟨y587, hy587⟩ : ∃ y_ : List Int, y_ = (x4_1 ++ [t585]) := ⟨_, rfl⟩
          replace H : (spec_ParseList.l0 kj5 a0 y587 t581 (wrap64 (x6_1 + 1))) = some (r1, r2) := hr_ hy587 H
          have Ny587 := Aside0.mk hy587
          clear hy587
          have H' := Aside0.mk H
          clear H
          obtain ⟨Ao16, co16, eo16⟩ := Kd.R_slice HO_5.out
          subst eo16
          have p584 : 0 ≤ (x6_1 : Int) := od_
          have q584 : x6_1 < (t581.length : Int) := od_
          obtain ⟨ad584, e584, hx584_0⟩ := Kd.at_string (Kd.R_reads' HO_5.out).2.2 x6_1 p584 q584
          cases e584
          replace p584 := eq_true p584
          replace q584 := eq_true q584
          go_wp2_with (first | ((with_reducible refine gate_callee (f := 163) rfl ?_); refine gl_ 27 Try.func163 #[.string (rdOf ByteArray.empty t581 x6_1)] ?_; (with_reducible refine (spec_ParseInt.calls kj5 (rdOf ByteArray.empty t581 x6_1) t585 true _ A13.out).mono ?_); rintro e w17 ⟨rfl, hb⟩; refine ⟨_, rfl, ?_⟩; replace HO_4 := rb_ HO_4 hb; replace HO_5 := rb_ HO_5 hb; replace HB := bs_ HB hb; (try clear hb); (try clear hb2); (try clear hk); (try clear hi)) | ((with_reducible refine gate_builtin (b := .append) (xs := #[.tmp 33, .tmp 35]) rfl ?_); at_builtin; refine Kd.R_append (Kd.int .i64) (w0 := w) w.heap.size rfl (.tmp 33) (.tmp 35) 22 3 (.int .i64 0) 8 rfl Try.underlying22 info3 rfl (by decide) (by omega) u4 x4_1 t585 [.int .i64 t585] (fun _ => True) (fun _ => False) rfl rfl ?aP (fun _ hk => hk.elim) ?aF ?aO ?aB ?aS ?aL ?_; (case aP => exact rfl); (case aB => exact (bl_ HB.out)); (case aF => exact (fun _ _ => trivial)); (case aO => exact (kr_ HO_4.out)); (case aS => exact (below_size (bl_ HB.out))); (case aL => have := LMc15.out; omega); intro v588 w18 ho hb hg hat; rw [← Ny587.out] at ho; have n0_ := Aside0.mk (Kd.R_over' (kr_ HO_5.out) (Kd.R_typed (kr_ HO_4.out)) (by decide) hg); have n1_ := Aside0.mk (hb); have n2_ := Aside0.mk (ho); clear HO_5; clear HB; clear HO_4; have HO_5 := n0_; have HB := n1_; have HO589 := n2_; clear n0_ n1_ n2_; clear ho hb hg hat))
          go_roundg kj5
          case measure => have := HK1.out; have := HJ5.out; omega
          case rel => exact ⟨(y587), (wrap64 (x6_1 + 1)), sd_, H', ⟨by have := HK1.out; have := HJ5.out; omega⟩, ⟨kr_ HO589.out⟩, ⟨kr_ HO_5.out⟩, ⟨bl_ HB.out⟩⟩
         ·rw [if_neg c15] at H
          exact absurd H (by simp)
        ·obtain rfl := Bool.eq_false_iff.mpr c14
         rw [if_neg nf_] at H
         obtain ⟨y590, hy590⟩ : ∃ y_ : List Int, y_ = (([] : List Int)) := ⟨_, rfl⟩
         replace H : (some (y590, false)) = some (r1, r2) := hr_ hy590 H
         have Ny590 := Aside0.mk hy590
         clear hy590
         simp only [Option.some.injEq, Prod.mk.injEq] at H
         obtain ⟨rfl, rfl⟩ := H
         obtain ⟨Ao19, co19, eo19⟩ := Kd.R_slice HO_5.out
         subst eo19
         have p584 : 0 ≤ (x6_1 : Int) := od_
         have q584 : x6_1 < (t581.length : Int) := od_
         obtain ⟨ad584, e584, hx584_0⟩ := Kd.at_string (Kd.R_reads' HO_5.out).2.2 x6_1 p584 q584
         cases e584
         replace p584 := eq_true p584
         replace q584 := eq_true q584
         go_wp2_with (first | ((with_reducible refine gate_callee (f := 163) rfl ?_); refine gl_ 27 Try.func163 #[.string (rdOf ByteArray.empty t581 x6_1)] ?_; (with_reducible refine (spec_ParseInt.calls kj5 (rdOf ByteArray.empty t581 x6_1) t585 false _ A13.out).mono ?_); rintro e w20 ⟨rfl, hb⟩; refine ⟨_, rfl, ?_⟩; replace HO_4 := rb_ HO_4 hb; replace HO_5 := rb_ HO_5 hb; replace HB := bs_ HB hb; (try clear hb); (try clear hb2); (try clear hk); (try clear hi)) | ((with_reducible refine gate_dst (N := 32) rfl ?_); refine Kd.R_lit (Kd.int .i64) _ 3 ?hg (N := 32) ?hd (xs := ([] : List Int)) (inner := []) (ok := fun _ => True) (okp := fun _ => True) ?hr ?hp (fun _ hk => hk) trivial (Below.refl _ _) (Nat.le_refl _) (by simp) ?_; (case hd => rfl); (case hg => rfl); (case hr => first | (go_simp; done) | (go_simp; rfl)); (case hp => exact (Reps.none _ _)); intro v591 w21 ho22 hb hg_ hnew_; clear hg_ hnew_; (first | rw [← Ny590.out] at ho22 | (simp only [Int.reduceToNat] at ho22; rw [← Ny590.out] at ho22)); replace HO_5 := rb_ HO_5 hb; have HO592 := Aside0.mk (Kd.R_lower (Kd.R_new' ho22 (Kd.R_lt (kr_ HO_4.out))) (below_size (bl_ HB.out))); replace HO_4 := Aside0.mk (Kd.R_elder' (kr_ HO_4.out) (Kd.R_base ho22) hb); replace HB := bs_ HB hb; clear hb ho22))
         go_ret2
         exact ⟨_, er_, kr_ (Kd.R_mono HO592.out (fun _ hk => trivial)), bl_ HB.out⟩
       ·rw [if_neg c12] at H
        exact absurd H (by simp)
      ·rw [if_neg c11] at H
       exact absurd H (by simp)
     ·obtain rfl := Bool.eq_false_iff.mpr c10
      rw [if_neg nf_] at H
      simp only [Option.some.injEq, Prod.mk.injEq] at H
      obtain ⟨rfl, rfl⟩ := H
      go_wp2
      go_ret2
      exact ⟨_, er_, kr_ HO_4.out, bl_ HB.out⟩
end Go.Proofs.Ytbjbolblahlhcaa.PFnGlued
end
