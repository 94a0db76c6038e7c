/- Part 11 of the claim for FnGlued, of the chain from the printed contracts and the plain laws to the row. It has no condition of its own. -/
import Derived.Test.YtbjbolblahlhcaaG1ZFnGlued
import Derived.Test.YtbjbolblahlhcaaG7ZFnGlued
import Derived.Test.YtbjbolblahlhcaaG8ZFnGlued
import Derived.Test.YtbjbolblahlhcaaG9ZFnGlued
import Derived.Test.YtbjbolblahlhcaaG10ZFnGlued
namespace Go.Proofs.Ytbjbolblahlhcaa.PFnGlued
open Go.RowKit Go.Proofs.YtbjbolblahlhcaaW.PrintWords Go.Proofs.YtbjbolblahlhcaaW.PrintLast Go.Proofs.YtbjbolblahlhcaaW.PrintMore
open Go.Proofs.Ytbjbolblahlhcaa.SortW (bk_ kr_ t_ f_)
open Go.Proofs.Ytbjbolblahlhcaa.SqW
attribute [local go_sem] max2_int min2_int max_two min_two max_three min_three max_four min_four
set_option maxHeartbeats 8000000
set_option maxRecDepth 100000
set_option linter.unusedVariables false
set_option linter.unusedSimpArgs false
def spec_l22Case.j0 : Nat → Int → Int → List Int → Int → Int → List Int → List Int → Option (List Int × List Int × Int × Int)
 | 0, _, _, _, _, _, _, _ => none
 | k + 1, x11, x12, x636000, x636001, x636002, x647000, x658000 => (spec_l1Once.f x636000 x636001 x636002 12).bind fun bt673 => (if bt673.1 = true then ((spec_l3Bent.f k x636000 bt673.2.1 bt673.2.2).bind fun bt676 => (some (bt676.1, x658000, x11, x12))) else (some (x647000, x658000, x11, x12)))
def spec_l22Case.f (k : Nat) (l0 : List Int) : Option (List Int × List Int × Int × Int) := (spec_l1New.f k l0).bind fun bt632 => ((spec_l1Pick.f bt632.1 bt632.2.1 bt632.2.2 (([(⟨#[60, 49, 62]⟩ : ByteArray), (⟨#[60, 50, 44, 51, 62]⟩ : ByteArray), (⟨#[60, 51, 44, 52, 62]⟩ : ByteArray), (⟨#[60, 50, 44, 53, 62]⟩ : ByteArray), (⟨#[60, 51, 44, 52, 44, 53, 62]⟩ : ByteArray)] : List ByteArray))).bind fun bt639 => ((spec_ParseSemigroup.f k bt639.1).bind fun bt642 => ((spec_l1Pick.f bt632.1 bt639.2.1 bt639.2.2 (([(⟨#[60, 49, 62]⟩ : ByteArray), (⟨#[60, 50, 44, 51, 62]⟩ : ByteArray), (⟨#[60, 49, 62]⟩ : ByteArray), (⟨#[60, 50, 44, 53, 62]⟩ : ByteArray)] : List ByteArray))).bind fun bt650 => ((spec_ParseSemigroup.f k bt650.1).bind fun bt653 => ((spec_l1Below.f bt632.1 bt650.2.1 bt650.2.2 10).bind fun bt658 => ((spec_l1Below.f bt632.1 bt658.2.1 bt658.2.2 10).bind fun bt661 => ((spec_l1Once.f bt632.1 bt661.2.1 bt661.2.2 12).bind fun bt664 => (if bt664.1 = true then ((spec_l1PickInt.f bt632.1 bt664.2.1 bt664.2.2 (([0, 61, (-1), 1] : List Int))).bind fun bt670 => (spec_l22Case.j0 k bt670.1 (wrap64 (2 + bt661.1)) bt632.1 bt670.2.1 bt670.2.2 bt642.1 bt653.1)) else (spec_l22Case.j0 k (wrap64 (2 + bt658.1)) (wrap64 (2 + bt661.1)) bt632.1 bt664.2.1 bt664.2.2 bt642.1 bt653.1)))))))))
def spec_l22Case.T10 : Bool × List (List Nat × List Nat) := (true, [([], []), ([], []), ([], []), ([], []), ([0, 0], [0]), ([1, 4, 0, 1, 4], [1]), ([2, 5, 0, 1, 2, 4, 5], [2]), ([3, 6, 0, 1, 2, 3, 4, 5, 6], [3])])
def spec_l22Case.B10 : List Nat := [0, 0, 0, 0, 1, 19, 55, 127]
theorem spec_l22Case.tab10 : rtab .any (opsOf Try.f119 10) = spec_l22Case.T10 := by kernel_rfl
theorem spec_l22Case.bits10 : waitsOk spec_l22Case.T10.2 spec_l22Case.B10 = true := by kernel_rfl
theorem spec_l22Case.calls (k : Nat) (A0 : Option Addr) (c0 : Nat) (l0 : List Int) (r1 : List Int) (r2 : List Int) (r3 : Int) (r4 : Int) (w : World) (hr0 : Kd.C (Kd.int .u8) w A0 l0.length l0) (hc0 : l0.length ≤ c0) (h : spec_l22Case.f k l0 = some (r1, r2, r3, r4)) :
 Calls Try.prog 119 #[.slice A0 l0.length c0] w fun e w' => ∃ v0_ v1_ : Value, e = .returned (.tuple #[.agg #[v0_], .agg #[v1_], .int .i64 r3, .int .i64 r4]) ∧ Kd.Q (Kd.int .i64) 3 w' w.heap.size (fun k_ => some k_ ≠ (v1_ : Value).ownBlock) v0_ r1 ∧ Kd.Q (Kd.int .i64) 3 w' w.heap.size (fun k_ => some k_ ≠ (v0_ : Value).ownBlock) v1_ r2 ∧ Below w.heap.size w w' := by
 have hu41 := Try.underlying41
 have HR0 := Aside0.mk hr0
 have HC0 := Aside0.mk hc0
 clear hr0 hc0
 have HB := Aside0.mk (Below.refl w.heap.size w)
 have H := h
 clear h
 unfold spec_l22Case.f at H
 replace H := Option.bind_eq_some_iff.mp H
 obtain ⟨⟨t632, t633, t634⟩, A20, H⟩ := H
 (try dsimp only at H)
 have A2 := Aside0.mk A20
 clear A20
 obtain ⟨y636, hy636⟩ : ∃ y_ : List ByteArray, y_ = (([(⟨#[60, 49, 62]⟩ : ByteArray), (⟨#[60, 50, 44, 51, 62]⟩ : ByteArray), (⟨#[60, 51, 44, 52, 62]⟩ : ByteArray), (⟨#[60, 50, 44, 53, 62]⟩ : ByteArray), (⟨#[60, 51, 44, 52, 44, 53, 62]⟩ : ByteArray)] : List ByteArray)) := ⟨_, rfl⟩
 replace H : ((spec_l1Pick.f t632 t633 t634 y636).bind fun bt639 => ((spec_ParseSemigroup.f k bt639.1).bind fun bt642 => ((spec_l1Pick.f t632 bt639.2.1 bt639.2.2 (([(⟨#[60, 49, 62]⟩ : ByteArray), (⟨#[60, 50, 44, 51, 62]⟩ : ByteArray), (⟨#[60, 49, 62]⟩ : ByteArray), (⟨#[60, 50, 44, 53, 62]⟩ : ByteArray)] : List ByteArray))).bind fun bt650 => ((spec_ParseSemigroup.f k bt650.1).bind fun bt653 => ((spec_l1Below.f t632 bt650.2.1 bt650.2.2 10).bind fun bt658 => ((spec_l1Below.f t632 bt658.2.1 bt658.2.2 10).bind fun bt661 => ((spec_l1Once.f t632 bt661.2.1 bt661.2.2 12).bind fun bt664 => (if bt664.1 = true then ((spec_l1PickInt.f t632 bt664.2.1 bt664.2.2 (([0, 61, (-1), 1] : List Int))).bind fun bt670 => (spec_l22Case.j0 k bt670.1 (wrap64 (2 + bt661.1)) t632 bt670.2.1 bt670.2.2 bt642.1 bt653.1)) else (spec_l22Case.j0 k (wrap64 (2 + bt658.1)) (wrap64 (2 + bt661.1)) t632 bt664.2.1 bt664.2.2 bt642.1 bt653.1))))))))) = some (r1, r2, r3, r4) := hr_ hy636 H
 have Ny636 := Aside0.mk hy636
 clear hy636
 replace H := Option.bind_eq_some_iff.mp H
 obtain ⟨⟨t639, t640, t641⟩, A30, H⟩ := H
 (try dsimp only at H)
 have A3 := Aside0.mk A30
 clear A30
 replace H := Option.bind_eq_some_iff.mp H
 obtain ⟨⟨t642, t645⟩, A40, H⟩ := H
 (try dsimp only at H)
 have A4 := Aside0.mk A40
 clear A40
 obtain ⟨y647, hy647⟩ : ∃ y_ : List ByteArray, y_ = (([(⟨#[60, 49, 62]⟩ : ByteArray), (⟨#[60, 50, 44, 51, 62]⟩ : ByteArray), (⟨#[60, 49, 62]⟩ : ByteArray), (⟨#[60, 50, 44, 53, 62]⟩ : ByteArray)] : List ByteArray)) := ⟨_, rfl⟩
 replace H : ((spec_l1Pick.f t632 t640 t641 y647).bind fun bt650 => ((spec_ParseSemigroup.f k bt650.1).bind fun bt653 => ((spec_l1Below.f t632 bt650.2.1 bt650.2.2 10).bind fun bt658 => ((spec_l1Below.f t632 bt658.2.1 bt658.2.2 10).bind fun bt661 => ((spec_l1Once.f t632 bt661.2.1 bt661.2.2 12).bind fun bt664 => (if bt664.1 = true then ((spec_l1PickInt.f t632 bt664.2.1 bt664.2.2 (([0, 61, (-1), 1] : List Int))).bind fun bt670 => (spec_l22Case.j0 k bt670.1 (wrap64 (2 + bt661.1)) t632 bt670.2.1 bt670.2.2 t642 bt653.1)) else (spec_l22Case.j0 k (wrap64 (2 + bt658.1)) (wrap64 (2 + bt661.1)) t632 bt664.2.1 bt664.2.2 t642 bt653.1))))))) = some (r1, r2, r3, r4) := hr_ hy647 H
 have Ny647 := Aside0.mk hy647
 clear hy647
 replace H := Option.bind_eq_some_iff.mp H
 obtain ⟨⟨t650, t651, t652⟩, A50, H⟩ := H
 (try dsimp only at H)
 have A5 := Aside0.mk A50
 clear A50
 replace H := Option.bind_eq_some_iff.mp H
 obtain ⟨⟨t653, t656⟩, A60, H⟩ := H
 (try dsimp only at H)
 have A6 := Aside0.mk A60
 clear A60
 replace H := Option.bind_eq_some_iff.mp H
 obtain ⟨⟨t658, t659, t660⟩, A70, H⟩ := H
 (try dsimp only at H)
 have A7 := Aside0.mk A70
 clear A70
 replace H := Option.bind_eq_some_iff.mp H
 obtain ⟨⟨t661, t662, t663⟩, A80, H⟩ := H
 (try dsimp only at H)
 have A8 := Aside0.mk A80
 clear A80
 replace H := Option.bind_eq_some_iff.mp H
 obtain ⟨⟨t664, t665, t666⟩, A90, H⟩ := H
 (try dsimp only at H)
 have A9 := Aside0.mk A90
 clear A90
 have HC10 := Aside0.mk H
 clear H
 go_enter Try.func119, Try.ntmps119
 go_upto_if 36 with (first | ((with_reducible refine gate_dst (N := 2) rfl ?_); refine be_ 2 #[.slice none 0 0] 41 fun gb630 hg w11 hbox hb => ?_; have BK630 := Aside0.mk (hbox); have GW630 := ge_ hg HB; have GE630 := ge_ hg HB; replace HB := bs_ HB hb; clear hb hbox hg) | ((with_reducible refine gate_dst (N := 3) rfl ?_); refine be_ 3 #[.slice none 0 0] 41 fun gb631 hg w12 hbox hb => ?_; have BK631 := Aside0.mk (hbox); have GW631 := ge_ hg HB; have GE631 := ge_ hg HB; replace HB := bs_ HB hb; have NB630_631 := nl_ hg BK630; have NB631_630 := ng_ hg BK630; replace BK630 := bb_ BK630 hb; clear hb hbox hg) | ((with_reducible refine gate_callee (f := 80) rfl ?_); refine gl_ 14 Try.func80 #[.slice A0 l0.length c0] ?_; (with_reducible refine (spec_l1New.calls k _ _ l0 t632 t633 t634 w _ ?side1 ?side2 ?side3 A2.out).mono ?_); (case side1 => exact bl_ HB.out); (case side2 => exact HR0.out); (case side3 => exact HC0.out); rintro e w13 ⟨g635, rfl, hi, hb, hb2⟩; refine ⟨_, rfl, ?_⟩; replace HB := Aside0.mk (hb); have HI635 := Aside0.mk (hi); have NB635_630 := Aside0.mk (IsS95.ne_blk hi (blk_below (bk_ BK630.out) hb2) (by decide)); have NB630_635 := Aside0.mk (Ne.symm (IsS95.ne_blk hi (blk_below (bk_ BK630.out) hb2) (by decide))); replace BK630 := Aside0.mk (blk_below (bk_ BK630.out) hb2); have NB635_631 := Aside0.mk (IsS95.ne_blk hi (blk_below (bk_ BK631.out) hb2) (by decide)); have NB631_635 := Aside0.mk (Ne.symm (IsS95.ne_blk hi (blk_below (bk_ BK631.out) hb2) (by decide))); replace BK631 := Aside0.mk (blk_below (bk_ BK631.out) hb2); (try clear hb); (try clear hb2); (try clear hk); (try clear hi)) | ((with_reducible refine gate_dst (N := 17) rfl ?_); refine Kd.R_lit Kd.string _ 9 ?hg (N := 17) ?hd (xs := ([(⟨#[60, 49, 62]⟩ : ByteArray), (⟨#[60, 50, 44, 51, 62]⟩ : ByteArray), (⟨#[60, 51, 44, 52, 62]⟩ : ByteArray), (⟨#[60, 50, 44, 53, 62]⟩ : ByteArray), (⟨#[60, 51, 44, 52, 44, 53, 62]⟩ : ByteArray)] : List ByteArray)) (inner := [.string (⟨#[60, 49, 62]⟩ : ByteArray), .string (⟨#[60, 50, 44, 51, 62]⟩ : ByteArray), .string (⟨#[60, 51, 44, 52, 62]⟩ : ByteArray), .string (⟨#[60, 50, 44, 53, 62]⟩ : ByteArray), .string (⟨#[60, 51, 44, 52, 44, 53, 62]⟩ : ByteArray)]) (ok := fun _ => True) (okp := fun _ => True) ?hr ?hp (fun _ hk => hk) trivial (Below.refl _ _) (Nat.le_refl _) (by simp) ?_; (case hd => rfl); (case hg => rfl); (case hr => first | (go_simp; done) | (go_simp; rfl)); (case hp => exact (Reps.one (show Kd.M Kd.string _ _ _ (⟨#[60, 49, 62]⟩ : ByteArray) [.string (⟨#[60, 49, 62]⟩ : ByteArray)] from rfl) (Reps.one (show Kd.M Kd.string _ _ _ (⟨#[60, 50, 44, 51, 62]⟩ : ByteArray) [.string (⟨#[60, 50, 44, 51, 62]⟩ : ByteArray)] from rfl) (Reps.one (show Kd.M Kd.string _ _ _ (⟨#[60, 51, 44, 52, 62]⟩ : ByteArray) [.string (⟨#[60, 51, 44, 52, 62]⟩ : ByteArray)] from rfl) (Reps.one (show Kd.M Kd.string _ _ _ (⟨#[60, 50, 44, 53, 62]⟩ : ByteArray) [.string (⟨#[60, 50, 44, 53, 62]⟩ : ByteArray)] from rfl) (Reps.one (show Kd.M Kd.string _ _ _ (⟨#[60, 51, 44, 52, 44, 53, 62]⟩ : ByteArray) [.string (⟨#[60, 51, 44, 52, 44, 53, 62]⟩ : ByteArray)] from rfl) (Reps.none _ _))))))); intro v637 w14 ho15 hb hg_ hnew_; clear hg_ hnew_; (first | rw [← Ny636.out] at ho15 | (simp only [Int.reduceToNat] at ho15; rw [← Ny636.out] at ho15)); have HO638 := rl_ ho15 HB; replace BK630 := bb_ BK630 hb; replace BK631 := bb_ BK631 hb; replace HI635 := Aside0.mk (IsS95.below (hi_ HI635.out) hb); replace HB := bs_ HB hb; clear hb ho15; obtain ⟨Ao16, co16, eo16⟩ := Kd.R_slice HO638.out; subst eo16) | ((with_reducible refine gate_callee (f := 147) rfl ?_); refine gl_ 18 Try.func147 #[.pointer (some ⟨g635, 0, none⟩), .slice Ao16 y636.length co16] ?_; (with_reducible refine (spec_l1Pick.calls g635 t632 t633 t634 _ _ y636 t639 t640 t641 w _ ?side1 ?side2 ?side3 ?side4 ?side5 A3.out).mono ?_); (case side1 => exact hi_ HI635.out); (case side2 => exact bl_ HB.out); (case side3 => exact rs_ HO638); (case side4 => exact (Kd.R_reads' HO638.out).2.1); (case side5 => exact far_slice (IsS95.own_ne HI635.out HO638.out (by decide))); rintro e w17 ⟨rfl, hi, hb, hk⟩; refine ⟨_, rfl, ?_⟩; replace BK630 := Aside0.mk (KeepBut.blk hk (g' := gb630) (o := .cells #[.slice none 0 0] 41 (0, 0)) (bk_ BK630.out) NB630_635.out (by simp)); replace BK631 := Aside0.mk (KeepBut.blk hk (g' := gb631) (o := .cells #[.slice none 0 0] 41 (0, 0)) (bk_ BK631.out) NB631_635.out (by simp)); replace HO638 := Aside0.mk (Kd.R_mono (Kd.R_keep (IsS95.apart (show IsS95 w _ g635 t632 t633 t634 from hi_ HI635.out) (kr_ HO638.out) (by decide)) hk (fun _ h => h.2)) (fun _ h => h.1)); replace HB := Aside0.mk (hb); replace HI635 := Aside0.mk (hi); (try clear hb); (try clear hb2); (try clear hk); (try clear hi)) | ((with_reducible refine gate_callee (f := 146) rfl ?_); refine gl_ 19 Try.func146 #[.string t639] ?_; (with_reducible refine (spec_ParseSemigroup.calls k t639 t642 t645 _ A4.out).mono ?_); rintro e w18 ⟨v643, rfl, ho0, hb⟩; refine ⟨_, rfl, ?_⟩; replace HO638 := rb_ HO638 hb; have HO644 := rl_ ho0 HB; replace BK630 := bb_ BK630 hb; replace BK631 := bb_ BK631 hb; replace HI635 := Aside0.mk (IsS95.below (hi_ HI635.out) hb); replace HB := bs_ HB hb; (try clear hb); (try clear hb2); (try clear hk); (try clear hi); (try clear ho0)) | ((with_reducible refine gate_dst (N := 7) rfl ?_); refine be_ 7 #[.slice none 0 0] 41 fun gb646 hg w19 hbox hb => ?_; replace HO638 := rb_ HO638 hb; replace HO644 := rb_ HO644 hb; have BK646 := Aside0.mk (hbox); have GW646 := ge_ hg HB; have GE646 := ge_ hg HB; replace HB := bs_ HB hb; have NB630_646 := nl_ hg BK630; have NB646_630 := ng_ hg BK630; replace BK630 := bb_ BK630 hb; have NB631_646 := nl_ hg BK631; have NB646_631 := ng_ hg BK631; replace BK631 := bb_ BK631 hb; have NB635_646 := Aside0.mk ((by rw [hg]; exact Nat.ne_of_lt (IsS95.lt (show IsS95 w _ g635 t632 t640 t641 from hi_ HI635.out)) : g635 ≠ gb646)); have NB646_635 := Aside0.mk ((by rw [hg]; exact Nat.ne_of_gt (IsS95.lt (show IsS95 w _ g635 t632 t640 t641 from hi_ HI635.out)) : gb646 ≠ g635)); replace HI635 := Aside0.mk (IsS95.below (hi_ HI635.out) hb); clear hb hbox hg; obtain ⟨Ao20, co20, eo20⟩ := Kd.R_slice HO644.out; subst eo20; have hnb21 := NB646_630.out; have hnc21 := NB630_646.out; have hnb22 := NB646_631.out; have hnc22 := NB631_646.out; have hnb23 := NB646_635.out; have hnc23 := NB635_646.out; have hcz24_0 := bc_ BK646; have hfz24_0 := blk_frozen BK646.out 0) | ((with_reducible refine gate_dst (N := 24) rfl ?_); refine Kd.R_lit Kd.string _ 9 ?hg (N := 24) ?hd (xs := ([(⟨#[60, 49, 62]⟩ : ByteArray), (⟨#[60, 50, 44, 51, 62]⟩ : ByteArray), (⟨#[60, 49, 62]⟩ : ByteArray), (⟨#[60, 50, 44, 53, 62]⟩ : ByteArray)] : List ByteArray)) (inner := [.string (⟨#[60, 49, 62]⟩ : ByteArray), .string (⟨#[60, 50, 44, 51, 62]⟩ : ByteArray), .string (⟨#[60, 49, 62]⟩ : ByteArray), .string (⟨#[60, 50, 44, 53, 62]⟩ : ByteArray)]) (ok := fun _ => True) (okp := fun _ => True) ?hr ?hp (fun _ hk => hk) trivial (Below.refl _ _) (Nat.le_refl _) (by simp) ?_; (case hd => rfl); (case hg => rfl); (case hr => first | (go_simp; done) | (go_simp; rfl)); (case hp => exact (Reps.one (show Kd.M Kd.string _ _ _ (⟨#[60, 49, 62]⟩ : ByteArray) [.string (⟨#[60, 49, 62]⟩ : ByteArray)] from rfl) (Reps.one (show Kd.M Kd.string _ _ _ (⟨#[60, 50, 44, 51, 62]⟩ : ByteArray) [.string (⟨#[60, 50, 44, 51, 62]⟩ : ByteArray)] from rfl) (Reps.one (show Kd.M Kd.string _ _ _ (⟨#[60, 49, 62]⟩ : ByteArray) [.string (⟨#[60, 49, 62]⟩ : ByteArray)] from rfl) (Reps.one (show Kd.M Kd.string _ _ _ (⟨#[60, 50, 44, 53, 62]⟩ : ByteArray) [.string (⟨#[60, 50, 44, 53, 62]⟩ : ByteArray)] from rfl) (Reps.none _ _)))))); intro v648 w25 ho26 hb hg_ hnew_; clear hg_ hnew_; (first | rw [← Ny647.out] at ho26 | (simp only [Int.reduceToNat] at ho26; rw [← Ny647.out] at ho26)); replace HO644 := Aside0.mk (Kd.R_below (kr_ ((Kd.R_mono (Kd.R_far (p := ⟨gb646, 0, none⟩) (Kd.R_types HO644.out BK646.out (by decide)) (fun _ hk => hk.2) (.slice Ao20 t642.length co20)) (fun _ h_ => h_.1)))) hb); have HO649 := Aside0.mk (Kd.R_lower (Kd.R_new' ho26 (Kd.R_lt (kr_ ((Kd.R_mono (Kd.R_far (p := ⟨gb646, 0, none⟩) (Kd.R_types HO638.out BK646.out (by decide)) (fun _ hk => hk.2) (.slice Ao20 t642.length co20)) (fun _ h_ => h_.1)))))) (below_size (bl_ HB.out))); replace HO638 := Aside0.mk (Kd.R_elder' (kr_ ((Kd.R_mono (Kd.R_far (p := ⟨gb646, 0, none⟩) (Kd.R_types HO638.out BK646.out (by decide)) (fun _ hk => hk.2) (.slice Ao20 t642.length co20)) (fun _ h_ => h_.1)))) (Kd.R_base ho26) hb); replace BK630 := Aside0.mk (blk_below (g := gb630) (o := .cells #[.slice none 0 0] 41 (0, 0)) (bf_ BK630.out) hb); replace BK631 := Aside0.mk (blk_below (g := gb631) (o := .cells #[.slice none 0 0] 41 (0, 0)) (bf_ BK631.out) hb); replace HI635 := Aside0.mk (IsS95.below (show IsS95 w (w19.setCell ⟨gb646, 0, none⟩ (.slice Ao20 t642.length co20)) g635 t632 t640 t641 from hi_ HI635.out) hb); replace BK646 := Aside0.mk (blk_below (g := gb646) (o := .cells #[.slice Ao20 t642.length co20] 41 (0, 0)) (by (with_reducible repeat (first | refine blk_drewN ?_ _ | refine blk_drew ?_ | refine blk_alloc ?_ _)); refine blk_put (cs := #[.slice none 0 0]) ?_ 0 _ rfl; (with_reducible repeat (first | refine blk_drewN ?_ _ | refine blk_drew ?_ | refine blk_alloc ?_ _)); exact BK646.out) hb); replace HB := bs_ HB hb; clear hb ho26; obtain ⟨Ao27, co27, eo27⟩ := Kd.R_slice HO649.out; subst eo27) | ((with_reducible refine gate_callee (f := 147) rfl ?_); refine gl_ 25 Try.func147 #[.pointer (some ⟨g635, 0, none⟩), .slice Ao27 y647.length co27] ?_; (with_reducible refine (spec_l1Pick.calls g635 t632 t640 t641 _ _ y647 t650 t651 t652 w _ ?side1 ?side2 ?side3 ?side4 ?side5 A5.out).mono ?_); (case side1 => exact hi_ HI635.out); (case side2 => exact bl_ HB.out); (case side3 => exact rs_ HO649); (case side4 => exact (Kd.R_reads' HO649.out).2.1); (case side5 => exact far_slice (IsS95.own_ne HI635.out HO649.out (by decide))); rintro e w28 ⟨rfl, hi, hb, hk⟩; refine ⟨_, rfl, ?_⟩; replace BK630 := Aside0.mk (KeepBut.blk hk (g' := gb630) (o := .cells #[.slice none 0 0] 41 (0, 0)) (bk_ BK630.out) NB630_635.out (by simp)); replace BK631 := Aside0.mk (KeepBut.blk hk (g' := gb631) (o := .cells #[.slice none 0 0] 41 (0, 0)) (bk_ BK631.out) NB631_635.out (by simp)); replace HO638 := Aside0.mk (Kd.R_mono (Kd.R_keep (IsS95.apart (show IsS95 w _ g635 t632 t640 t641 from hi_ HI635.out) (kr_ HO638.out) (by decide)) hk (fun _ h => h.2)) (fun _ h => h.1)); replace HO644 := Aside0.mk (Kd.R_mono (Kd.R_keep (IsS95.apart (show IsS95 w _ g635 t632 t640 t641 from hi_ HI635.out) (kr_ HO644.out) (by decide)) hk (fun _ h => h.2)) (fun _ h => h.1)); replace BK646 := Aside0.mk (KeepBut.blk hk (g' := gb646) (o := .cells #[.slice Ao20 t642.length co20] 41 (0, 0)) (bk_ BK646.out) NB646_635.out (by simp)); replace HO649 := Aside0.mk (Kd.R_mono (Kd.R_keep (IsS95.apart (show IsS95 w _ g635 t632 t640 t641 from hi_ HI635.out) (kr_ HO649.out) (by decide)) hk (fun _ h => h.2)) (fun _ h => h.1)); replace HB := Aside0.mk (hb); replace HI635 := Aside0.mk (hi); (try clear hb); (try clear hb2); (try clear hk); (try clear hi)) | ((with_reducible refine gate_callee (f := 146) rfl ?_); refine gl_ 26 Try.func146 #[.string t650] ?_; (with_reducible refine (spec_ParseSemigroup.calls k t650 t653 t656 _ A6.out).mono ?_); rintro e w29 ⟨v654, rfl, ho0, hb⟩; refine ⟨_, rfl, ?_⟩; replace HO638 := rb_ HO638 hb; replace HO649 := rb_ HO649 hb; have HO655 := Aside0.mk (Kd.R_lower (Kd.R_new' ho0 (Kd.R_lt (kr_ HO644.out))) (below_size (bl_ HB.out))); replace HO644 := Aside0.mk (Kd.R_elder' (kr_ HO644.out) (Kd.R_base ho0) hb); replace BK630 := bb_ BK630 hb; replace BK631 := bb_ BK631 hb; replace HI635 := Aside0.mk (IsS95.below (hi_ HI635.out) hb); replace BK646 := bb_ BK646 hb; replace HB := bs_ HB hb; (try clear hb); (try clear hb2); (try clear hk); (try clear hi); (try clear ho0)) | ((with_reducible refine gate_dst (N := 9) rfl ?_); refine be_ 9 #[.slice none 0 0] 41 fun gb657 hg w30 hbox hb => ?_; replace HO638 := rb_ HO638 hb; replace HO644 := rb_ HO644 hb; replace HO649 := rb_ HO649 hb; replace HO655 := rb_ HO655 hb; have BK657 := Aside0.mk (hbox); have GW657 := ge_ hg HB; have GE657 := ge_ hg HB; replace HB := bs_ HB hb; have NB630_657 := nl_ hg BK630; have NB657_630 := ng_ hg BK630; replace BK630 := bb_ BK630 hb; have NB631_657 := nl_ hg BK631; have NB657_631 := ng_ hg BK631; replace BK631 := bb_ BK631 hb; have NB646_657 := nl_ hg BK646; have NB657_646 := ng_ hg BK646; replace BK646 := bb_ BK646 hb; have NB635_657 := Aside0.mk ((by rw [hg]; exact Nat.ne_of_lt (IsS95.lt (show IsS95 w _ g635 t632 t651 t652 from hi_ HI635.out)) : g635 ≠ gb657)); have NB657_635 := Aside0.mk ((by rw [hg]; exact Nat.ne_of_gt (IsS95.lt (show IsS95 w _ g635 t632 t651 t652 from hi_ HI635.out)) : gb657 ≠ g635)); replace HI635 := Aside0.mk (IsS95.below (hi_ HI635.out) hb); clear hb hbox hg; obtain ⟨Ao31, co31, eo31⟩ := Kd.R_slice HO655.out; subst eo31; have hnb32 := NB657_630.out; have hnc32 := NB630_657.out; have hnb33 := NB657_631.out; have hnc33 := NB631_657.out; have hnb34 := NB657_646.out; have hnc34 := NB646_657.out; have hnb35 := NB657_635.out; have hnc35 := NB635_657.out; have hcz36_0 := bc_ BK657; have hfz36_0 := blk_frozen BK657.out 0) | ((with_reducible refine gate_callee (f := 82) rfl ?_); refine gl_ 30 Try.func82 #[.pointer (some ⟨g635, 0, none⟩), .int .i64 10] ?_; (with_reducible refine (spec_l1Below.calls g635 t632 t651 t652 10 t658 t659 t660 w _ ?side1 ?side2 A7.out).mono ?_); (case side1 => exact hi_ HI635.out); (case side2 => exact bl_ HB.out); rintro e w37 ⟨rfl, hi, hb, hk⟩; refine ⟨_, rfl, ?_⟩; replace BK630 := Aside0.mk (KeepBut.blk hk (g' := gb630) (o := .cells #[.slice none 0 0] 41 (0, 0)) (bf_ BK630.out) NB630_635.out (by simp)); replace BK631 := Aside0.mk (KeepBut.blk hk (g' := gb631) (o := .cells #[.slice none 0 0] 41 (0, 0)) (bf_ BK631.out) NB631_635.out (by simp)); replace HO638 := Aside0.mk (Kd.R_mono (Kd.R_keep (IsS95.apart (show IsS95 w _ g635 t632 t651 t652 from hi_ HI635.out) (kr_ ((Kd.R_mono (Kd.R_far (p := ⟨gb657, 0, none⟩) (Kd.R_types HO638.out BK657.out (by decide)) (fun _ hk => hk.2) (.slice Ao31 t653.length co31)) (fun _ h_ => h_.1)))) (by decide)) hk (fun _ h => h.2)) (fun _ h => h.1)); replace HO644 := Aside0.mk (Kd.R_mono (Kd.R_keep (IsS95.apart (show IsS95 w _ g635 t632 t651 t652 from hi_ HI635.out) (kr_ ((Kd.R_mono (Kd.R_far (p := ⟨gb657, 0, none⟩) (Kd.R_types HO644.out BK657.out (by decide)) (fun _ hk => hk.2) (.slice Ao31 t653.length co31)) (fun _ h_ => h_.1)))) (by decide)) hk (fun _ h => h.2)) (fun _ h => h.1)); replace BK646 := Aside0.mk (KeepBut.blk hk (g' := gb646) (o := .cells #[.slice Ao20 t642.length co20] 41 (0, 0)) (bf_ BK646.out) NB646_635.out (by simp)); replace HO649 := Aside0.mk (Kd.R_mono (Kd.R_keep (IsS95.apart (show IsS95 w _ g635 t632 t651 t652 from hi_ HI635.out) (kr_ ((Kd.R_mono (Kd.R_far (p := ⟨gb657, 0, none⟩) (Kd.R_types HO649.out BK657.out (by decide)) (fun _ hk => hk.2) (.slice Ao31 t653.length co31)) (fun _ h_ => h_.1)))) (by decide)) hk (fun _ h => h.2)) (fun _ h => h.1)); replace HO655 := Aside0.mk (Kd.R_mono (Kd.R_keep (IsS95.apart (show IsS95 w _ g635 t632 t651 t652 from hi_ HI635.out) (kr_ ((Kd.R_mono (Kd.R_far (p := ⟨gb657, 0, none⟩) (Kd.R_types HO655.out BK657.out (by decide)) (fun _ hk => hk.2) (.slice Ao31 t653.length co31)) (fun _ h_ => h_.1)))) (by decide)) hk (fun _ h => h.2)) (fun _ h => h.1)); replace BK657 := Aside0.mk (KeepBut.blk hk (g' := gb657) (o := .cells #[.slice Ao31 t653.length co31] 41 (0, 0)) (by (with_reducible repeat (first | refine blk_drewN ?_ _ | refine blk_drew ?_ | refine blk_alloc ?_ _)); refine blk_put (cs := #[.slice none 0 0]) ?_ 0 _ rfl; (with_reducible repeat (first | refine blk_drewN ?_ _ | refine blk_drew ?_ | refine blk_alloc ?_ _)); exact BK657.out) NB657_635.out (by simp)); replace HB := Aside0.mk (hb); replace HI635 := Aside0.mk (hi); (try clear hb); (try clear hb2); (try clear hk); (try clear hi)) | ((with_reducible refine gate_callee (f := 82) rfl ?_); refine gl_ 33 Try.func82 #[.pointer (some ⟨g635, 0, none⟩), .int .i64 10] ?_; (with_reducible refine (spec_l1Below.calls g635 t632 t659 t660 10 t661 t662 t663 w _ ?side1 ?side2 A8.out).mono ?_); (case side1 => exact hi_ HI635.out); (case side2 => exact bl_ HB.out); rintro e w38 ⟨rfl, hi, hb, hk⟩; refine ⟨_, rfl, ?_⟩; replace BK630 := Aside0.mk (KeepBut.blk hk (g' := gb630) (o := .cells #[.slice none 0 0] 41 (0, 0)) (bk_ BK630.out) NB630_635.out (by simp)); replace BK631 := Aside0.mk (KeepBut.blk hk (g' := gb631) (o := .cells #[.slice none 0 0] 41 (0, 0)) (bk_ BK631.out) NB631_635.out (by simp)); replace HO638 := Aside0.mk (Kd.R_mono (Kd.R_keep (IsS95.apart (show IsS95 w _ g635 t632 t659 t660 from hi_ HI635.out) (kr_ HO638.out) (by decide)) hk (fun _ h => h.2)) (fun _ h => h.1)); replace HO644 := Aside0.mk (Kd.R_mono (Kd.R_keep (IsS95.apart (show IsS95 w _ g635 t632 t659 t660 from hi_ HI635.out) (kr_ HO644.out) (by decide)) hk (fun _ h => h.2)) (fun _ h => h.1)); replace BK646 := Aside0.mk (KeepBut.blk hk (g' := gb646) (o := .cells #[.slice Ao20 t642.length co20] 41 (0, 0)) (bk_ BK646.out) NB646_635.out (by simp)); replace HO649 := Aside0.mk (Kd.R_mono (Kd.R_keep (IsS95.apart (show IsS95 w _ g635 t632 t659 t660 from hi_ HI635.out) (kr_ HO649.out) (by decide)) hk (fun _ h => h.2)) (fun _ h => h.1)); replace HO655 := Aside0.mk (Kd.R_mono (Kd.R_keep (IsS95.apart (show IsS95 w _ g635 t632 t659 t660 from hi_ HI635.out) (kr_ HO655.out) (by decide)) hk (fun _ h => h.2)) (fun _ h => h.1)); replace BK657 := Aside0.mk (KeepBut.blk hk (g' := gb657) (o := .cells #[.slice Ao31 t653.length co31] 41 (0, 0)) (bk_ BK657.out) NB657_635.out (by simp)); replace HB := Aside0.mk (hb); replace HI635 := Aside0.mk (hi); (try clear hb); (try clear hb2); (try clear hk); (try clear hi)) | ((with_reducible refine gate_callee (f := 148) rfl ?_); refine gl_ 36 Try.func148 #[.pointer (some ⟨g635, 0, none⟩), .int .i64 12] ?_; (with_reducible refine (spec_l1Once.calls g635 t632 t662 t663 12 t664 t665 t666 w _ ?side1 ?side2 A9.out).mono ?_); (case side1 => exact hi_ HI635.out); (case side2 => exact bl_ HB.out); rintro e w39 ⟨rfl, hi, hb, hk⟩; refine ⟨_, rfl, ?_⟩; replace BK630 := Aside0.mk (KeepBut.blk hk (g' := gb630) (o := .cells #[.slice none 0 0] 41 (0, 0)) (bk_ BK630.out) NB630_635.out (by simp)); replace BK631 := Aside0.mk (KeepBut.blk hk (g' := gb631) (o := .cells #[.slice none 0 0] 41 (0, 0)) (bk_ BK631.out) NB631_635.out (by simp)); replace HO638 := Aside0.mk (Kd.R_mono (Kd.R_keep (IsS95.apart (show IsS95 w _ g635 t632 t662 t663 from hi_ HI635.out) (kr_ HO638.out) (by decide)) hk (fun _ h => h.2)) (fun _ h => h.1)); replace HO644 := Aside0.mk (Kd.R_mono (Kd.R_keep (IsS95.apart (show IsS95 w _ g635 t632 t662 t663 from hi_ HI635.out) (kr_ HO644.out) (by decide)) hk (fun _ h => h.2)) (fun _ h => h.1)); replace BK646 := Aside0.mk (KeepBut.blk hk (g' := gb646) (o := .cells #[.slice Ao20 t642.length co20] 41 (0, 0)) (bk_ BK646.out) NB646_635.out (by simp)); replace HO649 := Aside0.mk (Kd.R_mono (Kd.R_keep (IsS95.apart (show IsS95 w _ g635 t632 t662 t663 from hi_ HI635.out) (kr_ HO649.out) (by decide)) hk (fun _ h => h.2)) (fun _ h => h.1)); replace HO655 := Aside0.mk (Kd.R_mono (Kd.R_keep (IsS95.apart (show IsS95 w _ g635 t632 t662 t663 from hi_ HI635.out) (kr_ HO655.out) (by decide)) hk (fun _ h => h.2)) (fun _ h => h.1)); replace BK657 := Aside0.mk (KeepBut.blk hk (g' := gb657) (o := .cells #[.slice Ao31 t653.length co31] 41 (0, 0)) (bk_ BK657.out) NB657_635.out (by simp)); replace HB := Aside0.mk (hb); replace HI635 := Aside0.mk (hi); (try clear hb); (try clear hb2); (try clear hk); (try clear hi)))
 (try simp only [Act.put, List.setIfInBounds_toArray, List.set_cons_zero, List.set_cons_succ])
 go_cut [11] (fun v11 wc => ∃ (kq : Nat) (x11_9 : Int) (x636001_9 : Int) (x636002_9 : Int), v11 = .int .i64 x11_9 ∧ Aside0 (spec_l22Case.j0 kq x11_9 (wrap64 (2 + t661)) t632 x636001_9 x636002_9 t642 t653 = some (r1, r2, r3, r4)) ∧ Aside0 (kq ≤ k) ∧ Aside0 (Kd.Q (Kd.int .i64) 3 wc w.heap.size (fun k_ => some k_ ≠ ((.slice Ao31 t653.length co31) : Value).ownBlock) (.slice Ao20 t642.length co20) t642) ∧ Aside0 (Kd.Q (Kd.int .i64) 3 wc w.heap.size (fun k_ => some k_ ≠ ((.slice Ao20 t642.length co20) : Value).ownBlock) (.slice Ao31 t653.length co31) t653) ∧ Aside0 (wc.heap[gb630]? = some (.cells #[(.slice none 0 0)] 41 (0, 0))) ∧ Aside0 (wc.heap[gb631]? = some (.cells #[(.slice none 0 0)] 41 (0, 0))) ∧ Aside0 (wc.heap[gb646]? = some (.cells #[(.slice Ao20 t642.length co20)] 41 (0, 0))) ∧ Aside0 (wc.heap[gb657]? = some (.cells #[(.slice Ao31 t653.length co31)] 41 (0, 0))) ∧ Aside0 (IsS95 w wc g635 t632 x636001_9 x636002_9) ∧ Aside0 (Below w.heap.size w wc))
 case first =>
  have H := HC10.out
  clear HC10
  by_cases c40 : t664 = true
  ·subst c40
   rw [if_pos rfl] at H
   obtain ⟨y667, hy667⟩ : ∃ y_ : List Int, y_ = (([0, 61, (-1), 1] : List Int)) := ⟨_, rfl⟩
   replace H : ((spec_l1PickInt.f t632 t665 t666 y667).bind fun bt670 => (spec_l22Case.j0 k bt670.1 (wrap64 (2 + t661)) t632 bt670.2.1 bt670.2.2 t642 t653)) = some (r1, r2, r3, r4) := hr_ hy667 H
   have Ny667 := Aside0.mk hy667
   clear hy667
   replace H := Option.bind_eq_some_iff.mp H
   obtain ⟨⟨t670, t671, t672⟩, A410, H⟩ := H
   (try dsimp only at H)
   have A41 := Aside0.mk A410
   clear A410
   have H' := Aside0.mk H
   clear H
   go_wp2_with (first | ((with_reducible refine gate_dst (N := 38) rfl ?_); refine Kd.R_lit (Kd.int .i64) _ 3 ?hg (N := 38) ?hd (xs := ([0, 61, (-1), 1] : List Int)) (inner := [.int .i64 0, .int .i64 61, .int .i64 (-1), .int .i64 1]) (ok := fun _ => True) (okp := fun _ => True) ?hr ?hp (fun _ hk => hk) trivial (Below.refl _ _) (Nat.le_refl _) (by simp) ?_; (case hd => rfl); (case hg => rfl); (case hr => first | (go_simp; done) | (go_simp; rfl)); (case hp => exact (Reps.one (show Kd.M (Kd.int .i64) _ _ _ 0 [.int .i64 0] from rfl) (Reps.one (show Kd.M (Kd.int .i64) _ _ _ 61 [.int .i64 61] from rfl) (Reps.one (show Kd.M (Kd.int .i64) _ _ _ (-1) [.int .i64 (-1)] from rfl) (Reps.one (show Kd.M (Kd.int .i64) _ _ _ 1 [.int .i64 1] from rfl) (Reps.none _ _)))))); intro v668 w42 ho43 hb hg_ hnew_; clear hg_ hnew_; (first | rw [← Ny667.out] at ho43 | (simp only [Int.reduceToNat] at ho43; rw [← Ny667.out] at ho43)); replace HO638 := rb_ HO638 hb; replace HO649 := rb_ HO649 hb; have HO669 := Aside0.mk (Kd.R_lower (Kd.R_new' (Kd.R_new' ho43 (Kd.R_lt (kr_ HO644.out))) (Kd.R_lt (kr_ HO655.out))) (below_size (bl_ HB.out))); replace HO644 := Aside0.mk (Kd.R_elder' (kr_ HO644.out) (Kd.R_base ho43) hb); replace HO655 := Aside0.mk (Kd.R_elder' (kr_ HO655.out) (Kd.R_base ho43) hb); replace BK630 := bb_ BK630 hb; replace BK631 := bb_ BK631 hb; replace HI635 := Aside0.mk (IsS95.below (hi_ HI635.out) hb); replace BK646 := bb_ BK646 hb; replace BK657 := bb_ BK657 hb; replace HB := bs_ HB hb; clear hb ho43; obtain ⟨Ao44, co44, eo44⟩ := Kd.R_slice HO669.out; subst eo44) | ((with_reducible refine gate_callee (f := 84) rfl ?_); refine gl_ 39 Try.func84 #[.pointer (some ⟨g635, 0, none⟩), .slice Ao44 y667.length co44] ?_; (with_reducible refine (spec_l1PickInt.calls g635 t632 t665 t666 _ _ y667 t670 t671 t672 w _ ?side1 ?side2 ?side3 ?side4 ?side5 A41.out).mono ?_); (case side1 => exact hi_ HI635.out); (case side2 => exact bl_ HB.out); (case side3 => exact rs_ HO669); (case side4 => exact (Kd.R_reads' HO669.out).2.1); (case side5 => exact far_slice (IsS95.own_ne HI635.out HO669.out (by decide))); rintro e w45 ⟨rfl, hi, hb, hk⟩; refine ⟨_, rfl, ?_⟩; replace BK630 := Aside0.mk (KeepBut.blk hk (g' := gb630) (o := .cells #[.slice none 0 0] 41 (0, 0)) (bk_ BK630.out) NB630_635.out (by simp)); replace BK631 := Aside0.mk (KeepBut.blk hk (g' := gb631) (o := .cells #[.slice none 0 0] 41 (0, 0)) (bk_ BK631.out) NB631_635.out (by simp)); replace HO638 := Aside0.mk (Kd.R_mono (Kd.R_keep (IsS95.apart (show IsS95 w _ g635 t632 t665 t666 from hi_ HI635.out) (kr_ HO638.out) (by decide)) hk (fun _ h => h.2)) (fun _ h => h.1)); replace HO644 := Aside0.mk (Kd.R_mono (Kd.R_keep (IsS95.apart (show IsS95 w _ g635 t632 t665 t666 from hi_ HI635.out) (kr_ HO644.out) (by decide)) hk (fun _ h => h.2)) (fun _ h => h.1)); replace BK646 := Aside0.mk (KeepBut.blk hk (g' := gb646) (o := .cells #[.slice Ao20 t642.length co20] 41 (0, 0)) (bk_ BK646.out) NB646_635.out (by simp)); replace HO649 := Aside0.mk (Kd.R_mono (Kd.R_keep (IsS95.apart (show IsS95 w _ g635 t632 t665 t666 from hi_ HI635.out) (kr_ HO649.out) (by decide)) hk (fun _ h => h.2)) (fun _ h => h.1)); replace HO655 := Aside0.mk (Kd.R_mono (Kd.R_keep (IsS95.apart (show IsS95 w _ g635 t632 t665 t666 from hi_ HI635.out) (kr_ HO655.out) (by decide)) hk (fun _ h => h.2)) (fun _ h => h.1)); replace BK657 := Aside0.mk (KeepBut.blk hk (g' := gb657) (o := .cells #[.slice Ao31 t653.length co31] 41 (0, 0)) (bk_ BK657.out) NB657_635.out (by simp)); replace HO669 := Aside0.mk (Kd.R_mono (Kd.R_keep (IsS95.apart (show IsS95 w _ g635 t632 t665 t666 from hi_ HI635.out) (kr_ HO669.out) (by decide)) hk (fun _ h => h.2)) (fun _ h => h.1)); replace HB := Aside0.mk (hb); replace HI635 := Aside0.mk (hi); (try clear hb); (try clear hb2); (try clear hk); (try clear hi)))
   go_meet
   case rel => exact ⟨_, (t670), (t671), (t672), sd_, H', ⟨le_⟩, ⟨Kd.Q_of_R (kr_ (Kd.R_mono HO644.out (fun _ hk => hk.1.2)))⟩, ⟨Kd.Q_of_R (kr_ (Kd.R_mono HO655.out (fun _ hk => hk.1.2)))⟩, ⟨bk_ BK630.out⟩, ⟨bk_ BK631.out⟩, ⟨bk_ BK646.out⟩, ⟨bk_ BK657.out⟩, ⟨hi_ HI635.out⟩, ⟨bl_ HB.out⟩⟩
  ·obtain rfl := Bool.eq_false_iff.mpr c40
   rw [if_neg nf_] at H
   have H' := Aside0.mk H
   clear H
   go_wp2
   go_meet
   case rel => exact ⟨_, (wrap64 (2 + t658)), (t665), (t666), sd_, H', ⟨le_⟩, ⟨Kd.Q_of_R (kr_ (Kd.R_mono HO644.out (fun _ hk => hk.2)))⟩, ⟨Kd.Q_of_R (kr_ (Kd.R_mono HO655.out (fun _ hk => hk.2)))⟩, ⟨bk_ BK630.out⟩, ⟨bk_ BK631.out⟩, ⟨bk_ BK646.out⟩, ⟨bk_ BK657.out⟩, ⟨hi_ HI635.out⟩, ⟨bl_ HB.out⟩⟩
 case rest =>
  clear HC10
  try clear c1
  try clear c2
  try clear p2
  try clear c3
  try clear c4
  try clear p6
  try clear c8
  try clear c11
  try clear c14
  try clear c21
  try clear c22
  try clear c23
  try clear c32
  try clear c33
  try clear c34
  try clear c35
  try clear c40
  try clear hcz24_0
  try clear hcz36_0
  try clear hfz24_0
  try clear hfz36_0
  obtain ⟨kq, x11_9, x636001_9, x636002_9, rfl, HA, HJ9, HO_647000, HO_658000, BK630, BK631, BK646, BK657, HI635, HB⟩ := hcut
  cases kq with
  | zero => exact absurd HA.out (by simp [spec_l22Case.j0])
  | succ kj9 =>
   have H := HA.out
   clear HA
   simp only [spec_l22Case.j0] at H
   replace H := Option.bind_eq_some_iff.mp H
   obtain ⟨⟨t673, t674, t675⟩, A460, H⟩ := H
   (try dsimp only at H)
   have A46 := Aside0.mk A460
   clear A460
   by_cases c47 : t673 = true
   ·subst c47
    rw [if_pos rfl] at H
    replace H := Option.bind_eq_some_iff.mp H
    obtain ⟨⟨t676, t679, t680⟩, A480, H⟩ := H
    (try dsimp only at H)
    have A48 := Aside0.mk A480
    clear A480
    simp only [Option.some.injEq, Prod.mk.injEq] at H
    obtain ⟨rfl, rfl, rfl, rfl⟩ := H
    try go_wp2_with (first | ((with_reducible refine gate_callee (f := 148) rfl ?_); refine gl_ 41 Try.func148 #[.pointer (some ⟨g635, 0, none⟩), .int .i64 12] ?_; (with_reducible refine (spec_l1Once.calls g635 t632 x636001_9 x636002_9 12 true t674 t675 w _ ?side1 ?side2 A46.out).mono ?_); (case side1 => exact hi_ HI635.out); (case side2 => exact bl_ HB.out); rintro e w49 ⟨rfl, hi, hb, hk⟩; refine ⟨_, rfl, ?_⟩; replace HO_647000 := Aside0.mk (Kd.Q_mono (Kd.Q_keep (IsS95.apartQ (show IsS95 w _ g635 t632 x636001_9 x636002_9 from hi_ HI635.out) (kq_ HO_647000.out) (by decide)) hk (fun _ h => h.2)) (fun _ h => h.1)); replace HO_658000 := Aside0.mk (Kd.Q_mono (Kd.Q_keep (IsS95.apartQ (show IsS95 w _ g635 t632 x636001_9 x636002_9 from hi_ HI635.out) (kq_ HO_658000.out) (by decide)) hk (fun _ h => h.2)) (fun _ h => h.1)); replace BK630 := Aside0.mk (KeepBut.blk hk (g' := gb630) (o := .cells #[.slice none 0 0] 41 (0, 0)) (bk_ BK630.out) NB630_635.out (by simp)); replace BK631 := Aside0.mk (KeepBut.blk hk (g' := gb631) (o := .cells #[.slice none 0 0] 41 (0, 0)) (bk_ BK631.out) NB631_635.out (by simp)); replace BK646 := Aside0.mk (KeepBut.blk hk (g' := gb646) (o := .cells #[.slice Ao20 t642.length co20] 41 (0, 0)) (bk_ BK646.out) NB646_635.out (by simp)); replace BK657 := Aside0.mk (KeepBut.blk hk (g' := gb657) (o := .cells #[.slice Ao31 t653.length co31] 41 (0, 0)) (bk_ BK657.out) NB657_635.out (by simp)); replace HB := Aside0.mk (hb); replace HI635 := Aside0.mk (hi); (try clear hb); (try clear hb2); (try clear hk); (try clear hi)) | ((with_reducible refine gate_callee (f := 91) rfl ?_); refine gl_ 43 Try.func91 #[.pointer (some ⟨g635, 0, none⟩)] ?_; (with_reducible refine (spec_l3Bent.calls kj9 g635 t632 t674 t675 t676 t679 t680 w _ ?side1 ?side2 A48.out).mono ?_); (case side1 => exact hi_ HI635.out); (case side2 => exact bl_ HB.out); rintro e w50 ⟨v677, rfl, ho0, hi, hb, hk⟩; refine ⟨_, rfl, ?_⟩; replace BK630 := Aside0.mk (KeepBut.blk hk (g' := gb630) (o := .cells #[.slice none 0 0] 41 (0, 0)) (bk_ BK630.out) NB630_635.out (by simp)); replace BK631 := Aside0.mk (KeepBut.blk hk (g' := gb631) (o := .cells #[.slice none 0 0] 41 (0, 0)) (bk_ BK631.out) NB631_635.out (by simp)); replace BK646 := Aside0.mk (KeepBut.blk hk (g' := gb646) (o := .cells #[.slice Ao20 t642.length co20] 41 (0, 0)) (bk_ BK646.out) NB646_635.out (by simp)); replace BK657 := Aside0.mk (KeepBut.blk hk (g' := gb657) (o := .cells #[.slice Ao31 t653.length co31] 41 (0, 0)) (bk_ BK657.out) NB657_635.out (by simp)); have HO678 := Aside0.mk (Kd.Q_lower (Kd.Q_new' (Kd.Q_new' ho0 (Kd.Q_lt (kq_ HO_647000.out))) (Kd.Q_lt (kq_ HO_658000.out))) (below_size (bl_ HB.out))); replace HO_647000 := Aside0.mk (Kd.Q_mono (Kd.Q_told (Kd.Q_oldK (IsS95.apartQ (show IsS95 w _ g635 t632 t674 t675 from hi_ HI635.out) (kq_ HO_647000.out) (by decide)) hk) (Kd.Q_base ho0)) (fun _ h_ => h_.1)); replace HO_658000 := Aside0.mk (Kd.Q_mono (Kd.Q_told (Kd.Q_oldK (IsS95.apartQ (show IsS95 w _ g635 t632 t674 t675 from hi_ HI635.out) (kq_ HO_658000.out) (by decide)) hk) (Kd.Q_base ho0)) (fun _ h_ => h_.1)); replace HB := Aside0.mk (hb); replace HI635 := Aside0.mk (hi); (try clear hb); (try clear hb2); (try clear hk); (try clear hi); (try clear ho0); obtain ⟨Ao51, co51, eo51, _⟩ := Kd.Q_slice HO678.out; subst eo51; have hnb52 := NB646_630.out; have hnc52 := NB630_646.out; have hnb53 := NB646_631.out; have hnc53 := NB631_646.out; have hnb54 := NB646_657.out; have hnc54 := NB657_646.out; have hnb55 := NB646_635.out; have hnc55 := NB635_646.out; have hcz56_0 := bc_ BK646; have hfz56_0 := blk_frozen BK646.out 0))
    have n0_ : Aside0 (Kd.Q (Kd.int .i64) 3 (w50.setCell ⟨gb646, 0, none⟩ (.slice Ao51 t676.length co51)) w.heap.size (fun k_ => some k_ ≠ (.slice Ao31 t653.length co31 : Value).ownBlock ∧ some k_ ≠ (.slice Ao51 t676.length co51 : Value).ownBlock) (.slice Ao20 t642.length co20) t642) := ⟨kq_ (Kd.Q_mono (Kd.Q_far (p := ⟨gb646, 0, none⟩) (Kd.Q_types HO_647000.out BK646.out (by decide)) (fun _ hk => hk.2) (.slice Ao51 t676.length co51)) (fun _ hk => ⟨hk.1.1, hk.1.2⟩))⟩
    have n1_ : Aside0 (Kd.Q (Kd.int .i64) 3 (w50.setCell ⟨gb646, 0, none⟩ (.slice Ao51 t676.length co51)) w.heap.size (fun k_ => some k_ ≠ (.slice Ao20 t642.length co20 : Value).ownBlock ∧ some k_ ≠ (.slice Ao51 t676.length co51 : Value).ownBlock) (.slice Ao31 t653.length co31) t653) := ⟨kq_ (Kd.Q_mono (Kd.Q_far (p := ⟨gb646, 0, none⟩) (Kd.Q_types HO_658000.out BK646.out (by decide)) (fun _ hk => hk.2) (.slice Ao51 t676.length co51)) (fun _ hk => ⟨hk.1.1, hk.1.2⟩))⟩
    have n2_ : Aside0 (Kd.Q (Kd.int .i64) 3 (w50.setCell ⟨gb646, 0, none⟩ (.slice Ao51 t676.length co51)) w.heap.size (fun k_ => some k_ ≠ (.slice Ao20 t642.length co20 : Value).ownBlock ∧ some k_ ≠ (.slice Ao31 t653.length co31 : Value).ownBlock) (.slice Ao51 t676.length co51) t676) := ⟨kq_ (Kd.Q_mono (Kd.Q_far (p := ⟨gb646, 0, none⟩) (Kd.Q_types HO678.out BK646.out (by decide)) (fun _ hk => hk.2) (.slice Ao51 t676.length co51)) (fun _ hk => ⟨hk.1.1.2, hk.1.2⟩))⟩
    have n3_ : Aside0 ((w50.setCell ⟨gb646, 0, none⟩ (.slice Ao51 t676.length co51)).heap[gb630]? = some (.cells #[.slice none 0 0] 41 (0, 0))) := ⟨bf_ BK630.out⟩
    have n4_ : Aside0 ((w50.setCell ⟨gb646, 0, none⟩ (.slice Ao51 t676.length co51)).heap[gb631]? = some (.cells #[.slice none 0 0] 41 (0, 0))) := ⟨bf_ BK631.out⟩
    have n5_ : Aside0 ((w50.setCell ⟨gb646, 0, none⟩ (.slice Ao51 t676.length co51)).heap[gb646]? = some (.cells #[.slice Ao51 t676.length co51] 41 (0, 0))) := ⟨by (with_reducible repeat (first | refine blk_drewN ?_ _ | refine blk_drew ?_ | refine blk_alloc ?_ _)); refine blk_put (cs := #[.slice Ao20 t642.length co20]) ?_ 0 _ rfl; (with_reducible repeat (first | refine blk_drewN ?_ _ | refine blk_drew ?_ | refine blk_alloc ?_ _)); exact BK646.out⟩
    have n6_ : Aside0 ((w50.setCell ⟨gb646, 0, none⟩ (.slice Ao51 t676.length co51)).heap[gb657]? = some (.cells #[.slice Ao31 t653.length co31] 41 (0, 0))) := ⟨bf_ BK657.out⟩
    have n7_ : Aside0 (IsS95 w (w50.setCell ⟨gb646, 0, none⟩ (.slice Ao51 t676.length co51)) g635 t632 t679 t680) := ⟨hi_ HI635.out⟩
    have n8_ : Aside0 (Below w.heap.size w (w50.setCell ⟨gb646, 0, none⟩ (.slice Ao51 t676.length co51))) := ⟨bl_ HB.out⟩
    (try clear HO_647000)
    (try clear HO_658000)
    (try clear HO678)
    (try clear BK630)
    (try clear BK631)
    (try clear BK646)
    (try clear BK657)
    (try clear HI635)
    (try clear HB)
    generalize (w50.setCell ⟨gb646, 0, none⟩ (.slice Ao51 t676.length co51)) = w57 at n0_ n1_ n2_ n3_ n4_ n5_ n6_ n7_ n8_ ⊢
    have HO_647000 := n0_
    have HO_658000 := n1_
    have HO678 := n2_
    have BK630 := n3_
    have BK631 := n4_
    have BK646 := n5_
    have BK657 := n6_
    have HI635 := n7_
    have HB := n8_
    clear n0_ n1_ n2_ n3_ n4_ n5_ n6_ n7_ n8_
    replace HO_647000 := Aside0.mk (Kd.Q_drew HO_647000.out)
    replace HO_658000 := Aside0.mk (Kd.Q_drew HO_658000.out)
    replace HO678 := Aside0.mk (Kd.Q_drew HO678.out)
    replace BK630 := Aside0.mk (blk_drew BK630.out)
    replace BK631 := Aside0.mk (blk_drew BK631.out)
    replace BK646 := Aside0.mk (blk_drew BK646.out)
    replace BK657 := Aside0.mk (blk_drew BK657.out)
    replace HI635 := Aside0.mk (IsS95.drew HI635.out)
    replace HB := Aside0.mk (below_drew1 HB.out)
    refine start_ (n := 8) (S := fun w' => w'.cell? ⟨gb646, 0, none⟩ = some (.slice Ao51 t676.length co51) ∧ w'.cell? ⟨gb657, 0, none⟩ = some (.slice Ao31 t653.length co31)) (ds := []) (fl_ 8 0) (by kernel_rfl) rfl rfl ⟨(blk_cell BK646.out 0).trans rfl, (blk_cell BK657.out 0).trans rfl⟩ (fun hHeld => ?_); refine with_tabW spec_l22Case.tab10 spec_l22Case.bits10 (fun HT_ HW_ => ?_)
    generalize w57.drew = w58 at HO_647000 HO_658000 HO678 BK630 BK631 BK646 BK657 HI635 HB hHeld ⊢
    refine pu_ 2 46 (fm_ 8 4) ?_
    refine pu_ 3 47 (fm_ 8 12) ?_
    refine ta_ 0 44 (fm_ 8 13) ?_
    refine ta_ 1 45 (fl_ 8 4) ?_
    refine one_ (i := 4) (N := none) (fl_ 8 5) rfl rfl (one_of HT_.out (by kernel_rfl)) (by decide) (fun K hK => ?_)
    have hs59 : w58.cell? ⟨gb630, 0, none⟩ = some (.slice none 0 0) := (blk_cell BK630.out 0).trans rfl
    have hfs59 := blk_frozen BK630.out 0
    have hns59_1 := NB631_630.out
    have hns59_2 := NB646_630.out
    have hns59_3 := NB657_630.out
    have hms59_1 := NB630_631.out
    have hms59_2 := NB630_646.out
    have hms59_3 := NB630_657.out
    refine skip_ (w1 := ?_) (by rfl) rfl ?_ ?_
    rotate_left
    ·go_simp
     rfl
    refine hK.out _ _ ⟨((cell_far (p := ⟨gb630, _, none⟩) NB646_630.out _).trans (hHeld.1)), ((cell_far (p := ⟨gb630, _, none⟩) NB657_630.out _).trans (hHeld.2))⟩ (fun hHeld => ?_)
    clear hK K
    refine one_ (i := 5) (N := none) (fl_ 8 6) rfl rfl (one_of HT_.out (by kernel_rfl)) (by decide) (fun K hK => ?_)
    have hs60 : w58.cell? ⟨gb631, 0, none⟩ = some (.slice none 0 0) := (blk_cell BK631.out 0).trans rfl
    have hfs60 := blk_frozen BK631.out 0
    have hns60_0 := NB630_631.out
    have hns60_2 := NB646_631.out
    have hns60_3 := NB657_631.out
    have hms60_0 := NB631_630.out
    have hms60_2 := NB631_646.out
    have hms60_3 := NB631_657.out
    refine skip_ (w1 := ?_) (by rfl) rfl ?_ ?_
    rotate_left
    ·go_simp
     rfl
    refine hK.out _ _ ⟨((cell_far (p := ⟨gb631, _, none⟩) NB646_631.out _).trans (hHeld.1)), ((cell_far (p := ⟨gb631, _, none⟩) NB657_631.out _).trans (hHeld.2))⟩ (fun hHeld => ?_)
    clear hK K
    refine pu_ 6 4 (fl_ 8 7) ?_
    refine pu_ 7 5 (fl_ 8 8) ?_
    refine done_ (done_of HT_.out (by kernel_rfl)) ?_
    try go_wp2
    refine bodyPost_ret (results_list (rs := [.cell 2 41, .cell 3 41, .tmp 4, .tmp 5]) rfl (by simp) (.cell gb630 41 #[.slice Ao51 t676.length co51] (0, 0) _ rfl (by (with_reducible repeat (first | refine blk_drewN ?_ _ | refine blk_drew ?_ | refine blk_alloc ?_ _)); refine blk_far ?_ NB630_631.out _; (with_reducible repeat (first | refine blk_drewN ?_ _ | refine blk_drew ?_ | refine blk_alloc ?_ _)); refine blk_put (cs := #[.slice none 0 0]) ?_ 0 _ rfl; (with_reducible repeat (first | refine blk_drewN ?_ _ | refine blk_drew ?_ | refine blk_alloc ?_ _)); exact BK630.out) Try.underlying41 rfl (by kernel_rfl) (.cell gb631 41 #[.slice Ao31 t653.length co31] (0, 0) _ rfl (by (with_reducible repeat (first | refine blk_drewN ?_ _ | refine blk_drew ?_ | refine blk_alloc ?_ _)); refine blk_put (cs := #[.slice none 0 0]) ?_ 0 _ rfl; (with_reducible repeat (first | refine blk_drewN ?_ _ | refine blk_drew ?_ | refine blk_alloc ?_ _)); refine blk_far ?_ NB631_630.out _; (with_reducible repeat (first | refine blk_drewN ?_ _ | refine blk_drew ?_ | refine blk_alloc ?_ _)); exact BK631.out) Try.underlying41 rfl (by kernel_rfl) (.tmp (.tmp .nil))))) rfl ?_
    exact ⟨_, _, er_, kq_ (Kd.Q_mono (Kd.Q_far (p := ⟨gb631, 0, none⟩) (Kd.Q_far (p := ⟨gb630, 0, none⟩) (Kd.Q_types (Kd.Q_types HO678.out BK630.out (by decide)) BK631.out (by decide)) (fun _ hk => hk.1.2) (.slice Ao51 t676.length co51)) (fun _ hk => hk.2) (.slice Ao31 t653.length co31)) (fun _ hk => hk.1.1.2)), kq_ (Kd.Q_mono (Kd.Q_far (p := ⟨gb631, 0, none⟩) (Kd.Q_far (p := ⟨gb630, 0, none⟩) (Kd.Q_types (Kd.Q_types HO_658000.out BK630.out (by decide)) BK631.out (by decide)) (fun _ hk => hk.1.2) (.slice Ao51 t676.length co51)) (fun _ hk => hk.2) (.slice Ao31 t653.length co31)) (fun _ hk => hk.1.1.2)), bl_ HB.out⟩
   ·obtain rfl := Bool.eq_false_iff.mpr c47
    rw [if_neg nf_] at H
    simp only [Option.some.injEq, Prod.mk.injEq] at H
    obtain ⟨rfl, rfl, rfl, rfl⟩ := H
    try go_wp2_with (first | ((with_reducible refine gate_callee (f := 148) rfl ?_); refine gl_ 41 Try.func148 #[.pointer (some ⟨g635, 0, none⟩), .int .i64 12] ?_; (with_reducible refine (spec_l1Once.calls g635 t632 x636001_9 x636002_9 12 false t674 t675 w _ ?side1 ?side2 A46.out).mono ?_); (case side1 => exact hi_ HI635.out); (case side2 => exact bl_ HB.out); rintro e w61 ⟨rfl, hi, hb, hk⟩; refine ⟨_, rfl, ?_⟩; replace HO_647000 := Aside0.mk (Kd.Q_mono (Kd.Q_keep (IsS95.apartQ (show IsS95 w _ g635 t632 x636001_9 x636002_9 from hi_ HI635.out) (kq_ HO_647000.out) (by decide)) hk (fun _ h => h.2)) (fun _ h => h.1)); replace HO_658000 := Aside0.mk (Kd.Q_mono (Kd.Q_keep (IsS95.apartQ (show IsS95 w _ g635 t632 x636001_9 x636002_9 from hi_ HI635.out) (kq_ HO_658000.out) (by decide)) hk (fun _ h => h.2)) (fun _ h => h.1)); replace BK630 := Aside0.mk (KeepBut.blk hk (g' := gb630) (o := .cells #[.slice none 0 0] 41 (0, 0)) (bk_ BK630.out) NB630_635.out (by simp)); replace BK631 := Aside0.mk (KeepBut.blk hk (g' := gb631) (o := .cells #[.slice none 0 0] 41 (0, 0)) (bk_ BK631.out) NB631_635.out (by simp)); replace BK646 := Aside0.mk (KeepBut.blk hk (g' := gb646) (o := .cells #[.slice Ao20 t642.length co20] 41 (0, 0)) (bk_ BK646.out) NB646_635.out (by simp)); replace BK657 := Aside0.mk (KeepBut.blk hk (g' := gb657) (o := .cells #[.slice Ao31 t653.length co31] 41 (0, 0)) (bk_ BK657.out) NB657_635.out (by simp)); replace HB := Aside0.mk (hb); replace HI635 := Aside0.mk (hi); (try clear hb); (try clear hb2); (try clear hk); (try clear hi)))
    replace HO_647000 := Aside0.mk (Kd.Q_drew HO_647000.out)
    replace HO_658000 := Aside0.mk (Kd.Q_drew HO_658000.out)
    replace BK630 := Aside0.mk (blk_drew BK630.out)
    replace BK631 := Aside0.mk (blk_drew BK631.out)
    replace BK646 := Aside0.mk (blk_drew BK646.out)
    replace BK657 := Aside0.mk (blk_drew BK657.out)
    replace HI635 := Aside0.mk (IsS95.drew HI635.out)
    replace HB := Aside0.mk (below_drew1 HB.out)
    refine start_ (n := 8) (S := fun w' => w'.cell? ⟨gb646, 0, none⟩ = some (.slice Ao20 t642.length co20) ∧ w'.cell? ⟨gb657, 0, none⟩ = some (.slice Ao31 t653.length co31)) (ds := []) (fl_ 8 0) (by kernel_rfl) rfl rfl ⟨(blk_cell BK646.out 0).trans rfl, (blk_cell BK657.out 0).trans rfl⟩ (fun hHeld => ?_); refine with_tabW spec_l22Case.tab10 spec_l22Case.bits10 (fun HT_ HW_ => ?_)
    generalize w61.drew = w62 at HO_647000 HO_658000 BK630 BK631 BK646 BK657 HI635 HB hHeld ⊢
    refine pu_ 2 46 (fm_ 8 4) ?_
    refine pu_ 3 47 (fm_ 8 12) ?_
    refine ta_ 0 44 (fm_ 8 13) ?_
    refine ta_ 1 45 (fl_ 8 4) ?_
    refine one_ (i := 4) (N := none) (fl_ 8 5) rfl rfl (one_of HT_.out (by kernel_rfl)) (by decide) (fun K hK => ?_)
    have hs63 : w62.cell? ⟨gb630, 0, none⟩ = some (.slice none 0 0) := (blk_cell BK630.out 0).trans rfl
    have hfs63 := blk_frozen BK630.out 0
    have hns63_1 := NB631_630.out
    have hns63_2 := NB646_630.out
    have hns63_3 := NB657_630.out
    have hms63_1 := NB630_631.out
    have hms63_2 := NB630_646.out
    have hms63_3 := NB630_657.out
    refine skip_ (w1 := ?_) (by rfl) rfl ?_ ?_
    rotate_left
    ·go_simp
     rfl
    refine hK.out _ _ ⟨((cell_far (p := ⟨gb630, _, none⟩) NB646_630.out _).trans (hHeld.1)), ((cell_far (p := ⟨gb630, _, none⟩) NB657_630.out _).trans (hHeld.2))⟩ (fun hHeld => ?_)
    clear hK K
    refine one_ (i := 5) (N := none) (fl_ 8 6) rfl rfl (one_of HT_.out (by kernel_rfl)) (by decide) (fun K hK => ?_)
    have hs64 : w62.cell? ⟨gb631, 0, none⟩ = some (.slice none 0 0) := (blk_cell BK631.out 0).trans rfl
    have hfs64 := blk_frozen BK631.out 0
    have hns64_0 := NB630_631.out
    have hns64_2 := NB646_631.out
    have hns64_3 := NB657_631.out
    have hms64_0 := NB631_630.out
    have hms64_2 := NB631_646.out
    have hms64_3 := NB631_657.out
    refine skip_ (w1 := ?_) (by rfl) rfl ?_ ?_
    rotate_left
    ·go_simp
     rfl
    refine hK.out _ _ ⟨((cell_far (p := ⟨gb631, _, none⟩) NB646_631.out _).trans (hHeld.1)), ((cell_far (p := ⟨gb631, _, none⟩) NB657_631.out _).trans (hHeld.2))⟩ (fun hHeld => ?_)
    clear hK K
    refine pu_ 6 4 (fl_ 8 7) ?_
    refine pu_ 7 5 (fl_ 8 8) ?_
    refine done_ (done_of HT_.out (by kernel_rfl)) ?_
    try go_wp2
    refine bodyPost_ret (results_list (rs := [.cell 2 41, .cell 3 41, .tmp 4, .tmp 5]) rfl (by simp) (.cell gb630 41 #[.slice Ao20 t642.length co20] (0, 0) _ rfl (by (with_reducible repeat (first | refine blk_drewN ?_ _ | refine blk_drew ?_ | refine blk_alloc ?_ _)); refine blk_far ?_ NB630_631.out _; (with_reducible repeat (first | refine blk_drewN ?_ _ | refine blk_drew ?_ | refine blk_alloc ?_ _)); refine blk_put (cs := #[.slice none 0 0]) ?_ 0 _ rfl; (with_reducible repeat (first | refine blk_drewN ?_ _ | refine blk_drew ?_ | refine blk_alloc ?_ _)); exact BK630.out) Try.underlying41 rfl (by kernel_rfl) (.cell gb631 41 #[.slice Ao31 t653.length co31] (0, 0) _ rfl (by (with_reducible repeat (first | refine blk_drewN ?_ _ | refine blk_drew ?_ | refine blk_alloc ?_ _)); refine blk_put (cs := #[.slice none 0 0]) ?_ 0 _ rfl; (with_reducible repeat (first | refine blk_drewN ?_ _ | refine blk_drew ?_ | refine blk_alloc ?_ _)); refine blk_far ?_ NB631_630.out _; (with_reducible repeat (first | refine blk_drewN ?_ _ | refine blk_drew ?_ | refine blk_alloc ?_ _)); exact BK631.out) Try.underlying41 rfl (by kernel_rfl) (.tmp (.tmp .nil))))) rfl ?_
    exact ⟨_, _, er_, kq_ (Kd.Q_mono (Kd.Q_far (p := ⟨gb631, 0, none⟩) (Kd.Q_far (p := ⟨gb630, 0, none⟩) (Kd.Q_types (Kd.Q_types HO_647000.out BK630.out (by decide)) BK631.out (by decide)) (fun _ hk => hk.1.2) (.slice Ao20 t642.length co20)) (fun _ hk => hk.2) (.slice Ao31 t653.length co31)) (fun _ hk => hk.1.1)), kq_ (Kd.Q_mono (Kd.Q_far (p := ⟨gb631, 0, none⟩) (Kd.Q_far (p := ⟨gb630, 0, none⟩) (Kd.Q_types (Kd.Q_types HO_658000.out BK630.out (by decide)) BK631.out (by decide)) (fun _ hk => hk.1.2) (.slice Ao20 t642.length co20)) (fun _ hk => hk.2) (.slice Ao31 t653.length co31)) (fun _ hk => hk.1.1)), bl_ HB.out⟩
def spec_DrawGlueOf.f (k : Nat) (l0 : List Int) : Option (List Int × List Int × Int × Int) := (spec_l22Case.f k l0).bind fun bt683 => (some (bt683.1, bt683.2.1, bt683.2.2.1, bt683.2.2.2))
def spec_DrawGlueOf.T2 : Bool × List (List Nat × List Nat) := (true, [([], []), ([], []), ([], []), ([], []), ([0, 0], [0]), ([1, 4, 0, 1, 4], [1]), ([2, 5, 0, 1, 2, 4, 5], [2]), ([3, 6, 0, 1, 2, 3, 4, 5, 6], [3])])
def spec_DrawGlueOf.B2 : List Nat := [0, 0, 0, 0, 1, 19, 55, 127]
theorem spec_DrawGlueOf.tab2 : rtab .any (opsOf Try.f65 2) = spec_DrawGlueOf.T2 := by kernel_rfl
theorem spec_DrawGlueOf.bits2 : waitsOk spec_DrawGlueOf.T2.2 spec_DrawGlueOf.B2 = true := by kernel_rfl
theorem spec_DrawGlueOf.calls (k : Nat) (A0 : Option Addr) (c0 : Nat) (l0 : List Int) (r1 : List Int) (r2 : List Int) (r3 : Int) (r4 : Int) (w : World) (hr0 : Kd.C (Kd.int .u8) w A0 l0.length l0) (hc0 : l0.length ≤ c0) (h : spec_DrawGlueOf.f k l0 = some (r1, r2, r3, r4)) :
 Calls Try.prog 65 #[.slice A0 l0.length c0] w fun e w' => ∃ v0_ v1_ : Value, e = .returned (.tuple #[.agg #[v0_], .agg #[v1_], .int .i64 r3, .int .i64 r4]) ∧ Kd.Q (Kd.int .i64) 3 w' w.heap.size (fun k_ => some k_ ≠ (v1_ : Value).ownBlock) v0_ r1 ∧ Kd.Q (Kd.int .i64) 3 w' w.heap.size (fun k_ => some k_ ≠ (v0_ : Value).ownBlock) v1_ r2 ∧ Below w.heap.size w w' := by
 have hu41 := Try.underlying41
 have HR0 := Aside0.mk hr0
 have HC0 := Aside0.mk hc0
 clear hr0 hc0
 have HB := Aside0.mk (Below.refl w.heap.size w)
 have H := h
 clear h
 unfold spec_DrawGlueOf.f at H
 replace H := Option.bind_eq_some_iff.mp H
 obtain ⟨⟨t683, t686, t689, t690⟩, A20, H⟩ := H
 (try dsimp only at H)
 have A2 := Aside0.mk A20
 clear A20
 simp only [Option.some.injEq, Prod.mk.injEq] at H
 obtain ⟨rfl, rfl, rfl, rfl⟩ := H
 go_enter Try.func65, Try.ntmps65
 try go_wp2_with (first | ((with_reducible refine gate_dst (N := 2) rfl ?_); refine be_ 2 #[.slice none 0 0] 41 fun gb681 hg w3 hbox hb => ?_; have BK681 := Aside0.mk (hbox); have GW681 := ge_ hg HB; have GE681 := ge_ hg HB; replace HB := bs_ HB hb; clear hb hbox hg) | ((with_reducible refine gate_dst (N := 3) rfl ?_); refine be_ 3 #[.slice none 0 0] 41 fun gb682 hg w4 hbox hb => ?_; have BK682 := Aside0.mk (hbox); have GW682 := ge_ hg HB; have GE682 := ge_ hg HB; replace HB := bs_ HB hb; have NB681_682 := nl_ hg BK681; have NB682_681 := ng_ hg BK681; replace BK681 := bb_ BK681 hb; clear hb hbox hg) | ((with_reducible refine gate_callee (f := 119) rfl ?_); refine gl_ 12 Try.func119 #[.slice A0 l0.length c0] ?_; (with_reducible refine (spec_l22Case.calls k _ _ l0 t683 t686 t689 t690 _ ?side1 ?side2 A2.out).mono ?_); (case side1 => exact cs_ HR0 HB); (case side2 => exact HC0.out); rintro e w5 ⟨v684, v687, rfl, ho0, ho1, hb⟩; refine ⟨_, rfl, ?_⟩; have HO685 := Aside0.mk (Kd.Q_lower ho0 (below_size (bl_ HB.out))); have HO688 := Aside0.mk (Kd.Q_lower ho1 (below_size (bl_ HB.out))); replace BK681 := bb_ BK681 hb; replace BK682 := bb_ BK682 hb; replace HB := bs_ HB hb; (try clear hb); (try clear hb2); (try clear hk); (try clear hi); (try clear ho0); (try clear ho1)) | ((with_reducible refine gate_dst (N := 6) rfl ?_); refine be_ 6 #[.slice none 0 0] 41 fun gb691 hg w6 hbox hb => ?_; replace HO685 := qb_ HO685 hb; replace HO688 := qb_ HO688 hb; have BK691 := Aside0.mk (hbox); have GW691 := ge_ hg HB; have GE691 := ge_ hg HB; replace HB := bs_ HB hb; have NB681_691 := nl_ hg BK681; have NB691_681 := ng_ hg BK681; replace BK681 := bb_ BK681 hb; have NB682_691 := nl_ hg BK682; have NB691_682 := ng_ hg BK682; replace BK682 := bb_ BK682 hb; clear hb hbox hg) | ((with_reducible refine gate_dst (N := 7) rfl ?_); refine be_ 7 #[.slice none 0 0] 41 fun gb692 hg w7 hbox hb => ?_; replace HO685 := qb_ HO685 hb; replace HO688 := qb_ HO688 hb; have BK692 := Aside0.mk (hbox); have GW692 := ge_ hg HB; have GE692 := ge_ hg HB; replace HB := bs_ HB hb; have NB681_692 := nl_ hg BK681; have NB692_681 := ng_ hg BK681; replace BK681 := bb_ BK681 hb; have NB682_692 := nl_ hg BK682; have NB692_682 := ng_ hg BK682; replace BK682 := bb_ BK682 hb; have NB691_692 := nl_ hg BK691; have NB692_691 := ng_ hg BK691; replace BK691 := bb_ BK691 hb; clear hb hbox hg; obtain ⟨Ao8, co8, eo8, _⟩ := Kd.Q_slice HO685.out; subst eo8; have hnb9 := NB691_681.out; have hnc9 := NB681_691.out; have hnb10 := NB691_682.out; have hnc10 := NB682_691.out; have hnb11 := NB691_692.out; have hnc11 := NB692_691.out; have hcz12_0 := bc_ BK691; have hfz12_0 := blk_frozen BK691.out 0; obtain ⟨Ao13, co13, eo13, _⟩ := Kd.Q_slice HO688.out; subst eo13; have hnb14 := NB692_681.out; have hnc14 := NB681_692.out; have hnb15 := NB692_682.out; have hnc15 := NB682_692.out; have hcz16_0 := bc_ BK692; have hfz16_0 := blk_frozen BK692.out 0))
 have n0_ : Aside0 (Kd.Q (Kd.int .i64) 3 ((w7.setCell ⟨gb691, 0, none⟩ (.slice Ao8 t683.length co8)).setCell ⟨gb692, 0, none⟩ (.slice Ao13 t686.length co13)) w.heap.size (fun k_ => some k_ ≠ (.slice Ao13 t686.length co13 : Value).ownBlock) (.slice Ao8 t683.length co8) t683) := ⟨kq_ (Kd.Q_mono (Kd.Q_far (p := ⟨gb692, 0, none⟩) (Kd.Q_far (p := ⟨gb691, 0, none⟩) (Kd.Q_types (Kd.Q_types HO685.out BK691.out (by decide)) BK692.out (by decide)) (fun _ hk => hk.1.2) (.slice Ao8 t683.length co8)) (fun _ hk => hk.2) (.slice Ao13 t686.length co13)) (fun _ hk => hk.1.1))⟩
 have n1_ : Aside0 (Kd.Q (Kd.int .i64) 3 ((w7.setCell ⟨gb691, 0, none⟩ (.slice Ao8 t683.length co8)).setCell ⟨gb692, 0, none⟩ (.slice Ao13 t686.length co13)) w.heap.size (fun k_ => some k_ ≠ (.slice Ao8 t683.length co8 : Value).ownBlock) (.slice Ao13 t686.length co13) t686) := ⟨kq_ (Kd.Q_mono (Kd.Q_far (p := ⟨gb692, 0, none⟩) (Kd.Q_far (p := ⟨gb691, 0, none⟩) (Kd.Q_types (Kd.Q_types HO688.out BK691.out (by decide)) BK692.out (by decide)) (fun _ hk => hk.1.2) (.slice Ao8 t683.length co8)) (fun _ hk => hk.2) (.slice Ao13 t686.length co13)) (fun _ hk => hk.1.1))⟩
 have n2_ : Aside0 (((w7.setCell ⟨gb691, 0, none⟩ (.slice Ao8 t683.length co8)).setCell ⟨gb692, 0, none⟩ (.slice Ao13 t686.length co13)).heap[gb681]? = some (.cells #[.slice none 0 0] 41 (0, 0))) := ⟨bf_ BK681.out⟩
 have n3_ : Aside0 (((w7.setCell ⟨gb691, 0, none⟩ (.slice Ao8 t683.length co8)).setCell ⟨gb692, 0, none⟩ (.slice Ao13 t686.length co13)).heap[gb682]? = some (.cells #[.slice none 0 0] 41 (0, 0))) := ⟨bf_ BK682.out⟩
 have n4_ : Aside0 (((w7.setCell ⟨gb691, 0, none⟩ (.slice Ao8 t683.length co8)).setCell ⟨gb692, 0, none⟩ (.slice Ao13 t686.length co13)).heap[gb691]? = some (.cells #[.slice Ao8 t683.length co8] 41 (0, 0))) := ⟨by (with_reducible repeat (first | refine blk_drewN ?_ _ | refine blk_drew ?_ | refine blk_alloc ?_ _)); refine blk_far ?_ NB691_692.out _; (with_reducible repeat (first | refine blk_drewN ?_ _ | refine blk_drew ?_ | refine blk_alloc ?_ _)); refine blk_put (cs := #[.slice none 0 0]) ?_ 0 _ rfl; (with_reducible repeat (first | refine blk_drewN ?_ _ | refine blk_drew ?_ | refine blk_alloc ?_ _)); exact BK691.out⟩
 have n5_ : Aside0 (((w7.setCell ⟨gb691, 0, none⟩ (.slice Ao8 t683.length co8)).setCell ⟨gb692, 0, none⟩ (.slice Ao13 t686.length co13)).heap[gb692]? = some (.cells #[.slice Ao13 t686.length co13] 41 (0, 0))) := ⟨by (with_reducible repeat (first | refine blk_drewN ?_ _ | refine blk_drew ?_ | refine blk_alloc ?_ _)); refine blk_put (cs := #[.slice none 0 0]) ?_ 0 _ rfl; (with_reducible repeat (first | refine blk_drewN ?_ _ | refine blk_drew ?_ | refine blk_alloc ?_ _)); refine blk_far ?_ NB692_691.out _; (with_reducible repeat (first | refine blk_drewN ?_ _ | refine blk_drew ?_ | refine blk_alloc ?_ _)); exact BK692.out⟩
 have n6_ : Aside0 (Below w.heap.size w ((w7.setCell ⟨gb691, 0, none⟩ (.slice Ao8 t683.length co8)).setCell ⟨gb692, 0, none⟩ (.slice Ao13 t686.length co13))) := ⟨bl_ HB.out⟩
 (try clear HO685)
 (try clear HO688)
 (try clear BK681)
 (try clear BK682)
 (try clear BK691)
 (try clear BK692)
 (try clear HB)
 generalize ((w7.setCell ⟨gb691, 0, none⟩ (.slice Ao8 t683.length co8)).setCell ⟨gb692, 0, none⟩ (.slice Ao13 t686.length co13)) = w17 at n0_ n1_ n2_ n3_ n4_ n5_ n6_ ⊢
 have HO685 := n0_
 have HO688 := n1_
 have BK681 := n2_
 have BK682 := n3_
 have BK691 := n4_
 have BK692 := n5_
 have HB := n6_
 clear n0_ n1_ n2_ n3_ n4_ n5_ n6_
 replace HO685 := Aside0.mk (Kd.Q_drew HO685.out)
 replace HO688 := Aside0.mk (Kd.Q_drew HO688.out)
 replace BK681 := Aside0.mk (blk_drew BK681.out)
 replace BK682 := Aside0.mk (blk_drew BK682.out)
 replace BK691 := Aside0.mk (blk_drew BK691.out)
 replace BK692 := Aside0.mk (blk_drew BK692.out)
 replace HB := Aside0.mk (below_drew1 HB.out)
 refine start_ (n := 8) (S := fun w' => w'.cell? ⟨gb691, 0, none⟩ = some (.slice Ao8 t683.length co8) ∧ w'.cell? ⟨gb692, 0, none⟩ = some (.slice Ao13 t686.length co13)) (ds := []) (fl_ 8 0) (by kernel_rfl) rfl rfl ⟨(blk_cell BK691.out 0).trans rfl, (blk_cell BK692.out 0).trans rfl⟩ (fun hHeld => ?_); refine with_tabW spec_DrawGlueOf.tab2 spec_DrawGlueOf.bits2 (fun HT_ HW_ => ?_)
 generalize w17.drew = w18 at HO685 HO688 BK681 BK682 BK691 BK692 HB hHeld ⊢
 refine pu_ 2 19 (fm_ 8 4) ?_
 refine pu_ 3 20 (fm_ 8 12) ?_
 refine ta_ 0 17 (fm_ 8 13) ?_
 refine ta_ 1 18 (fl_ 8 4) ?_
 refine one_ (i := 4) (N := none) (fl_ 8 5) rfl rfl (one_of HT_.out (by kernel_rfl)) (by decide) (fun K hK => ?_)
 have hs19 : w18.cell? ⟨gb681, 0, none⟩ = some (.slice none 0 0) := (blk_cell BK681.out 0).trans rfl
 have hfs19 := blk_frozen BK681.out 0
 have hns19_1 := NB682_681.out
 have hns19_2 := NB691_681.out
 have hns19_3 := NB692_681.out
 have hms19_1 := NB681_682.out
 have hms19_2 := NB681_691.out
 have hms19_3 := NB681_692.out
 refine skip_ (w1 := ?_) (by rfl) rfl ?_ ?_
 rotate_left
 ·go_simp
  rfl
 refine hK.out _ _ ⟨((cell_far (p := ⟨gb681, _, none⟩) NB691_681.out _).trans (hHeld.1)), ((cell_far (p := ⟨gb681, _, none⟩) NB692_681.out _).trans (hHeld.2))⟩ (fun hHeld => ?_)
 clear hK K
 refine one_ (i := 5) (N := none) (fl_ 8 6) rfl rfl (one_of HT_.out (by kernel_rfl)) (by decide) (fun K hK => ?_)
 have hs20 : w18.cell? ⟨gb682, 0, none⟩ = some (.slice none 0 0) := (blk_cell BK682.out 0).trans rfl
 have hfs20 := blk_frozen BK682.out 0
 have hns20_0 := NB681_682.out
 have hns20_2 := NB691_682.out
 have hns20_3 := NB692_682.out
 have hms20_0 := NB682_681.out
 have hms20_2 := NB682_691.out
 have hms20_3 := NB682_692.out
 refine skip_ (w1 := ?_) (by rfl) rfl ?_ ?_
 rotate_left
 ·go_simp
  rfl
 refine hK.out _ _ ⟨((cell_far (p := ⟨gb682, _, none⟩) NB691_682.out _).trans (hHeld.1)), ((cell_far (p := ⟨gb682, _, none⟩) NB692_682.out _).trans (hHeld.2))⟩ (fun hHeld => ?_)
 clear hK K
 refine pu_ 6 4 (fl_ 8 7) ?_
 refine pu_ 7 5 (fl_ 8 8) ?_
 refine done_ (done_of HT_.out (by kernel_rfl)) ?_
 try go_wp2
 refine bodyPost_ret (results_list (rs := [.cell 2 41, .cell 3 41, .tmp 4, .tmp 5]) rfl (by simp) (.cell gb681 41 #[.slice Ao8 t683.length co8] (0, 0) _ rfl (by (with_reducible repeat (first | refine blk_drewN ?_ _ | refine blk_drew ?_ | refine blk_alloc ?_ _)); refine blk_far ?_ NB681_682.out _; (with_reducible repeat (first | refine blk_drewN ?_ _ | refine blk_drew ?_ | refine blk_alloc ?_ _)); refine blk_put (cs := #[.slice none 0 0]) ?_ 0 _ rfl; (with_reducible repeat (first | refine blk_drewN ?_ _ | refine blk_drew ?_ | refine blk_alloc ?_ _)); exact BK681.out) Try.underlying41 rfl (by kernel_rfl) (.cell gb682 41 #[.slice Ao13 t686.length co13] (0, 0) _ rfl (by (with_reducible repeat (first | refine blk_drewN ?_ _ | refine blk_drew ?_ | refine blk_alloc ?_ _)); refine blk_put (cs := #[.slice none 0 0]) ?_ 0 _ rfl; (with_reducible repeat (first | refine blk_drewN ?_ _ | refine blk_drew ?_ | refine blk_alloc ?_ _)); refine blk_far ?_ NB682_681.out _; (with_reducible repeat (first | refine blk_drewN ?_ _ | refine blk_drew ?_ | refine blk_alloc ?_ _)); exact BK682.out) Try.underlying41 rfl (by kernel_rfl) (.tmp (.tmp .nil))))) rfl ?_
 exact ⟨_, _, er_, kq_ (Kd.Q_mono (Kd.Q_far (p := ⟨gb682, 0, none⟩) (Kd.Q_far (p := ⟨gb681, 0, none⟩) (Kd.Q_types (Kd.Q_types HO685.out BK681.out (by decide)) BK682.out (by decide)) (fun _ hk => hk.1.2) (.slice Ao8 t683.length co8)) (fun _ hk => hk.2) (.slice Ao13 t686.length co13)) (fun _ hk => hk.1.1)), kq_ (Kd.Q_mono (Kd.Q_far (p := ⟨gb682, 0, none⟩) (Kd.Q_far (p := ⟨gb681, 0, none⟩) (Kd.Q_types (Kd.Q_types HO688.out BK681.out (by decide)) BK682.out (by decide)) (fun _ hk => hk.1.2) (.slice Ao8 t683.length co8)) (fun _ hk => hk.2) (.slice Ao13 t686.length co13)) (fun _ hk => hk.1.1)), bl_ HB.out⟩
def spec_l2Draw.l0 : Nat → List Int → Int → Int → List Int → Int → Int → Option (List Int × Int × Int)
 | 0, _, _, _, _, _, _ => none
 | k + 1, x3, x4, x5, x1000, x1001, x1002 => if x5 < x4 then ((spec_l1Below.f x1000 x1001 x1002 25).bind fun bt699 => (if x3.length < 17592186044416 then (spec_l2Draw.l0 k (x3 ++ [wrap64 (bt699.1 - 4)]) x4 (wrap64 (x5 + 1)) x1000 bt699.2.1 bt699.2.2) else (none))) else (some (x3, x1001, x1002))
def spec_l2Draw.f (k : Nat) (s0_0 : List Int) (s0_1 : Int) (s0_2 : Int) : Option (List Int × Int × Int) := (spec_l1Below.f s0_0 s0_1 s0_2 6).bind fun bt696 => (spec_l2Draw.l0 k (([] : List Int)) bt696.1 0 s0_0 bt696.2.1 bt696.2.2)
theorem spec_l2Draw.calls (k : Nat) (g : Nat) (s0_0 : List Int) (s0_1 : Int) (s0_2 : Int) (r1 : List Int) (r2 : Int) (r3 : Int) (w0 w : World) (hI : IsS95 w0 w g s0_0 s0_1 s0_2) (hB : Below w0.heap.size w0 w) (h : spec_l2Draw.f k s0_0 s0_1 s0_2 = some (r1, r2, r3)) :
 Calls Try.prog 149 #[.pointer (some ⟨g, 0, none⟩)] w fun e w' => ∃ v0_ : Value, e = .returned (v0_) ∧ Kd.R (Kd.int .i64) 3 w' w.heap.size (fun _ => True) v0_ r1 ∧ IsS95 w0 w' g s0_0 r2 r3 ∧ Below w0.heap.size w0 w' ∧ KeepBut w w' g none := by
 have HI0 := Aside0.mk hI
 have HK := Aside0.mk (KeepBut.refl w g none)
 have HL := Aside0.mk hB.size
 clear hI
 have HW0 := Aside0.mk hB.size
 have HB := Aside0.mk hB
 clear hB
 have H := h
 clear h
 unfold spec_l2Draw.f at H
 obtain ⟨y693, hy693⟩ : ∃ y_ : List Int, y_ = (([] : List Int)) := ⟨_, rfl⟩
 replace H : ((spec_l1Below.f s0_0 s0_1 s0_2 6).bind fun bt696 => (spec_l2Draw.l0 k y693 bt696.1 0 s0_0 bt696.2.1 bt696.2.2)) = some (r1, r2, r3) := hr_ hy693 H
 have Ny693 := Aside0.mk hy693
 clear hy693
 replace H := Option.bind_eq_some_iff.mp H
 obtain ⟨⟨t696, t697, t698⟩, A20, H⟩ := H
 (try dsimp only at H)
 have A2 := Aside0.mk A20
 clear A20
 have H' := Aside0.mk H
 clear H
 go_enter Try.func149, Try.ntmps149
 go_wp2_with (first | ((with_reducible refine gate_dst (N := 6) rfl ?_); refine Kd.R_lit (Kd.int .i64) _ 3 ?hg (N := 6) ?hd (xs := ([] : List Int)) (inner := []) (ok := fun _ => True) (okp := fun _ => True) ?hr ?hp (fun _ hk => hk) trivial (Below.refl _ _) (Nat.le_refl _) (by simp) ?_; (case hd => rfl); (case hg => rfl); (case hr => first | (go_simp; done) | (go_simp; rfl)); (case hp => exact (Reps.none _ _)); intro v694 w3 ho4 hb hg_ hnew_; clear hg_ hnew_; (first | rw [← Ny693.out] at ho4 | (simp only [Int.reduceToNat] at ho4; rw [← Ny693.out] at ho4)); have HO695 := Aside0.mk (Kd.R_lower ho4 (keep_size (w := w) (g := g) (row := none) (kp_ HK.out))); replace HI0 := Aside0.mk (IsS95.below (hi_ HI0.out) hb); replace HK := Aside0.mk (KeepBut.trans (kp_ HK.out) (KeepBut.of_below hb g none) (.inl rfl)); replace HB := bs_ HB hb; clear hb ho4) | ((with_reducible refine gate_callee (f := 82) rfl ?_); refine gl_ 8 Try.func82 #[.pointer (some ⟨g, 0, none⟩), .int .i64 6] ?_; (with_reducible refine (spec_l1Below.calls g s0_0 s0_1 s0_2 6 t696 t697 t698 w0 _ ?side1 ?side2 A2.out).mono ?_); (case side1 => exact hi_ HI0.out); (case side2 => exact bl_ HB.out); rintro e w5 ⟨rfl, hi, hb, hk⟩; refine ⟨_, rfl, ?_⟩; replace HO695 := Aside0.mk (Kd.R_mono (Kd.R_keep (IsS95.apart (show IsS95 w0 _ g s0_0 s0_1 s0_2 from hi_ HI0.out) (kr_ HO695.out) (by decide)) hk (fun _ h => h.2)) (fun _ h => h.1)); replace HK := Aside0.mk (KeepBut.trans (kp_ HK.out) hk (.inl rfl)); replace HB := Aside0.mk (hb); replace HI0 := Aside0.mk (hi); (try clear hb); (try clear hb2); (try clear hk); (try clear hi)))
 go_loopg [3, 5] k (fun kq v3 v5 w' => ∃ (x3_1 : List Int) (x5_1 : Int) (x1001_1 : Int) (x1002_1 : Int), v5 = .int .i64 x5_1 ∧ Aside0 (spec_l2Draw.l0 kq x3_1 t696 x5_1 s0_0 x1001_1 x1002_1 = some (r1, r2, r3)) ∧ Aside0 (kq ≤ k) ∧ Aside0 (Kd.R (Kd.int .i64) 3 w' w.heap.size (fun _ => True) v3 x3_1) ∧ Aside0 (IsS95 w0 w' g s0_0 x1001_1 x1002_1) ∧ Aside0 (KeepBut w w' g none) ∧ Aside0 (Below w0.heap.size w0 w'))
 case atStart => exact ⟨(y693), (0), (t697), (t698), sd_, H', ⟨Nat.le_refl _⟩, ⟨kr_ HO695.out⟩, ⟨hi_ HI0.out⟩, ⟨kp_ HK.out⟩, ⟨bl_ HB.out⟩⟩
 case round =>
  clear H'
  try clear c1
  try clear p2
  obtain ⟨x3_1, x5_1, x1001_1, x1002_1, rfl, HA, HK1, HO_3, HI0, HK, HB⟩ := hrel
  cases gk with
  | zero => exact absurd HA.out (by simp [spec_l2Draw.l0])
  | succ k1 =>
   have H := HA.out
   clear HA
   simp only [spec_l2Draw.l0] at H
   by_cases c6 : x5_1 < t696
   ·rw [if_pos c6] at H
    have c6b0 : decide (x5_1 < t696) = true := decide_eq_true c6
    clear c6
    replace H := Option.bind_eq_some_iff.mp H
    obtain ⟨⟨t699, t700, t701⟩, A70, H⟩ := H
    (try dsimp only at H)
    have A7 := Aside0.mk A70
    clear A70
    by_cases c8 : x3_1.length < 17592186044416
    ·rw [if_pos c8] at H
     have LMc8 := Aside0.mk c8
     clear c8
     obtain ⟨y702, hy702⟩ : ∃ y_ : List Int, y_ = (x3_1 ++ [wrap64 (t699 - 4)]) := ⟨_, rfl⟩
     replace H : (spec_l2Draw.l0 k1 y702 t696 (wrap64 (x5_1 + 1)) s0_0 t700 t701) = some (r1, r2, r3) := hr_ hy702 H
     have Ny702 := Aside0.mk hy702
     clear hy702
     have H' := Aside0.mk H
     clear H
     go_wp2_with (first | ((with_reducible refine gate_callee (f := 82) rfl ?_); refine gl_ 16 Try.func82 #[.pointer (some ⟨g, 0, none⟩), .int .i64 25] ?_; (with_reducible refine (spec_l1Below.calls g s0_0 x1001_1 x1002_1 25 t699 t700 t701 w0 _ ?side1 ?side2 A7.out).mono ?_); (case side1 => exact hi_ HI0.out); (case side2 => exact bl_ HB.out); rintro e w9 ⟨rfl, hi, hb, hk⟩; refine ⟨_, rfl, ?_⟩; replace HO_3 := Aside0.mk (Kd.R_mono (Kd.R_keep (IsS95.apart (show IsS95 w0 _ g s0_0 x1001_1 x1002_1 from hi_ HI0.out) (kr_ HO_3.out) (by decide)) hk (fun _ h => h.2)) (fun _ h => h.1)); replace HK := Aside0.mk (KeepBut.trans (kp_ HK.out) hk (.inl rfl)); replace HB := Aside0.mk (hb); replace HI0 := Aside0.mk (hi); (try clear hb); (try clear hb2); (try clear hk); (try clear hi)) | ((with_reducible refine gate_builtin (b := .append) (xs := #[.tmp 14, .tmp 18]) rfl ?_); at_builtin; refine Kd.R_append (Kd.int .i64) w.heap.size rfl (.tmp 14) (.tmp 18) 22 3 (.int .i64 0) 8 rfl Try.underlying22 info3 rfl (by decide) (by omega) u3 x3_1 (wrap64 (t699 - 4)) [.int .i64 (wrap64 (t699 - 4))] (fun _ => True) (fun _ => False) rfl rfl ?aP (fun _ hk => hk.elim) ?aF ?aO (Below.refl _ _) ?aS ?aL ?_; (case aP => exact rfl); (case aF => exact (fun _ _ => trivial)); (case aO => exact (kr_ HO_3.out)); (case aS => exact (keep_size (w := w) (g := g) (row := none) (kp_ HK.out))); (case aL => have := LMc8.out; omega); intro v703 w10 ho hb hg hat; rw [← Ny702.out] at ho; have n0_ := Aside0.mk (IsS95.grown (hi_ HI0.out) hg (IsS95.own_ne HI0.out HO_3.out (by decide))); have n1_ := Aside0.mk (below_weaken (bl_ HB.out) HL.out hb); have n2_ := Aside0.mk (KeepBut.trans (kp_ HK.out) (KeepBut.of_grown hg g) (Kd.R_base2 HO_3.out)); have n3_ := Aside0.mk (ho); clear HI0; clear HB; clear HK; clear HO_3; have HI0 := n0_; have HB := n1_; have HK := n2_; have HO704 := n3_; clear n0_ n1_ n2_ n3_; clear ho hb hg hat))
     go_roundg k1
     case measure => have := HK1.out; omega
     case rel => exact ⟨(y702), (wrap64 (x5_1 + 1)), (t700), (t701), sd_, H', ⟨by have := HK1.out; omega⟩, ⟨kr_ HO704.out⟩, ⟨hi_ HI0.out⟩, ⟨kp_ HK.out⟩, ⟨bl_ HB.out⟩⟩
    ·rw [if_neg c8] at H
     exact absurd H (by simp)
   ·rw [if_neg c6] at H
    have c6b0 : decide (x5_1 < t696) = false := decide_eq_false c6
    clear c6
    simp only [Option.some.injEq, Prod.mk.injEq] at H
    obtain ⟨rfl, rfl, rfl⟩ := H
    go_wp2
    go_ret
    exact ⟨_, er_, kr_ HO_3.out, hi_ HI0.out, bl_ HB.out, kp_ HK.out⟩
def spec_l22List.f (k : Nat) (l0 : List Int) : Option (List Int) := (spec_l1New.f k l0).bind fun bt705 => ((spec_l1Once.f bt705.1 bt705.2.1 bt705.2.2 2).bind fun bt709 => (if bt709.1 = true then ((spec_l1Below.f bt705.1 bt709.2.1 bt709.2.2 4).bind fun bt712 => ((spec_l1Below.f bt705.1 bt712.2.1 bt712.2.2 4).bind fun bt715 => ((spec_l1Below.f bt705.1 bt715.2.1 bt715.2.2 3).bind fun bt718 => (some (([wrap64 ((wrap64 (2 + bt712.1)) * (wrap64 (2 + bt715.1))), wrap64 ((wrap64 (2 + bt712.1)) * (wrap64 ((wrap64 (2 + bt715.1)) + 1))), wrap64 ((wrap64 ((wrap64 (2 + bt712.1)) + 1)) * (wrap64 ((wrap64 (2 + bt715.1)) + bt718.1)))] : List Int)))))) else ((spec_l1Once.f bt705.1 bt709.2.1 bt709.2.2 3).bind fun bt724 => (if bt724.1 = true then ((spec_l2Draw.f k bt705.1 bt724.2.1 bt724.2.2).bind fun bt727 => (some bt727.1)) else ((some (([] : List Int) : List Int)).bind fun y732 => ((spec_l3Draw.f k bt705.1 bt724.2.1 bt724.2.2).bind fun bt735 => (if y732.length + bt735.1.length < 17592186044416 then (some (y732 ++ bt735.1)) else (none))))))))
theorem spec_l22List.calls (k : Nat) (A0 : Option Addr) (c0 : Nat) (l0 : List Int) (r : List Int) (w : World) (hr0 : Kd.C (Kd.int .u8) w A0 l0.length l0) (hc0 : l0.length ≤ c0) (h : spec_l22List.f k l0 = some r) :
 Calls Try.prog 120 #[.slice A0 l0.length c0] w fun e w' => ∃ v0_ : Value, e = .returned (v0_) ∧ Kd.R (Kd.int .i64) 3 w' w.heap.size (fun _ => True) v0_ r ∧ Below w.heap.size w w' := by
 have hu41 := Try.underlying41
 (try have hfd41 : ∀ (A_ : Option Addr) (n_ c_ : Nat) (W_ : World), Sem.run Try.prog (Instr.field 41 (.agg #[.slice A_ n_ c_]) 0) W_ = .ok (.slice A_ n_ c_) W_ := fun _ _ _ _ => rfl)
 have hu95 := Try.underlying95
 (try have hfd95 : ∀ (A_ : Option Addr) (n_ c_ : Nat) (W_ : World), Sem.run Try.prog (Instr.field 95 (.agg #[.slice A_ n_ c_]) 0) W_ = .ok (.slice A_ n_ c_) W_ := fun _ _ _ _ => rfl)
 have HR0 := Aside0.mk hr0
 have HC0 := Aside0.mk hc0
 clear hr0 hc0
 have HB := Aside0.mk (Below.refl w.heap.size w)
 have H := h
 clear h
 unfold spec_l22List.f at H
 replace H := Option.bind_eq_some_iff.mp H
 obtain ⟨⟨t705, t706, t707⟩, A20, H⟩ := H
 (try dsimp only at H)
 have A2 := Aside0.mk A20
 clear A20
 replace H := Option.bind_eq_some_iff.mp H
 obtain ⟨⟨t709, t710, t711⟩, A30, H⟩ := H
 (try dsimp only at H)
 have A3 := Aside0.mk A30
 clear A30
 by_cases c4 : t709 = true
 ·subst c4
  rw [if_pos rfl] at H
  replace H := Option.bind_eq_some_iff.mp H
  obtain ⟨⟨t712, t713, t714⟩, A50, H⟩ := H
  (try dsimp only at H)
  have A5 := Aside0.mk A50
  clear A50
  replace H := Option.bind_eq_some_iff.mp H
  obtain ⟨⟨t715, t716, t717⟩, A60, H⟩ := H
  (try dsimp only at H)
  have A6 := Aside0.mk A60
  clear A60
  replace H := Option.bind_eq_some_iff.mp H
  obtain ⟨⟨t718, t719, t720⟩, A70, H⟩ := H
  (try dsimp only at H)
  have A7 := Aside0.mk A70
  clear A70
  obtain ⟨y721, hy721⟩ : ∃ y_ : List Int, y_ = (([wrap64 ((wrap64 (2 + t712)) * (wrap64 (2 + t715))), wrap64 ((wrap64 (2 + t712)) * (wrap64 ((wrap64 (2 + t715)) + 1))), wrap64 ((wrap64 ((wrap64 (2 + t712)) + 1)) * (wrap64 ((wrap64 (2 + t715)) + t718)))] : List Int)) := ⟨_, rfl⟩
  replace H : (some y721) = some r := hr_ hy721 H
  have Ny721 := Aside0.mk hy721
  clear hy721
  obtain rfl := Option.some.inj H
  go_enter Try.func120, Try.ntmps120
  go_wp2_with (first | ((with_reducible refine gate_callee (f := 80) rfl ?_); refine gl_ 7 Try.func80 #[.slice A0 l0.length c0] ?_; (with_reducible refine (spec_l1New.calls k _ _ l0 t705 t706 t707 w _ ?side1 ?side2 ?side3 A2.out).mono ?_); (case side1 => exact bl_ HB.out); (case side2 => exact HR0.out); (case side3 => exact HC0.out); rintro e w8 ⟨g708, rfl, hi, hb, hb2⟩; refine ⟨_, rfl, ?_⟩; replace HB := Aside0.mk (hb); have HI708 := Aside0.mk (hi); (try clear hb); (try clear hb2); (try clear hk); (try clear hi)) | ((with_reducible refine gate_callee (f := 148) rfl ?_); refine gl_ 9 Try.func148 #[.pointer (some ⟨g708, 0, none⟩), .int .i64 2] ?_; (with_reducible refine (spec_l1Once.calls g708 t705 t706 t707 2 true t710 t711 w _ ?side1 ?side2 A3.out).mono ?_); (case side1 => exact hi_ HI708.out); (case side2 => exact bl_ HB.out); rintro e w9 ⟨rfl, hi, hb, hk⟩; refine ⟨_, rfl, ?_⟩; replace HB := Aside0.mk (hb); replace HI708 := Aside0.mk (hi); (try clear hb); (try clear hb2); (try clear hk); (try clear hi)) | ((with_reducible refine gate_callee (f := 82) rfl ?_); refine gl_ 11 Try.func82 #[.pointer (some ⟨g708, 0, none⟩), .int .i64 4] ?_; (with_reducible refine (spec_l1Below.calls g708 t705 t710 t711 4 t712 t713 t714 w _ ?side1 ?side2 A5.out).mono ?_); (case side1 => exact hi_ HI708.out); (case side2 => exact bl_ HB.out); rintro e w10 ⟨rfl, hi, hb, hk⟩; refine ⟨_, rfl, ?_⟩; replace HB := Aside0.mk (hb); replace HI708 := Aside0.mk (hi); (try clear hb); (try clear hb2); (try clear hk); (try clear hi)) | ((with_reducible refine gate_callee (f := 82) rfl ?_); refine gl_ 14 Try.func82 #[.pointer (some ⟨g708, 0, none⟩), .int .i64 4] ?_; (with_reducible refine (spec_l1Below.calls g708 t705 t713 t714 4 t715 t716 t717 w _ ?side1 ?side2 A6.out).mono ?_); (case side1 => exact hi_ HI708.out); (case side2 => exact bl_ HB.out); rintro e w11 ⟨rfl, hi, hb, hk⟩; refine ⟨_, rfl, ?_⟩; replace HB := Aside0.mk (hb); replace HI708 := Aside0.mk (hi); (try clear hb); (try clear hb2); (try clear hk); (try clear hi)) | ((with_reducible refine gate_callee (f := 82) rfl ?_); refine gl_ 27 Try.func82 #[.pointer (some ⟨g708, 0, none⟩), .int .i64 3] ?_; (with_reducible refine (spec_l1Below.calls g708 t705 t716 t717 3 t718 t719 t720 w _ ?side1 ?side2 A7.out).mono ?_); (case side1 => exact hi_ HI708.out); (case side2 => exact bl_ HB.out); rintro e w12 ⟨rfl, hi, hb, hk⟩; refine ⟨_, rfl, ?_⟩; replace HB := Aside0.mk (hb); replace HI708 := Aside0.mk (hi); (try clear hb); (try clear hb2); (try clear hk); (try clear hi)) | ((with_reducible refine gate_dst (N := 30) rfl ?_); refine Kd.R_lit (Kd.int .i64) _ 3 ?hg (N := 30) ?hd (xs := ([wrap64 ((wrap64 (2 + t712)) * (wrap64 (2 + t715))), wrap64 ((wrap64 (2 + t712)) * (wrap64 ((wrap64 (2 + t715)) + 1))), wrap64 ((wrap64 ((wrap64 (2 + t712)) + 1)) * (wrap64 ((wrap64 (2 + t715)) + t718)))] : List Int)) (inner := [.int .i64 (wrap64 ((wrap64 (2 + t712)) * (wrap64 (2 + t715)))), .int .i64 (wrap64 ((wrap64 (2 + t712)) * (wrap64 ((wrap64 (2 + t715)) + 1)))), .int .i64 (wrap64 ((wrap64 ((wrap64 (2 + t712)) + 1)) * (wrap64 ((wrap64 (2 + t715)) + t718))))]) (ok := fun _ => True) (okp := fun _ => True) ?hr ?hp (fun _ hk => hk) trivial (Below.refl _ _) (Nat.le_refl _) (by simp) ?_; (case hd => rfl); (case hg => rfl); (case hr => first | (go_simp; done) | (go_simp; rfl)); (case hp => exact (Reps.one (show Kd.M (Kd.int .i64) _ _ _ (wrap64 ((wrap64 (2 + t712)) * (wrap64 (2 + t715)))) [.int .i64 (wrap64 ((wrap64 (2 + t712)) * (wrap64 (2 + t715))))] from rfl) (Reps.one (show Kd.M (Kd.int .i64) _ _ _ (wrap64 ((wrap64 (2 + t712)) * (wrap64 ((wrap64 (2 + t715)) + 1)))) [.int .i64 (wrap64 ((wrap64 (2 + t712)) * (wrap64 ((wrap64 (2 + t715)) + 1))))] from rfl) (Reps.one (show Kd.M (Kd.int .i64) _ _ _ (wrap64 ((wrap64 ((wrap64 (2 + t712)) + 1)) * (wrap64 ((wrap64 (2 + t715)) + t718)))) [.int .i64 (wrap64 ((wrap64 ((wrap64 (2 + t712)) + 1)) * (wrap64 ((wrap64 (2 + t715)) + t718))))] from rfl) (Reps.none _ _))))); intro v722 w13 ho14 hb hg_ hnew_; clear hg_ hnew_; (first | rw [← Ny721.out] at ho14 | (simp only [Int.reduceToNat] at ho14; rw [← Ny721.out] at ho14)); have HO723 := rl_ ho14 HB; replace HI708 := Aside0.mk (IsS95.below (hi_ HI708.out) hb); replace HB := bs_ HB hb; clear hb ho14))
  go_ret
  exact ⟨_, er_, kr_ HO723.out, bl_ HB.out⟩
 ·obtain rfl := Bool.eq_false_iff.mpr c4
  rw [if_neg nf_] at H
  replace H := Option.bind_eq_some_iff.mp H
  obtain ⟨⟨t724, t725, t726⟩, A150, H⟩ := H
  (try dsimp only at H)
  have A15 := Aside0.mk A150
  clear A150
  by_cases c16 : t724 = true
  ·subst c16
   rw [if_pos rfl] at H
   replace H := Option.bind_eq_some_iff.mp H
   obtain ⟨⟨t727, t730, t731⟩, A170, H⟩ := H
   (try dsimp only at H)
   have A17 := Aside0.mk A170
   clear A170
   obtain rfl := Option.some.inj H
   go_enter Try.func120, Try.ntmps120
   go_wp2_with (first | ((with_reducible refine gate_callee (f := 80) rfl ?_); refine gl_ 7 Try.func80 #[.slice A0 l0.length c0] ?_; (with_reducible refine (spec_l1New.calls k _ _ l0 t705 t706 t707 w _ ?side1 ?side2 ?side3 A2.out).mono ?_); (case side1 => exact bl_ HB.out); (case side2 => exact HR0.out); (case side3 => exact HC0.out); rintro e w18 ⟨g708, rfl, hi, hb, hb2⟩; refine ⟨_, rfl, ?_⟩; replace HB := Aside0.mk (hb); have HI708 := Aside0.mk (hi); (try clear hb); (try clear hb2); (try clear hk); (try clear hi)) | ((with_reducible refine gate_callee (f := 148) rfl ?_); refine gl_ 9 Try.func148 #[.pointer (some ⟨g708, 0, none⟩), .int .i64 2] ?_; (with_reducible refine (spec_l1Once.calls g708 t705 t706 t707 2 false t710 t711 w _ ?side1 ?side2 A3.out).mono ?_); (case side1 => exact hi_ HI708.out); (case side2 => exact bl_ HB.out); rintro e w19 ⟨rfl, hi, hb, hk⟩; refine ⟨_, rfl, ?_⟩; replace HB := Aside0.mk (hb); replace HI708 := Aside0.mk (hi); (try clear hb); (try clear hb2); (try clear hk); (try clear hi)) | ((with_reducible refine gate_callee (f := 148) rfl ?_); refine gl_ 32 Try.func148 #[.pointer (some ⟨g708, 0, none⟩), .int .i64 3] ?_; (with_reducible refine (spec_l1Once.calls g708 t705 t710 t711 3 true t725 t726 w _ ?side1 ?side2 A15.out).mono ?_); (case side1 => exact hi_ HI708.out); (case side2 => exact bl_ HB.out); rintro e w20 ⟨rfl, hi, hb, hk⟩; refine ⟨_, rfl, ?_⟩; replace HB := Aside0.mk (hb); replace HI708 := Aside0.mk (hi); (try clear hb); (try clear hb2); (try clear hk); (try clear hi)) | ((with_reducible refine gate_callee (f := 149) rfl ?_); refine gl_ 34 Try.func149 #[.pointer (some ⟨g708, 0, none⟩)] ?_; (with_reducible refine (spec_l2Draw.calls k g708 t705 t725 t726 t727 t730 t731 w _ ?side1 ?side2 A17.out).mono ?_); (case side1 => exact hi_ HI708.out); (case side2 => exact bl_ HB.out); rintro e w21 ⟨v728, rfl, ho0, hi, hb, hk⟩; refine ⟨_, rfl, ?_⟩; have HO729 := rl_ ho0 HB; replace HB := Aside0.mk (hb); replace HI708 := Aside0.mk (hi); (try clear hb); (try clear hb2); (try clear hk); (try clear hi); (try clear ho0)))
   go_ret
   exact ⟨_, er_, kr_ HO729.out, bl_ HB.out⟩
  ·obtain rfl := Bool.eq_false_iff.mpr c16
   rw [if_neg nf_] at H
   obtain ⟨y732, hy732⟩ : ∃ y_ : List Int, y_ = (([] : List Int)) := ⟨_, rfl⟩
   replace H : ((spec_l3Draw.f k t705 t725 t726).bind fun bt735 => (if y732.length + bt735.1.length < 17592186044416 then (some (y732 ++ bt735.1)) else (none))) = some r := hr_ hy732 H
   have Ny732 := Aside0.mk hy732
   clear hy732
   replace H := Option.bind_eq_some_iff.mp H
   obtain ⟨⟨t735, t738, t739⟩, A220, H⟩ := H
   (try dsimp only at H)
   have A22 := Aside0.mk A220
   clear A220
   by_cases c23 : y732.length + t735.length < 17592186044416
   ·rw [if_pos c23] at H
    have LMc23 := Aside0.mk c23
    clear c23
    obtain ⟨y740, hy740⟩ : ∃ y_ : List Int, y_ = (y732 ++ t735) := ⟨_, rfl⟩
    replace H : (some y740) = some r := hr_ hy740 H
    have Ny740 := Aside0.mk hy740
    clear hy740
    obtain rfl := Option.some.inj H
    go_enter Try.func120, Try.ntmps120
    go_wp2_with (first | ((with_reducible refine gate_callee (f := 80) rfl ?_); refine gl_ 7 Try.func80 #[.slice A0 l0.length c0] ?_; (with_reducible refine (spec_l1New.calls k _ _ l0 t705 t706 t707 w _ ?side1 ?side2 ?side3 A2.out).mono ?_); (case side1 => exact bl_ HB.out); (case side2 => exact HR0.out); (case side3 => exact HC0.out); rintro e w24 ⟨g708, rfl, hi, hb, hb2⟩; refine ⟨_, rfl, ?_⟩; replace HB := Aside0.mk (hb); have HI708 := Aside0.mk (hi); (try clear hb); (try clear hb2); (try clear hk); (try clear hi)) | ((with_reducible refine gate_callee (f := 148) rfl ?_); refine gl_ 9 Try.func148 #[.pointer (some ⟨g708, 0, none⟩), .int .i64 2] ?_; (with_reducible refine (spec_l1Once.calls g708 t705 t706 t707 2 false t710 t711 w _ ?side1 ?side2 A3.out).mono ?_); (case side1 => exact hi_ HI708.out); (case side2 => exact bl_ HB.out); rintro e w25 ⟨rfl, hi, hb, hk⟩; refine ⟨_, rfl, ?_⟩; replace HB := Aside0.mk (hb); replace HI708 := Aside0.mk (hi); (try clear hb); (try clear hb2); (try clear hk); (try clear hi)) | ((with_reducible refine gate_callee (f := 148) rfl ?_); refine gl_ 32 Try.func148 #[.pointer (some ⟨g708, 0, none⟩), .int .i64 3] ?_; (with_reducible refine (spec_l1Once.calls g708 t705 t710 t711 3 false t725 t726 w _ ?side1 ?side2 A15.out).mono ?_); (case side1 => exact hi_ HI708.out); (case side2 => exact bl_ HB.out); rintro e w26 ⟨rfl, hi, hb, hk⟩; refine ⟨_, rfl, ?_⟩; replace HB := Aside0.mk (hb); replace HI708 := Aside0.mk (hi); (try clear hb); (try clear hb2); (try clear hk); (try clear hi)) | ((with_reducible refine gate_dst (N := 35) rfl ?_); refine Kd.R_lit (Kd.int .i64) _ 3 ?hg (N := 35) ?hd (xs := ([] : List Int)) (inner := []) (ok := fun _ => True) (okp := fun _ => True) ?hr ?hp (fun _ hk => hk) trivial (Below.refl _ _) (Nat.le_refl _) (by simp) ?_; (case hd => rfl); (case hg => rfl); (case hr => first | (go_simp; done) | (go_simp; rfl)); (case hp => exact (Reps.none _ _)); intro v733 w27 ho28 hb hg_ hnew_; clear hg_ hnew_; (first | rw [← Ny732.out] at ho28 | (simp only [Int.reduceToNat] at ho28; rw [← Ny732.out] at ho28)); have HO734 := rl_ ho28 HB; replace HI708 := Aside0.mk (IsS95.below (hi_ HI708.out) hb); replace HB := bs_ HB hb; clear hb ho28) | ((with_reducible refine gate_callee (f := 132) rfl ?_); refine gl_ 37 Try.func132 #[.pointer (some ⟨g708, 0, none⟩)] ?_; (with_reducible refine (spec_l3Draw.calls k g708 t705 t725 t726 t735 t738 t739 w _ ?side1 ?side2 A22.out).mono ?_); (case side1 => exact hi_ HI708.out); (case side2 => exact bl_ HB.out); rintro e w29 ⟨v736, rfl, ho0, hi, hb, hk⟩; refine ⟨_, rfl, ?_⟩; have HO737 := Aside0.mk (Kd.R_lower (Kd.R_new' ho0 (Kd.R_lt (kr_ HO734.out))) (below_size (bl_ HB.out))); replace HO734 := Aside0.mk (Kd.R_mono (Kd.R_told (Kd.R_oldK (IsS95.apart (show IsS95 w _ g708 t705 t725 t726 from hi_ HI708.out) (kr_ HO734.out) (by decide)) hk) (Kd.R_base ho0)) (fun _ h_ => h_.1)); replace HB := Aside0.mk (hb); replace HI708 := Aside0.mk (hi); (try clear hb); (try clear hb2); (try clear hk); (try clear hi); (try clear ho0); obtain ⟨Ao31, co31, eo31⟩ := Kd.R_slice HO737.out; subst eo31) | ((with_reducible refine gate_builtin (b := .append) (xs := #[.tmp 35, .tmp 38]) rfl ?_); at_builtin; refine Kd.R_append_rows (Kd.int .i64) (w0 := w) w.heap.size rfl (.tmp 35) (.tmp 38) 22 3 (.int .i64 0) 8 rfl Try.underlying22 info3 rfl (by decide) (by omega) v733 y732 t735 _ _ _ (fun k_ => some k_ ≠ (.slice Ao31 t735.length co31 : Value).ownBlock) (fun _ => False) rfl rfl ?aO ?aR (fun _ _ h => h) (fun _ h => h.elim) ?aF ?aB ?aS ?aL ?_; (case aR => repeat (first | exact (Kd.R_reads' HO737.out).2.2 | (with_reducible refine Kd.C_alloc ?_ _) | (with_reducible refine Kd.C_drewN ?_ _) | (with_reducible refine Kd.C_drew ?_))); (case aB => exact (bl_ HB.out)); (case aF => exact (fun k_ hk => Kd.fresh' (Kd.R_lt (kr_ HO737.out)) k_ hk)); (case aO => exact (kr_ (Kd.R_mono HO734.out (fun _ hk => hk.2)))); (case aS => exact (below_size (bl_ HB.out))); (case aL => have := LMc23.out; omega); intro v741 w30 ho hb hg hat; rw [← Ny740.out] at ho; have n0_ := Aside0.mk (IsS95.grown (hi_ HI708.out) hg (IsS95.own_ne HI708.out HO734.out (by decide))); have n1_ := Aside0.mk (Kd.R_after (ok := (fun _ => True)) (kr_ HO737.out) hg hat); have n2_ := Aside0.mk (hb); have n3_ := Aside0.mk (ho); clear HI708; clear HO737; clear HB; clear HO734; have HI708 := n0_; have HO737 := n1_; have HB := n2_; have HO742 := n3_; clear n0_ n1_ n2_ n3_; clear ho hb hg hat))
    go_ret
    exact ⟨_, er_, kr_ (Kd.R_mono HO742.out (fun _ hk => trivial)), bl_ HB.out⟩
   ·rw [if_neg c23] at H
    exact absurd H (by simp)
def spec_DrawIsTelescopic.f (k : Nat) (l0 : List Int) : Option (List Int) := (spec_l22List.f k l0).bind fun t743 => (some t743)
theorem spec_DrawIsTelescopic.calls (k : Nat) (A0 : Option Addr) (c0 : Nat) (l0 : List Int) (r : List Int) (w : World) (hr0 : Kd.C (Kd.int .u8) w A0 l0.length l0) (hc0 : l0.length ≤ c0) (h : spec_DrawIsTelescopic.f k l0 = some r) :
 Calls Try.prog 66 #[.slice A0 l0.length c0] w fun e w' => ∃ v0_ : Value, e = .returned (v0_) ∧ Kd.R (Kd.int .i64) 3 w' w.heap.size (fun _ => True) v0_ r ∧ Below w.heap.size w w' := by
 have HR0 := Aside0.mk hr0
 have HC0 := Aside0.mk hc0
 clear hr0 hc0
 have HB := Aside0.mk (Below.refl w.heap.size w)
 have H := h
 clear h
 unfold spec_DrawIsTelescopic.f at H
 obtain ⟨t743, A2, H⟩ := ob_ H
 (try dsimp only at H)
 obtain rfl := Option.some.inj H
 go_enter Try.func66, Try.ntmps66
 go_wp2_with (first | ((with_reducible refine gate_callee (f := 120) rfl ?_); refine gl_ 4 Try.func120 #[.slice A0 l0.length c0] ?_; (with_reducible refine (spec_l22List.calls k _ _ l0 t743 _ ?side1 ?side2 A2.out).mono ?_); (case side1 => repeat (first | exact HR0.out | (with_reducible refine Kd.C_alloc ?_ _) | (with_reducible refine Kd.C_drewN ?_ _) | (with_reducible refine Kd.C_drew ?_))); (case side2 => exact HC0.out); rintro e w3 ⟨v744, rfl, ho0, hb⟩; refine ⟨_, rfl, ?_⟩; have HO745 := rl_ ho0 HB; replace HB := bs_ HB hb; (try clear hb); (try clear hb2); (try clear hk); (try clear hi); (try clear ho0)))
 go_ret
 exact ⟨_, er_, kr_ HO745.out, bl_ HB.out⟩
end Go.Proofs.Ytbjbolblahlhcaa.PFnGlued
