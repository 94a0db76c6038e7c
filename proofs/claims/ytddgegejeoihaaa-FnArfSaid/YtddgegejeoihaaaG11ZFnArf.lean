/- Part 11 of the claim for FnArf, of the chain from the printed contracts and the plain laws to the row. It has no condition of its own. -/
import Derived.Test.YtddgegejeoihaaaG1ZFnArf
import Derived.Test.YtddgegejeoihaaaG3ZFnArf
import Derived.Test.YtddgegejeoihaaaG4ZFnArf
import Derived.Test.YtddgegejeoihaaaG5ZFnArf
import Derived.Test.YtddgegejeoihaaaG6ZFnArf
import Derived.Test.YtddgegejeoihaaaG10ZFnArf
namespace Go.Proofs.Ytddgegejeoihaaa.PFnArf
open Go.RowKit Go.Proofs.YtddgegejeoihaaaW.PrintWords Go.Proofs.YtddgegejeoihaaaW.PrintLast Go.Proofs.YtddgegejeoihaaaW.PrintMore
open Go.Proofs.Ytddgegejeoihaaa.SortW (bk_ kr_ t_ f_)
open Go.Proofs.Ytddgegejeoihaaa.SqW
attribute [local go_sem] max2_int min2_int max_two min_two max_three min_three max_four min_four
set_option maxHeartbeats 8000000
set_option maxRecDepth 100000
set_option linter.unusedVariables false
set_option linter.unusedSimpArgs false
def impl_SortList.f (l0 : List Int) : Option (List Int) := (some (([] : List Int) : List Int)).bind fun y673 => (if y673.length + l0.length < 17592186044416 then ((slices_Sort_int_int.f (y673 ++ l0)).bind fun t679 => ((slices_Compact_int_int.f t679).bind fun t680 => (some t680))) else (none))
theorem impl_SortList.calls (A0 : Option Addr) (c0 : Nat) (l0 : List Int) (r : List Int) (w : World) (hr0 : Kd.C (Kd.int .i64) w A0 l0.length l0) (hc0 : l0.length ≤ c0) (h : impl_SortList.f l0 = some r) :
 Calls Try.prog 108 #[.slice A0 l0.length c0] w fun e w' => ∃ v0_ : Value, e = .returned (v0_) ∧ Kd.R (Kd.int .i64) 3 w' w.heap.size (fun _ => True) v0_ r ∧ Below w.heap.size w w' := by
 have HR0 := am_ hr0
 have HC0 := am_ hc0
 clear hr0 hc0
 have HB := am_ (Below.refl w.heap.size w)
 have H := h
 clear h
 unfold impl_SortList.f at H
 obtain ⟨y673, hy673⟩ : ∃ y_ : List Int, y_ = (([] : List Int)) := ⟨_, rfl⟩
 replace H : (if y673.length + l0.length < 17592186044416 then ((slices_Sort_int_int.f (y673 ++ l0)).bind fun t679 => ((slices_Compact_int_int.f t679).bind fun t680 => (some t680))) else (none)) = some r := hr_ hy673 H
 have Ny673 := am_ hy673
 clear hy673
 obtain ⟨c2, H⟩ := in_ H
 have LMc2 := am_ c2
 clear c2
 obtain ⟨y676, hy676⟩ : ∃ y_ : List Int, y_ = (y673 ++ l0) := ⟨_, rfl⟩
 replace H : ((slices_Sort_int_int.f y676).bind fun t679 => ((slices_Compact_int_int.f t679).bind fun t680 => (some t680))) = some r := hr_ hy676 H
 have Ny676 := am_ hy676
 clear hy676
 obtain ⟨t679, A3, H⟩ := ob_ H
 (try dsimp only at H)
 obtain ⟨t680, A4, H⟩ := ob_ H
 (try dsimp only at H)
 obtain rfl := Option.some.inj H
 go_enter Try.func108, Try.ntmps108
 go_wp2_with (first | ((with_reducible refine gate_dst (N := 4) rfl ?_); refine Kd.R_lit (Kd.int .i64) _ 3 ?hg (N := 4) ?hd (xs := ([] : List Int)) (inner := []) (ok := fun _ => True) (okp := fun _ => True) ?hr ?hp (fun _ hk => hk) trivial (Below.refl _ _) (Nat.le_refl _) (by simp) ?_; (case hd => rfl); (case hg => rfl); (case hr => first | (go_simp; done) | (go_simp; rfl)); (case hp => exact (Reps.none _ _)); intro v674 w5 ho6 hb hg_ hnew_; clear hg_ hnew_; (first | rw [← Ny673.out] at ho6 | (simp only [Int.reduceToNat] at ho6; rw [← Ny673.out] at ho6)); have HO675 := rl_ ho6 HB; replace HB := bs_ HB hb; clear hb ho6) | ((with_reducible refine gate_builtin (b := .append) (xs := #[.tmp 4, .tmp 5]) rfl ?_); at_builtin; refine Kd.R_append_rows (Kd.int .i64) (w0 := w) w.heap.size rfl (.tmp 4) (.tmp 5) 22 3 (.int .i64 0) 8 rfl Try.underlying22 info3 rfl (by decide) (by omega) v674 y673 l0 _ _ _ (fun _ => True) (fun _ => False) rfl rfl ?aO ?aR (fun _ _ h => h) (fun _ h => h.elim) ?aF ?aB ?aS ?aL ?_; (case aR => repeat (first | exact (Kd.C_below HR0.out HB.out) | (with_reducible refine Kd.C_alloc ?_ _) | (with_reducible refine Kd.C_drewN ?_ _) | (with_reducible refine Kd.C_drew ?_))); (case aB => exact (bl_ HB.out)); (case aF => exact (fun _ _ => trivial)); (case aO => exact (kr_ HO675.out)); (case aS => exact (below_size (bl_ HB.out))); (case aL => have := LMc2.out; omega); intro v677 w7 ho hb hg hat; rw [← Ny676.out] at ho; have n0_ := am_ (hb); have n1_ := am_ (ho); clear HB; clear HO675; have HB := n0_; have HO678 := n1_; clear n0_ n1_; clear ho hb hg hat; obtain ⟨Ao8, co8, eo8⟩ := Kd.R_slice HO678.out; subst eo8) | ((with_reducible refine gate_callee (f := 126) rfl ?_); refine gl_ 8 Try.func126 #[.slice Ao8 y676.length co8] ?_; (with_reducible refine (slices_Sort_int_int.calls (fun k_ => some k_ = (.slice Ao8 y676.length co8 : Value).ownBlock) (.slice Ao8 y676.length co8) y676 t679 w _ ?side1 ?side2 A3.out).mono ?_); (case side1 => exact bl_ HB.out); (case side2 => exact Kd.R_tight rfl HO678.out); rintro e w9 ⟨rfl, hy0, hb, hkp⟩; refine ⟨_, rfl, ?_⟩; replace HO678 := am_ (Kd.R_reok rfl hy0 (fun k_ e_ => HO678.out.1 k_ e_)); replace HB := am_ (hb); (try clear hb); (try clear hkp); (try clear hy0)) | ((with_reducible refine gate_callee (f := 127) rfl ?_); refine gl_ 10 Try.func127 #[.slice Ao8 y676.length co8] ?_; (with_reducible refine (slices_Compact_int_int.calls (fun k_ => some k_ = (.slice Ao8 y676.length co8 : Value).ownBlock) (.slice Ao8 y676.length co8) t679 t680 w _ ?side1 ?side2 A4.out).mono ?_); (case side1 => exact bl_ HB.out); (case side2 => exact Kd.R_tight rfl HO678.out); rintro e w10 ⟨v681, rfl, ho0, hb, hkp⟩; refine ⟨_, rfl, ?_⟩; have n0_ := am_ (Kd.R_mono (ok' := fun k_ => True) ho0 (fun k_ hk_ => trivial)); have n1_ := am_ (hb); clear HB; clear HO678; have HO682 := n0_; have HB := n1_; clear n0_ n1_; (try clear hb); (try clear hkp); (try clear ho0)))
 go_ret
 exact ⟨_, er_, kr_ HO682.out, bl_ HB.out⟩
def impl_FromGens.l0 : Nat → List Int → Int → Int → List Int → Option (List Int × Bool)
 | 0, _, _, _, _ => none
 | k + 1, x13, x14, x15, x686000 => if x15 < x14 then (if 0 ≤ x15 then (if x15 < (x13.length : Int) then (if (x686000.length : Int) = 0 then (if x686000.length < 17592186044416 then (impl_FromGens.l0 k x13 x14 (wrap64 (x15 + 1)) (x686000 ++ [rd x13 x15])) else (none)) else ((impl_Generates.f k x686000 (rd x13 x15)).bind fun t693 => (if t693 = true then (impl_FromGens.l0 k x13 x14 (wrap64 (x15 + 1)) x686000) else (if x686000.length < 17592186044416 then (impl_FromGens.l0 k x13 x14 (wrap64 (x15 + 1)) (x686000 ++ [rd x13 x15])) else (none))))) else (none)) else (none)) else ((impl_IsSemigroup.f k x686000).bind fun t697 => (if t697 = true then (some (x686000, true)) else (some (([] : List Int), false))))
def impl_FromGens.f (k : Nat) (l0 : List Int) : Option (List Int × Bool) := (impl_usable.f k l0).bind fun t684 => (if t684 = true then ((impl_SortList.f l0).bind fun t686 => (impl_FromGens.l0 k t686 (t686.length : Int) 0 ([] : List Int))) else (some (([] : List Int), false)))
theorem impl_FromGens.calls (k : Nat) (A0 : Option Addr) (c0 : Nat) (l0 : List Int) (r1 : List Int) (r2 : Bool) (w : World) (hr0 : Kd.C (Kd.int .i64) w A0 l0.length l0) (hc0 : l0.length ≤ c0) (h : impl_FromGens.f k l0 = some (r1, r2)) :
 Calls Try.prog 62 #[.slice A0 l0.length c0] w fun e w' => ∃ v0_ : Value, e = .returned (.tuple #[.agg #[v0_], .bool r2]) ∧ Kd.R (Kd.int .i64) 3 w' w.heap.size (fun _ => True) v0_ r1 ∧ Below w.heap.size w w' := by
 have hu29 := Try.underlying29
 have HR0 := am_ hr0
 have HC0 := am_ hc0
 clear hr0 hc0
 have HB := am_ (Below.refl w.heap.size w)
 have H := h
 clear h
 unfold impl_FromGens.f at H
 obtain ⟨t684, A2, H⟩ := ob_ H
 (try dsimp only at H)
 by_cases c3 : t684 = true
 rotate_left
 ·obtain rfl := Bool.eq_false_iff.mpr c3
  rw [if_neg nf_] at H
  simp only [Option.some.injEq, Prod.mk.injEq] at H
  obtain ⟨rfl, rfl⟩ := H
  go_enter Try.func62, Try.ntmps62
  go_wp2_with (first | ((with_reducible refine gate_dst (N := 2) rfl ?_); refine be_ 2 #[.slice none 0 0] 29 fun gb683 hg w50 hbox hb => ?_; have BK683 := am_ (hbox); have GW683 := ge_ hg HB; have GE683 := ge_ hg HB; replace HB := bs_ HB hb; clear hb hbox hg) | ((with_reducible refine gate_callee (f := 107) rfl ?_); refine gl_ 8 Try.func107 #[.slice A0 l0.length c0] ?_; (with_reducible refine (impl_usable.calls k _ _ l0 false _ ?side1 ?side2 A2.out).mono ?_); (case side1 => exact cs_ HR0 HB); (case side2 => exact HC0.out); rintro e w' ⟨rfl, ⟨nd, rfl⟩⟩; refine ⟨_, rfl, ?_⟩; (try (rw [drewN_self w50]; generalize hq_ : World.drewN w50 _ = w50; have n0_ : Aside0 (w50.heap[gb683]? = some (.cells #[.slice none 0 0] 29 (0, 0))) := ⟨by rw [← hq_]; exact (bk_ BK683.out)⟩; have n1_ : Aside0 (Below w.heap.size w w50) := ⟨by rw [← hq_]; exact (bl_ HB.out)⟩; clear BK683 HB hq_; have BK683 := n0_; have HB := n1_; clear n0_ n1_)); have hcz51_0 := bc_ BK683; have hfz51_0 := blk_frozen BK683.out 0))
  refine bodyPost_ret (results_ct rfl _ _ gb683 29 #[.slice none 0 0] (0, 0) _ rfl (by (with_reducible repeat (first | refine blk_drewN ?_ _ | refine blk_drew ?_ | refine blk_alloc ?_ _)); refine blk_put (cs := #[.slice none 0 0]) ?_ 0 _ rfl; (with_reducible repeat (first | refine blk_drewN ?_ _ | refine blk_drew ?_ | refine blk_alloc ?_ _)); exact BK683.out) Try.underlying29 rfl (by kernel_rfl)) rfl ?_
  exact ⟨_, er_, by first | exact Kd.R_nil _ _ _ _ _ | exact Kd.N_nil _ _ _ _ _ | exact Kd.V_nil _ _ _ _ _ | exact Kd.Q_nil _ _ _ _ _ | exact Kd.S_nil _ _ _ _ _, bl_ HB.out⟩
 subst c3
 rw [if_pos rfl] at H
 obtain ⟨t686, A4, H⟩ := ob_ H
 (try dsimp only at H)
 have H' := am_ H
 clear H
 go_enter Try.func62, Try.ntmps62
 go_wp2_with (first | ((with_reducible refine gate_dst (N := 2) rfl ?_); refine be_ 2 #[.slice none 0 0] 29 fun gb683 hg w5 hbox hb => ?_; have BK683 := am_ (hbox); have GW683 := ge_ hg HB; have GE683 := ge_ hg HB; replace HB := bs_ HB hb; clear hb hbox hg) | ((with_reducible refine gate_callee (f := 107) rfl ?_); refine gl_ 8 Try.func107 #[.slice A0 l0.length c0] ?_; (with_reducible refine (impl_usable.calls k _ _ l0 true _ ?side1 ?side2 A2.out).mono ?_); (case side1 => exact cs_ HR0 HB); (case side2 => exact HC0.out); rintro e w' ⟨rfl, ⟨nd, rfl⟩⟩; refine ⟨_, rfl, ?_⟩; (try (rw [drewN_self w5]; generalize hq_ : World.drewN w5 _ = w5; have n0_ : Aside0 (w5.heap[gb683]? = some (.cells #[.slice none 0 0] 29 (0, 0))) := ⟨by rw [← hq_]; exact (bk_ BK683.out)⟩; have n1_ : Aside0 (Below w.heap.size w w5) := ⟨by rw [← hq_]; exact (bl_ HB.out)⟩; clear BK683 HB hq_; have BK683 := n0_; have HB := n1_; clear n0_ n1_))) | ((with_reducible refine gate_dst (N := 4) rfl ?_); refine be_ 4 #[.slice none 0 0] 29 fun gb685 hg w6 hbox hb => ?_; have BK685 := am_ (hbox); have GW685 := ge_ hg HB; have GE685 := ge_ hg HB; replace HB := bs_ HB hb; have NB683_685 := nl_ hg BK683; have NB685_683 := ng_ hg BK683; replace BK683 := bb_ BK683 hb; clear hb hbox hg; have hnb7 := NB685_683.out; have hnc7 := NB683_685.out; have hcz8_0 := bc_ BK685; have hfz8_0 := blk_frozen BK685.out 0) | ((with_reducible refine gate_callee (f := 108) rfl ?_); refine gl_ 13 Try.func108 #[.slice A0 l0.length c0] ?_; (with_reducible refine (impl_SortList.calls _ _ l0 t686 _ ?side1 ?side2 A4.out).mono ?_); (case side1 => exact Kd.C_below HR0.out (bl_ HB.out)); (case side2 => exact HC0.out); rintro e w9 ⟨v687, rfl, ho0, hb⟩; refine ⟨_, rfl, ?_⟩; have HO688 := rl_ ho0 HB; replace BK683 := am_ (blk_below (g := gb683) (o := .cells #[.slice none 0 0] 29 (0, 0)) (bf_ BK683.out) hb); replace BK685 := am_ (blk_below (g := gb685) (o := .cells #[.slice none 0 0] 29 (0, 0)) (by (with_reducible repeat (first | refine blk_drewN ?_ _ | refine blk_drew ?_ | refine blk_alloc ?_ _)); refine blk_put (cs := #[.slice none 0 0]) ?_ 0 _ rfl; (with_reducible repeat (first | refine blk_drewN ?_ _ | refine blk_drew ?_ | refine blk_alloc ?_ _)); exact BK685.out) hb); replace HB := bs_ HB hb; (try clear hb); (try clear hb2); (try clear hk); (try clear hi); (try clear ho0); obtain ⟨Ao10, co10, eo10⟩ := Kd.R_slice HO688.out; subst eo10))
 go_loopg [15] k (fun kq v15 w' => ∃ (x15_1 : Int) (x686000_1 : List Int) (u686000 : Value), v15 = .int .i64 x15_1 ∧ Aside0 (impl_FromGens.l0 kq t686 (t686.length : Int) x15_1 x686000_1 = some (r1, r2)) ∧ Aside0 (kq ≤ k) ∧ Aside0 (Kd.R (Kd.int .i64) 3 w' w.heap.size (fun k_ => some k_ ≠ (u686000 : Value).ownBlock) (.slice Ao10 t686.length co10) t686) ∧ Aside0 (Kd.R (Kd.int .i64) 3 w' w.heap.size (fun k_ => some k_ ≠ ((.slice Ao10 t686.length co10) : Value).ownBlock) u686000 x686000_1) ∧ Aside0 (w'.heap[gb683]? = some (.cells #[(.slice none 0 0)] 29 (0, 0))) ∧ Aside0 (w'.heap[gb685]? = some (.cells #[u686000] 29 (0, 0))) ∧ Aside0 (Below w.heap.size w w'))
 case atStart => exact ⟨(0), (([] : List Int)), (.slice none 0 0), sd_, H', ⟨Nat.le_refl _⟩, ⟨kr_ (Kd.R_mono HO688.out (fun _ hk => (by simp [Value.ownBlock])))⟩, ⟨by first | exact Kd.R_nil _ _ _ _ _ | exact Kd.N_nil _ _ _ _ _ | exact Kd.V_nil _ _ _ _ _ | exact Kd.Q_nil _ _ _ _ _ | exact Kd.S_nil _ _ _ _ _⟩, ⟨bk_ BK683.out⟩, ⟨bk_ BK685.out⟩, ⟨bl_ HB.out⟩⟩
 case round =>
  clear H'
  try clear c1
  try clear p2
  try clear c3
  try clear c6
  try clear c7
  try clear c10
  try clear hcz8_0
  try clear hfz8_0
  obtain ⟨x15_1, x686000_1, u686000, rfl, HA, HK1, HO_13, HO_686000, BK683, BK685, HB⟩ := hrel
  cases gk with
  | zero => exact absurd HA.out (by simp [impl_FromGens.l0])
  | succ k1 =>
   have H := HA.out
   clear HA
   simp only [impl_FromGens.l0] at H
   by_cases c11 : x15_1 < (t686.length : Int)
   rotate_left
   ·rw [if_neg c11] at H
    have c11b0 : decide (x15_1 < (t686.length : Int)) = false := decide_eq_false c11
    clear c11
    obtain ⟨t697, A37, H⟩ := ob_ H
    (try dsimp only at H)
    by_cases c38 : t697 = true
    ·subst c38
     rw [if_pos rfl] at H
     simp only [Option.some.injEq, Prod.mk.injEq] at H
     obtain ⟨rfl, rfl⟩ := H
     have hnb39 := NB685_683.out
     have hnc39 := NB683_685.out
     have hcz40_0 := bc_ BK685
     have hfz40_0 := blk_frozen BK685.out 0
     obtain ⟨Ao41, co41, eo41⟩ := Kd.R_slice HO_686000.out
     subst eo41
     go_wp2_with (first | ((with_reducible refine gate_callee (f := 49) rfl ?_); refine gl_ 38 Try.func49 #[.agg #[.slice Ao41 x686000_1.length co41]] ?_; (with_reducible refine (impl_IsSemigroup.calls k1 _ _ x686000_1 true _ ?side1 ?side2 A37.out).mono ?_); (case side1 => exact rs_ HO_686000); (case side2 => exact (Kd.R_reads' HO_686000.out).2.1); rintro e w42 ⟨rfl, hb⟩; refine ⟨_, rfl, ?_⟩; replace HO_13 := rb_ HO_13 hb; replace HO_686000 := rb_ HO_686000 hb; replace BK683 := bb_ BK683 hb; replace BK685 := bb_ BK685 hb; replace HB := bs_ HB hb; (try clear hb); (try clear hb2); (try clear hk); (try clear hi); have hcz43_0 := bc_ BK685; have hfz43_0 := blk_frozen BK685.out 0; have hcz44_0 := bc_ BK683; have hfz44_0 := blk_frozen BK683.out 0))
     refine bodyPost_ret (results_ct rfl _ _ gb683 29 #[.slice Ao41 x686000_1.length co41] (0, 0) _ rfl (by (with_reducible repeat (first | refine blk_drewN ?_ _ | refine blk_drew ?_ | refine blk_alloc ?_ _)); refine blk_put (cs := #[.slice none 0 0]) ?_ 0 _ rfl; (with_reducible repeat (first | refine blk_drewN ?_ _ | refine blk_drew ?_ | refine blk_alloc ?_ _)); exact BK683.out) Try.underlying29 rfl (by kernel_rfl)) rfl ?_
     exact ⟨_, er_, kr_ (Kd.R_mono (Kd.R_far (p := ⟨gb683, 0, none⟩) (Kd.R_types HO_686000.out BK683.out (by decide)) (fun _ hk => hk.2) (.slice Ao41 x686000_1.length co41)) (fun _ hk => trivial)), bl_ HB.out⟩
    obtain rfl := Bool.eq_false_iff.mpr c38
    rw [if_neg nf_] at H
    simp only [Option.some.injEq, Prod.mk.injEq] at H
    obtain ⟨rfl, rfl⟩ := H
    have hnb45 := NB685_683.out
    have hnc45 := NB683_685.out
    have hcz46_0 := bc_ BK685
    have hfz46_0 := blk_frozen BK685.out 0
    obtain ⟨Ao47, co47, eo47⟩ := Kd.R_slice HO_686000.out
    subst eo47
    go_wp2_with (first | ((with_reducible refine gate_callee (f := 49) rfl ?_); refine gl_ 38 Try.func49 #[.agg #[.slice Ao47 x686000_1.length co47]] ?_; (with_reducible refine (impl_IsSemigroup.calls k1 _ _ x686000_1 false _ ?side1 ?side2 A37.out).mono ?_); (case side1 => exact rs_ HO_686000); (case side2 => exact (Kd.R_reads' HO_686000.out).2.1); rintro e w48 ⟨rfl, hb⟩; refine ⟨_, rfl, ?_⟩; replace HO_13 := rb_ HO_13 hb; replace HO_686000 := rb_ HO_686000 hb; replace BK683 := bb_ BK683 hb; replace BK685 := bb_ BK685 hb; replace HB := bs_ HB hb; (try clear hb); (try clear hb2); (try clear hk); (try clear hi); have hcz49_0 := bc_ BK683; have hfz49_0 := blk_frozen BK683.out 0))
    refine bodyPost_ret (results_ct rfl _ _ gb683 29 #[.slice none 0 0] (0, 0) _ rfl (by (with_reducible repeat (first | refine blk_drewN ?_ _ | refine blk_drew ?_ | refine blk_alloc ?_ _)); refine blk_put (cs := #[.slice none 0 0]) ?_ 0 _ rfl; (with_reducible repeat (first | refine blk_drewN ?_ _ | refine blk_drew ?_ | refine blk_alloc ?_ _)); exact BK683.out) Try.underlying29 rfl (by kernel_rfl)) rfl ?_
    exact ⟨_, er_, by first | exact Kd.R_nil _ _ _ _ _ | exact Kd.N_nil _ _ _ _ _ | exact Kd.V_nil _ _ _ _ _ | exact Kd.Q_nil _ _ _ _ _ | exact Kd.S_nil _ _ _ _ _, bl_ HB.out⟩
   rw [if_pos c11] at H
   have c11b0 := decide_eq_true c11
   clear c11
   obtain ⟨c12, H⟩ := in_ H
   have c12b0 := decide_eq_true c12
   clear c12
   obtain ⟨c13, H⟩ := in_ H
   have c13b0 := decide_eq_true c13
   clear c13
   by_cases c14 : (x686000_1.length : Int) = 0
   ·rw [if_pos c14] at H
    have c14b0 : ((x686000_1.length : Int) == 0) = true := beq_iff_eq.mpr c14
    have c14b1 : ((x686000_1.length : Int) != 0) = false := bne_eq_false_iff_eq.mpr c14
    clear c14
    obtain ⟨c15, H⟩ := in_ H
    have LMc15 := am_ c15
    clear c15
    obtain ⟨y690, hy690⟩ : ∃ y_ : List Int, y_ = (x686000_1 ++ [rd t686 x15_1]) := ⟨_, rfl⟩
    replace H : (impl_FromGens.l0 k1 t686 (t686.length : Int) (wrap64 (x15_1 + 1)) y690) = some (r1, r2) := hr_ hy690 H
    have Ny690 := am_ hy690
    clear hy690
    have H' := am_ H
    clear H
    obtain ⟨p689, q689, ad689, e689, hx689_0⟩ := ri_ (Kd.at_int (Kd.R_reads' HO_13.out).2.2 x15_1)
    cases e689
    have hnb16 := NB685_683.out
    have hnc16 := NB683_685.out
    have hcz17_0 := bc_ BK685
    have hfz17_0 := blk_frozen BK685.out 0
    obtain ⟨Ao18, co18, eo18⟩ := Kd.R_slice HO_686000.out
    subst eo18
    go_wp2_with (first | ((with_reducible refine gate_builtin (b := .append) (xs := #[.tmp 31, .tmp 33]) rfl ?_); at_builtin; refine Kd.R_append (Kd.int .i64) (w0 := w) w.heap.size rfl (.tmp 31) (.tmp 33) 22 3 (.int .i64 0) 8 rfl Try.underlying22 info3 rfl (by decide) (by omega) (.slice Ao18 x686000_1.length co18) x686000_1 (rd t686 x15_1) [.int .i64 (rd t686 x15_1)] (fun k_ => some k_ ≠ (.slice (some ad689) t686.length co10 : Value).ownBlock) (fun _ => False) rfl rfl ?aP (fun _ hk => hk.elim) ?aF ?aO ?aB ?aS ?aL ?_; (case aP => exact rfl); (case aB => exact (bl_ HB.out)); (case aF => exact (fun k_ hk => Kd.fresh' (Kd.R_lt (kr_ HO_13.out)) k_ hk)); (case aO => exact (kr_ HO_686000.out)); (case aS => exact (below_size (bl_ HB.out))); (case aL => have := LMc15.out; omega); intro v691 w19 ho hb hg hat; rw [← Ny690.out] at ho; have n0_ := am_ (Kd.R_after (ok := (fun _ => True)) (kr_ (Kd.R_mono HO_13.out (fun _ hk => ⟨trivial, by first | exact hk | exact SortW.own_len hk⟩))) hg hat); have n1_ := am_ (blk_grown (g := gb683) (o := .cells #[.slice none 0 0] 29 (0, 0)) (bk_ BK683.out) hg (Kd.R_ne HO_686000.out BK683.out (by decide))); have n2_ := am_ (blk_grown (g := gb685) (o := .cells #[.slice Ao18 x686000_1.length co18] 29 (0, 0)) (bk_ BK685.out) hg (Kd.R_ne HO_686000.out BK685.out (by decide))); have n3_ := am_ (hb); have n4_ := am_ (ho); clear HO_13; clear BK683; clear BK685; clear HB; clear HO_686000; have HO_13 := n0_; have BK683 := n1_; have BK685 := n2_; have HB := n3_; have HO692 := n4_; clear n0_ n1_ n2_ n3_ n4_; clear ho hb hg hat; obtain ⟨Ao20, co20, eo20⟩ := Kd.R_slice HO692.out; subst eo20; have hcz21_0 := bc_ BK685; have hfz21_0 := blk_frozen BK685.out 0))
    go_roundg k1
    case measure => have := HK1.out; omega
    case rel => exact ⟨(wrap64 (x15_1 + 1)), (y690), (.slice Ao20 y690.length co20), sd_, H', ⟨by have := HK1.out; omega⟩, ⟨kr_ (Kd.R_mono (Kd.R_far (p := ⟨gb685, 0, none⟩) (Kd.R_types HO_13.out BK685.out (by decide)) (fun _ hk => hk.2) (.slice Ao20 y690.length co20)) (fun _ hk => hk.1.2))⟩, ⟨kr_ (Kd.R_mono (Kd.R_far (p := ⟨gb685, 0, none⟩) (Kd.R_types HO692.out BK685.out (by decide)) (fun _ hk => hk.2) (.slice Ao20 y690.length co20)) (fun _ hk => hk.1))⟩, ⟨bf_ BK683.out⟩, ⟨by (with_reducible repeat (first | refine blk_drewN ?_ _ | refine blk_drew ?_ | refine blk_alloc ?_ _)); refine blk_put (cs := #[.slice Ao18 x686000_1.length co18]) ?_ 0 _ rfl; (with_reducible repeat (first | refine blk_drewN ?_ _ | refine blk_drew ?_ | refine blk_alloc ?_ _)); exact BK685.out⟩, ⟨bl_ HB.out⟩⟩
   rw [if_neg c14] at H
   have c14b0 : ((x686000_1.length : Int) == 0) = false := beq_eq_false_iff_ne.mpr c14
   have c14b1 : ((x686000_1.length : Int) != 0) = true := bne_iff_ne.mpr c14
   have c14b2 : ¬ (x686000_1 = []) := fun h_ => c14 (by rw [h_]; rfl)
   obtain ⟨t693, A22, H⟩ := ob_ H
   (try dsimp only at H)
   by_cases c23 : t693 = true
   ·subst c23
    rw [if_pos rfl] at H
    have H' := am_ H
    clear H
    obtain ⟨p689, q689, ad689, e689, hx689_0⟩ := ri_ (Kd.at_int (Kd.R_reads' HO_13.out).2.2 x15_1)
    cases e689
    have hnb24 := NB685_683.out
    have hnc24 := NB683_685.out
    have hcz25_0 := bc_ BK685
    have hfz25_0 := blk_frozen BK685.out 0
    obtain ⟨Ao26, co26, eo26⟩ := Kd.R_slice HO_686000.out
    subst eo26
    go_wp2_with (first | (go_at_call 89; (with_reducible refine (impl_Generates.calls k1 _ _ x686000_1 (rd t686 x15_1) true _ ?side1 ?side2 A22.out).mono ?_); (case side1 => exact rs_ HO_686000); (case side2 => exact (Kd.R_reads' HO_686000.out).2.1); rintro e w27 ⟨rfl, hb⟩; replace HO_13 := rb_ HO_13 hb; replace HO_686000 := rb_ HO_686000 hb; replace BK683 := bb_ BK683 hb; replace BK685 := bb_ BK685 hb; replace HB := bs_ HB hb; (try clear hb); (try clear hb2); (try clear hk); (try clear hi)))
    go_roundg k1
    case measure => have := HK1.out; omega
    case rel => exact ⟨(wrap64 (x15_1 + 1)), (x686000_1), (.slice Ao26 x686000_1.length co26), sd_, H', ⟨by have := HK1.out; omega⟩, ⟨kr_ HO_13.out⟩, ⟨kr_ HO_686000.out⟩, ⟨bk_ BK683.out⟩, ⟨bk_ BK685.out⟩, ⟨bl_ HB.out⟩⟩
   obtain rfl := Bool.eq_false_iff.mpr c23
   rw [if_neg nf_] at H
   obtain ⟨c28, H⟩ := in_ H
   have LMc28 := am_ c28
   clear c28
   obtain ⟨y694, hy694⟩ : ∃ y_ : List Int, y_ = (x686000_1 ++ [rd t686 x15_1]) := ⟨_, rfl⟩
   replace H : (impl_FromGens.l0 k1 t686 (t686.length : Int) (wrap64 (x15_1 + 1)) y694) = some (r1, r2) := hr_ hy694 H
   have Ny694 := am_ hy694
   clear hy694
   have H' := am_ H
   clear H
   obtain ⟨p689, q689, ad689, e689, hx689_0⟩ := ri_ (Kd.at_int (Kd.R_reads' HO_13.out).2.2 x15_1)
   cases e689
   have hnb29 := NB685_683.out
   have hnc29 := NB683_685.out
   have hcz30_0 := bc_ BK685
   have hfz30_0 := blk_frozen BK685.out 0
   obtain ⟨Ao31, co31, eo31⟩ := Kd.R_slice HO_686000.out
   subst eo31
   go_wp2_with (first | (go_at_call 89; (with_reducible refine (impl_Generates.calls k1 _ _ x686000_1 (rd t686 x15_1) false _ ?side1 ?side2 A22.out).mono ?_); (case side1 => exact rs_ HO_686000); (case side2 => exact (Kd.R_reads' HO_686000.out).2.1); rintro e w32 ⟨rfl, hb⟩; replace HO_13 := rb_ HO_13 hb; replace HO_686000 := rb_ HO_686000 hb; replace BK683 := bb_ BK683 hb; replace BK685 := bb_ BK685 hb; replace HB := bs_ HB hb; (try clear hb); (try clear hb2); (try clear hk); (try clear hi); have hcz33_0 := bc_ BK685; have hfz33_0 := blk_frozen BK685.out 0) | ((with_reducible refine gate_builtin (b := .append) (xs := #[.tmp 31, .tmp 33]) rfl ?_); at_builtin; refine Kd.R_append (Kd.int .i64) (w0 := w) w.heap.size rfl (.tmp 31) (.tmp 33) 22 3 (.int .i64 0) 8 rfl Try.underlying22 info3 rfl (by decide) (by omega) (.slice Ao31 x686000_1.length co31) x686000_1 (rd t686 x15_1) [.int .i64 (rd t686 x15_1)] (fun k_ => some k_ ≠ (.slice (some ad689) t686.length co10 : Value).ownBlock) (fun _ => False) rfl rfl ?aP (fun _ hk => hk.elim) ?aF ?aO ?aB ?aS ?aL ?_; (case aP => exact rfl); (case aB => exact (bl_ HB.out)); (case aF => exact (fun k_ hk => Kd.fresh' (Kd.R_lt (kr_ HO_13.out)) k_ hk)); (case aO => exact (kr_ HO_686000.out)); (case aS => exact (below_size (bl_ HB.out))); (case aL => have := LMc28.out; omega); intro v695 w34 ho hb hg hat; rw [← Ny694.out] at ho; have n0_ := am_ (Kd.R_after (ok := (fun _ => True)) (kr_ (Kd.R_mono HO_13.out (fun _ hk => ⟨trivial, by first | exact hk | exact SortW.own_len hk⟩))) hg hat); have n1_ := am_ (blk_grown (g := gb683) (o := .cells #[.slice none 0 0] 29 (0, 0)) (bk_ BK683.out) hg (Kd.R_ne HO_686000.out BK683.out (by decide))); have n2_ := am_ (blk_grown (g := gb685) (o := .cells #[.slice Ao31 x686000_1.length co31] 29 (0, 0)) (bk_ BK685.out) hg (Kd.R_ne HO_686000.out BK685.out (by decide))); have n3_ := am_ (hb); have n4_ := am_ (ho); clear HO_13; clear BK683; clear BK685; clear HB; clear HO_686000; have HO_13 := n0_; have BK683 := n1_; have BK685 := n2_; have HB := n3_; have HO696 := n4_; clear n0_ n1_ n2_ n3_ n4_; clear ho hb hg hat; obtain ⟨Ao35, co35, eo35⟩ := Kd.R_slice HO696.out; subst eo35; have hcz36_0 := bc_ BK685; have hfz36_0 := blk_frozen BK685.out 0))
   go_roundg k1
   case measure => have := HK1.out; omega
   case rel => exact ⟨(wrap64 (x15_1 + 1)), (y694), (.slice Ao35 y694.length co35), sd_, H', ⟨by have := HK1.out; omega⟩, ⟨kr_ (Kd.R_mono (Kd.R_far (p := ⟨gb685, 0, none⟩) (Kd.R_types HO_13.out BK685.out (by decide)) (fun _ hk => hk.2) (.slice Ao35 y694.length co35)) (fun _ hk => hk.1.2))⟩, ⟨kr_ (Kd.R_mono (Kd.R_far (p := ⟨gb685, 0, none⟩) (Kd.R_types HO696.out BK685.out (by decide)) (fun _ hk => hk.2) (.slice Ao35 y694.length co35)) (fun _ hk => hk.1))⟩, ⟨bf_ BK683.out⟩, ⟨by (with_reducible repeat (first | refine blk_drewN ?_ _ | refine blk_drew ?_ | refine blk_alloc ?_ _)); refine blk_put (cs := #[.slice Ao31 x686000_1.length co31]) ?_ 0 _ rfl; (with_reducible repeat (first | refine blk_drewN ?_ _ | refine blk_drew ?_ | refine blk_alloc ?_ _)); exact BK685.out⟩, ⟨bl_ HB.out⟩⟩
def impl_BlowUp.l0 : Nat → List Int → List Int → Int → Int → List Int → Option (List Int × Bool)
 | 0, _, _, _, _, _ => none
 | k + 1, x4, x18, x19, x20, x699000 => if x20 < x19 then (if 0 ≤ x20 then (if x20 < (x18.length : Int) then (if 0 < (x699000.length : Int) then (if x4.length < 17592186044416 then (impl_BlowUp.l0 k (x4 ++ [wrap64 ((rd x18 x20) - (rd x699000 0))]) x18 x19 (wrap64 (x20 + 1)) x699000) else (none)) else (none)) else (none)) else (none)) else ((impl_FromGens.f k x4).bind fun bt711 => (some (bt711.1, bt711.2)))
def impl_BlowUp.f (k : Nat) (l0_0 : List Int) : Option (List Int × Bool) := (impl_IsSemigroup.f k l0_0).bind fun t700 => (if t700 = true then (if 0 < (l0_0.length : Int) then (if 1 ≤ (l0_0.length : Int) then (impl_BlowUp.l0 k (([rd l0_0 0] : List Int)) (l0_0.drop 1) ((l0_0.drop 1).length : Int) 0 l0_0) else (none)) else (none)) else (some (([] : List Int), false)))
theorem impl_BlowUp.calls (k : Nat) (A0_0 : Option Addr) (c0_0 : Nat) (l0_0 : List Int) (r1 : List Int) (r2 : Bool) (w : World) (hr0_0 : Kd.C (Kd.int .i64) w A0_0 l0_0.length l0_0) (hc0_0 : l0_0.length ≤ c0_0) (h : impl_BlowUp.f k l0_0 = some (r1, r2)) :
 Calls Try.prog 24 #[.agg #[.slice A0_0 l0_0.length c0_0]] w fun e w' => ∃ v0_ : Value, e = .returned (.tuple #[.agg #[v0_], .bool r2]) ∧ Kd.R (Kd.int .i64) 3 w' w.heap.size (fun _ => True) v0_ r1 ∧ Below w.heap.size w w' := by
 have hu29 := Try.underlying29
 have HR0_0 := am_ hr0_0
 have HC0_0 := am_ hc0_0
 clear hr0_0 hc0_0
 have HB := am_ (Below.refl w.heap.size w)
 have H := h
 clear h
 unfold impl_BlowUp.f at H
 obtain ⟨t700, A2, H⟩ := ob_ H
 (try dsimp only at H)
 by_cases c3 : t700 = true
 rotate_left
 ·obtain rfl := Bool.eq_false_iff.mpr c3
  rw [if_neg nf_] at H
  simp only [Option.some.injEq, Prod.mk.injEq] at H
  obtain ⟨rfl, rfl⟩ := H
  go_enter Try.func24, Try.ntmps24
  go_wp2_with (first | ((with_reducible refine gate_dst (N := 1) rfl ?_); refine be_ 1 #[.slice A0_0 l0_0.length c0_0] 29 fun gb698 hg w30 hbox hb => ?_; have BK698 := am_ (hbox); have GW698 := ge_ hg HB; have GE698 := ge_ hg HB; replace HB := bs_ HB hb; clear hb hbox hg) | ((with_reducible refine gate_dst (N := 2) rfl ?_); refine be_ 2 #[.slice none 0 0] 29 fun gb699 hg w31 hbox hb => ?_; have BK699 := am_ (hbox); have GW699 := ge_ hg HB; have GE699 := ge_ hg HB; replace HB := bs_ HB hb; have NB698_699 := nl_ hg BK698; have NB699_698 := ng_ hg BK698; replace BK698 := bb_ BK698 hb; clear hb hbox hg; have hnb32 := NB698_699.out; have hnc32 := NB699_698.out; have hcz33_0 := bc_ BK698; have hfz33_0 := blk_frozen BK698.out 0) | ((with_reducible refine gate_callee (f := 49) rfl ?_); refine gl_ 8 Try.func49 #[.agg #[.slice A0_0 l0_0.length c0_0]] ?_; (with_reducible refine (impl_IsSemigroup.calls k _ _ l0_0 false _ ?side1 ?side2 A2.out).mono ?_); (case side1 => exact cs_ HR0_0 HB); (case side2 => exact HC0_0.out); rintro e w34 ⟨rfl, hb⟩; refine ⟨_, rfl, ?_⟩; replace BK698 := bb_ BK698 hb; replace BK699 := bb_ BK699 hb; replace HB := bs_ HB hb; (try clear hb); (try clear hb2); (try clear hk); (try clear hi); have hcz35_0 := bc_ BK699; have hfz35_0 := blk_frozen BK699.out 0))
  refine bodyPost_ret (results_ct rfl _ _ gb699 29 #[.slice none 0 0] (0, 0) _ rfl (by (with_reducible repeat (first | refine blk_drewN ?_ _ | refine blk_drew ?_ | refine blk_alloc ?_ _)); refine blk_put (cs := #[.slice none 0 0]) ?_ 0 _ rfl; (with_reducible repeat (first | refine blk_drewN ?_ _ | refine blk_drew ?_ | refine blk_alloc ?_ _)); exact BK699.out) Try.underlying29 rfl (by kernel_rfl)) rfl ?_
  exact ⟨_, er_, by first | exact Kd.R_nil _ _ _ _ _ | exact Kd.N_nil _ _ _ _ _ | exact Kd.V_nil _ _ _ _ _ | exact Kd.Q_nil _ _ _ _ _ | exact Kd.S_nil _ _ _ _ _, bl_ HB.out⟩
 subst c3
 rw [if_pos rfl] at H
 obtain ⟨c4, H⟩ := in_ H
 have c4b0 := decide_eq_true c4
 have c4b1 : decide (0 < l0_0.length) = true := decide_eq_true (by omega)
 (try have c4b1t := of_decide_eq_true c4b1)
 clear c4
 obtain ⟨y702, hy702⟩ : ∃ y_ : List Int, y_ = (([rd l0_0 0] : List Int)) := ⟨_, rfl⟩
 replace H : (if 1 ≤ (l0_0.length : Int) then (impl_BlowUp.l0 k y702 (l0_0.drop 1) ((l0_0.drop 1).length : Int) 0 l0_0) else (none)) = some (r1, r2) := hr_ hy702 H
 have Ny702 := am_ hy702
 clear hy702
 obtain ⟨c5, H⟩ := in_ H
 have c5b0 := eq_true c5
 have c5b1 := decide_eq_true c5
 clear c5
 have H' := am_ H
 clear H
 go_enter Try.func24, Try.ntmps24
 go_wp2_with (first | ((with_reducible refine gate_dst (N := 1) rfl ?_); refine be_ 1 #[.slice A0_0 l0_0.length c0_0] 29 fun gb698 hg w6 hbox hb => ?_; have BK698 := am_ (hbox); have GW698 := ge_ hg HB; have GE698 := ge_ hg HB; replace HB := bs_ HB hb; clear hb hbox hg) | ((with_reducible refine gate_dst (N := 2) rfl ?_); refine be_ 2 #[.slice none 0 0] 29 fun gb699 hg w7 hbox hb => ?_; have BK699 := am_ (hbox); have GW699 := ge_ hg HB; have GE699 := ge_ hg HB; replace HB := bs_ HB hb; have NB698_699 := nl_ hg BK698; have NB699_698 := ng_ hg BK698; replace BK698 := bb_ BK698 hb; clear hb hbox hg; have hnb8 := NB698_699.out; have hnc8 := NB699_698.out; have hcz9_0 := bc_ BK698; have hfz9_0 := blk_frozen BK698.out 0) | ((with_reducible refine gate_callee (f := 49) rfl ?_); refine gl_ 8 Try.func49 #[.agg #[.slice A0_0 l0_0.length c0_0]] ?_; (with_reducible refine (impl_IsSemigroup.calls k _ _ l0_0 true _ ?side1 ?side2 A2.out).mono ?_); (case side1 => exact cs_ HR0_0 HB); (case side2 => exact HC0_0.out); rintro e w10 ⟨rfl, hb⟩; refine ⟨_, rfl, ?_⟩; replace BK698 := bb_ BK698 hb; replace BK699 := bb_ BK699 hb; replace HB := bs_ HB hb; (try clear hb); (try clear hb2); (try clear hk); (try clear hi); have hcz11_0 := bc_ BK698; have hfz11_0 := blk_frozen BK698.out 0; have p701 : 0 ≤ (0 : Int) := (by omega); have q701 : 0 < (l0_0.length : Int) := od_; obtain ⟨ad701, e701, hx701_0⟩ := Kd.at_int HR0_0.out 0 p701 q701; cases e701; have qi701 : (0 < l0_0.length) = True := eq_true (by omega); (try rw [show ((0 : Int)).toNat = 0 from rfl] at hx701_0); (try rw [Addr.add_zero'] at hx701_0); replace hx701_0 := (HB.out.cell (World.block_lt_of_cell? w _ hx701_0)).trans hx701_0; replace p701 := eq_true p701; replace q701 := eq_true q701) | ((with_reducible refine gate_dst (N := 15) rfl ?_); refine Kd.R_lit (Kd.int .i64) _ 3 ?hg (N := 15) ?hd (xs := ([rd l0_0 0] : List Int)) (inner := [.int .i64 (rd l0_0 0)]) (ok := fun _ => True) (okp := fun _ => True) ?hr ?hp (fun _ hk => hk) trivial (Below.refl _ _) (Nat.le_refl _) (by simp) ?_; (case hd => rfl); (case hg => rfl); (case hr => first | (go_simp; done) | (go_simp; rfl)); (case hp => exact (Reps.one (show Kd.M (Kd.int .i64) _ _ _ (rd l0_0 0) [.int .i64 (rd l0_0 0)] from rfl) (Reps.none _ _))); intro v703 w12 ho13 hb hg_ hnew_; clear hg_ hnew_; (first | rw [← Ny702.out] at ho13 | (simp only [Int.reduceToNat] at ho13; rw [← Ny702.out] at ho13)); have HO704 := rl_ ho13 HB; replace BK698 := bb_ BK698 hb; replace BK699 := bb_ BK699 hb; replace HB := bs_ HB hb; clear hb ho13; have hcz14_0 := bc_ BK698; have hfz14_0 := blk_frozen BK698.out 0; obtain ⟨i015, hi015, _, hsz15, _⟩ := info_parts info3; obtain ⟨A15, hcut15, hA15, hC15⟩ := print_drop_of (P := Try.prog) (Value.int .i64) 0 22 3 .i64 Try.underlying22 hi015 hsz15 (some ad701) c0_0 l0_0 1 (by omega) (od_) HC0_0.out; have HR705 := am_ (Kd.C_of_reads (h1 := fun _ => rfl) (hA15 _ (Kd.reads_of_C HR0_0.out))); have HC705 := am_ hC15; clear hA15 hC15 hi015 hsz15))
 go_loopg [4, 20] k (fun kq v4 v20 w' => ∃ (x4_1 : List Int) (x20_1 : Int), v20 = .int .i64 x20_1 ∧ Aside0 (impl_BlowUp.l0 kq x4_1 (l0_0.drop 1) ((l0_0.drop 1).length : Int) x20_1 l0_0 = some (r1, r2)) ∧ Aside0 (kq ≤ k) ∧ Aside0 (Kd.R (Kd.int .i64) 3 w' w.heap.size (fun _ => True) v4 x4_1) ∧ Aside0 (w'.heap[gb698]? = some (.cells #[(.slice (some ad701) l0_0.length c0_0)] 29 (0, 0))) ∧ Aside0 (w'.heap[gb699]? = some (.cells #[(.slice none 0 0)] 29 (0, 0))) ∧ Aside0 (Below w.heap.size w w'))
 case atStart => exact ⟨(y702), (0), sd_, H', ⟨Nat.le_refl _⟩, ⟨kr_ HO704.out⟩, ⟨bk_ BK698.out⟩, ⟨bk_ BK699.out⟩, ⟨bl_ HB.out⟩⟩
 case round =>
  clear H'
  try clear c2
  try clear p2
  try clear c3
  try clear p7
  try clear q7
  try clear hx7
  try clear qi7
  try clear c8
  try clear hcz11_0
  try clear hcz14_0
  try clear hcz9_0
  try clear hfz11_0
  try clear hfz14_0
  try clear hfz9_0
  try clear hx701_0
  try clear p701
  try clear q701
  obtain ⟨x4_1, x20_1, rfl, HA, HK1, HO_4, BK698, BK699, HB⟩ := hrel
  cases gk with
  | zero => exact absurd HA.out (by simp [impl_BlowUp.l0])
  | succ k1 =>
   have H := HA.out
   clear HA
   simp only [impl_BlowUp.l0] at H
   by_cases c16 : x20_1 < ((l0_0.drop 1).length : Int)
   rotate_left
   ·rw [if_neg c16] at H
    have c16b0 : decide (x20_1 < ((l0_0.drop 1).length : Int)) = false := decide_eq_false c16
    (try (have c16b0d := c16b0; simp only [List.length_drop] at c16b0d))
    clear c16
    replace H := Option.bind_eq_some_iff.mp H
    obtain ⟨⟨t711, t714⟩, A240, H⟩ := H
    (try dsimp only at H)
    have A24 := am_ A240
    clear A240
    simp only [Option.some.injEq, Prod.mk.injEq] at H
    obtain ⟨rfl, rfl⟩ := H
    obtain ⟨Ao25, co25, eo25⟩ := Kd.R_slice HO_4.out
    subst eo25
    go_wp2_with (first | ((with_reducible refine gate_callee (f := 62) rfl ?_); refine gl_ 35 Try.func62 #[.slice Ao25 x4_1.length co25] ?_; (with_reducible refine (impl_FromGens.calls k1 _ _ x4_1 t711 t714 _ ?side1 ?side2 A24.out).mono ?_); (case side1 => exact rs_ HO_4); (case side2 => exact (Kd.R_reads' HO_4.out).2.1); rintro e w26 ⟨v712, rfl, ho0, hb⟩; refine ⟨_, rfl, ?_⟩; have HO713 := am_ (Kd.R_lower (Kd.R_new' ho0 (Kd.R_lt (kr_ HO_4.out))) (below_size (bl_ HB.out))); replace HO_4 := am_ (Kd.R_elder' (kr_ HO_4.out) (Kd.R_base ho0) hb); replace BK698 := bb_ BK698 hb; replace BK699 := bb_ BK699 hb; replace HB := bs_ HB hb; (try clear hb); (try clear hb2); (try clear hk); (try clear hi); (try clear ho0); obtain ⟨Ao27, co27, eo27⟩ := Kd.R_slice HO713.out; subst eo27; have hnb28 := NB699_698.out; have hnc28 := NB698_699.out; have hcz29_0 := bc_ BK699; have hfz29_0 := blk_frozen BK699.out 0))
    refine bodyPost_ret (results_ct rfl _ _ gb699 29 #[.slice Ao27 t711.length co27] (0, 0) _ rfl (by (with_reducible repeat (first | refine blk_drewN ?_ _ | refine blk_drew ?_ | refine blk_alloc ?_ _)); refine blk_put (cs := #[.slice none 0 0]) ?_ 0 _ rfl; (with_reducible repeat (first | refine blk_drewN ?_ _ | refine blk_drew ?_ | refine blk_alloc ?_ _)); exact BK699.out) Try.underlying29 rfl (by kernel_rfl)) rfl ?_
    exact ⟨_, er_, kr_ (Kd.R_mono (Kd.R_far (p := ⟨gb699, 0, none⟩) (Kd.R_types HO713.out BK699.out (by decide)) (fun _ hk => hk.2) (.slice Ao27 t711.length co27)) (fun _ hk => trivial)), bl_ HB.out⟩
   rw [if_pos c16] at H
   have c16b0 := decide_eq_true c16
   (try (have c16b0d := c16b0; simp only [List.length_drop] at c16b0d))
   clear c16
   obtain ⟨c17, H⟩ := in_ H
   have c17b0 := decide_eq_true c17
   clear c17
   obtain ⟨c18, H⟩ := in_ H
   have c18b0 := decide_eq_true c18
   (try (have c18b0d := c18b0; simp only [List.length_drop] at c18b0d))
   clear c18
   obtain ⟨c19, H⟩ := in_ H
   have c19b0 := decide_eq_true c19
   have c19b1 : decide (0 < l0_0.length) = true := decide_eq_true (by omega)
   (try have c19b1t := of_decide_eq_true c19b1)
   clear c19
   obtain ⟨c20, H⟩ := in_ H
   have LMc20 := am_ c20
   clear c20
   obtain ⟨y708, hy708⟩ : ∃ y_ : List Int, y_ = (x4_1 ++ [wrap64 ((rd (l0_0.drop 1) x20_1) - (rd l0_0 0))]) := ⟨_, rfl⟩
   replace H : (impl_BlowUp.l0 k1 y708 (l0_0.drop 1) ((l0_0.drop 1).length : Int) (wrap64 (x20_1 + 1)) l0_0) = some (r1, r2) := hr_ hy708 H
   (try simp only [List.drop_one] at hy708)
   have Ny708 := am_ hy708
   clear hy708
   have H' := am_ H
   clear H
   have p706 : 0 ≤ (x20_1 : Int) := od_
   have q706 : x20_1 < ((l0_0.drop 1).length : Int) := od_
   obtain ⟨ad706, e706, hx706_0⟩ := Kd.at_int HR705.out x20_1 p706 q706
   cases e706
   replace hx706_0 := (HB.out.cell (World.block_lt_of_cell? w _ hx706_0)).trans hx706_0
   replace p706 := eq_true p706
   replace q706 := eq_true q706
   (try (have q706d := of_eq_true q706; simp only [List.length_drop] at q706d; replace q706d := eq_true q706d))
   have hnb21 := NB698_699.out
   have hnc21 := NB699_698.out
   have hcz22_0 := bc_ BK698
   have hfz22_0 := blk_frozen BK698.out 0
   have p707 : 0 ≤ (0 : Int) := (by omega)
   have q707 : 0 < (l0_0.length : Int) := od_
   obtain ⟨ad707, e707, hx707_0⟩ := Kd.at_int HR0_0.out 0 p707 q707
   obtain rfl : ad701 = ad707 := (by injection e707)
   have qi707 : (0 < l0_0.length) = True := eq_true (by omega)
   (try rw [show ((0 : Int)).toNat = 0 from rfl] at hx707_0)
   (try rw [Addr.add_zero'] at hx707_0)
   replace hx707_0 := (HB.out.cell (World.block_lt_of_cell? w _ hx707_0)).trans hx707_0
   replace p707 := eq_true p707
   replace q707 := eq_true q707
   go_wp2_with (first | ((with_reducible refine gate_builtin (b := .append) (xs := #[.tmp 24, .tmp 31]) rfl ?_); at_builtin; refine Kd.R_append (Kd.int .i64) (w0 := w) w.heap.size rfl (.tmp 24) (.tmp 31) 22 3 (.int .i64 0) 8 rfl Try.underlying22 info3 rfl (by decide) (by omega) u4 x4_1 (wrap64 ((rd l0_0.tail x20_1) - (rd l0_0 0))) [.int .i64 (wrap64 ((rd l0_0.tail x20_1) - (rd l0_0 0)))] (fun _ => True) (fun _ => False) rfl rfl ?aP (fun _ hk => hk.elim) ?aF ?aO ?aB ?aS ?aL ?_; (case aP => exact rfl); (case aB => exact (bl_ HB.out)); (case aF => exact (fun _ _ => trivial)); (case aO => exact (kr_ HO_4.out)); (case aS => exact (below_size (bl_ HB.out))); (case aL => have := LMc20.out; omega); intro v709 w23 ho hb hg hat; rw [← Ny708.out] at ho; have n0_ := am_ (blk_grown (g := gb698) (o := .cells #[.slice (some ad701) l0_0.length c0_0] 29 (0, 0)) (bk_ BK698.out) hg (Kd.R_ne HO_4.out BK698.out (by decide))); have n1_ := am_ (blk_grown (g := gb699) (o := .cells #[.slice none 0 0] 29 (0, 0)) (bk_ BK699.out) hg (Kd.R_ne HO_4.out BK699.out (by decide))); have n2_ := am_ (hb); have n3_ := am_ (ho); clear BK698; clear BK699; clear HB; clear HO_4; have BK698 := n0_; have BK699 := n1_; have HB := n2_; have HO710 := n3_; clear n0_ n1_ n2_ n3_; clear ho hb hg hat))
   go_roundg k1
   case measure => have := HK1.out; omega
   case rel => exact ⟨(y708), (wrap64 (x20_1 + 1)), sd_, H', ⟨by have := HK1.out; omega⟩, ⟨kr_ HO710.out⟩, ⟨bk_ BK698.out⟩, ⟨bk_ BK699.out⟩, ⟨bl_ HB.out⟩⟩
def spec_BlowUp.l0 : Nat → List Int → Int → List Int → Option (List Int × Bool)
 | 0, _, _, _ => none
 | k + 1, x4, x5, x716000 => if x5 < (x716000.length : Int) then (if 0 ≤ x5 then (if 0 < (x716000.length : Int) then (if x4.length < 17592186044416 then (spec_BlowUp.l0 k (x4 ++ [wrap64 ((rd x716000 x5) - (rd x716000 0))]) (wrap64 (x5 + 1)) x716000) else (none)) else (none)) else (none)) else ((spec_FromGens.f k x4).bind fun bt727 => (some (bt727.1, bt727.2)))
def spec_BlowUp.f (k : Nat) (l0_0 : List Int) : Option (List Int × Bool) := (spec_IsSemigroup.f k l0_0).bind fun t717 => (if t717 = true then (if 0 < (l0_0.length : Int) then (spec_BlowUp.l0 k (([rd l0_0 0] : List Int)) 1 l0_0) else (none)) else (some (([] : List Int), false)))
def spec_BlowUp.T7 : Bool × List (List Nat × List Nat) := (true, [([], []), ([], []), ([1], [1]), ([], []), ([2, 3], [2, 3]), ([4], [4]), ([], []), ([6], [6]), ([7], [7]), ([8], [8]), ([5, 9], [5, 9]), ([10], [10]), ([0, 11], [0, 11]), ([12, 12, 0, 1, 2, 3, 4, 5, 6, 7, 8, 9, 10, 11, 12], [0, 12])])
def spec_BlowUp.B7 : List Nat := [0, 0, 2, 0, 14, 30, 0, 64, 192, 448, 1022, 2046, 4095, 8191]
theorem spec_BlowUp.tab7 : rtab .any (opsOf Try.f25 7) = spec_BlowUp.T7 := by kernel_rfl
theorem spec_BlowUp.bits7 : waitsOk spec_BlowUp.T7.2 spec_BlowUp.B7 = true := by kernel_rfl
theorem spec_BlowUp.calls (k : Nat) (A0_0 : Option Addr) (c0_0 : Nat) (l0_0 : List Int) (r1 : List Int) (r2 : Bool) (w : World) (hr0_0 : Kd.C (Kd.int .i64) w A0_0 l0_0.length l0_0) (hc0_0 : l0_0.length ≤ c0_0) (h : spec_BlowUp.f k l0_0 = some (r1, r2)) :
 Calls Try.prog 25 #[.agg #[.slice A0_0 l0_0.length c0_0]] w fun e w' => ∃ v0_ : Value, e = .returned (.tuple #[.agg #[v0_], .bool r2]) ∧ Kd.R (Kd.int .i64) 3 w' w.heap.size (fun _ => True) v0_ r1 ∧ Below w.heap.size w w' := by
 have hu29 := Try.underlying29
 have HR0_0 := am_ hr0_0
 have HC0_0 := am_ hc0_0
 clear hr0_0 hc0_0
 have HB := am_ (Below.refl w.heap.size w)
 have H := h
 clear h
 unfold spec_BlowUp.f at H
 obtain ⟨t717, A2, H⟩ := ob_ H
 (try dsimp only at H)
 by_cases c3 : t717 = true
 rotate_left
 ·obtain rfl := Bool.eq_false_iff.mpr c3
  rw [if_neg nf_] at H
  simp only [Option.some.injEq, Prod.mk.injEq] at H
  obtain ⟨rfl, rfl⟩ := H
  go_enter Try.func25, Try.ntmps25
  go_wp2_with (first | ((with_reducible refine gate_dst (N := 1) rfl ?_); refine be_ 1 #[.slice A0_0 l0_0.length c0_0] 29 fun gb715 hg w32 hbox hb => ?_; have BK715 := am_ (hbox); have GW715 := ge_ hg HB; have GE715 := ge_ hg HB; replace HB := bs_ HB hb; clear hb hbox hg) | ((with_reducible refine gate_dst (N := 2) rfl ?_); refine be_ 2 #[.slice none 0 0] 29 fun gb716 hg w33 hbox hb => ?_; have BK716 := am_ (hbox); have GW716 := ge_ hg HB; have GE716 := ge_ hg HB; replace HB := bs_ HB hb; have NB715_716 := nl_ hg BK715; have NB716_715 := ng_ hg BK715; replace BK715 := bb_ BK715 hb; clear hb hbox hg; have hnb34 := NB715_716.out; have hnc34 := NB716_715.out; have hcz35_0 := bc_ BK715; have hfz35_0 := blk_frozen BK715.out 0) | ((with_reducible refine gate_callee (f := 52) rfl ?_); refine gl_ 9 Try.func52 #[.agg #[.slice A0_0 l0_0.length c0_0]] ?_; (with_reducible refine (spec_IsSemigroup.calls k _ _ l0_0 false _ ?side1 ?side2 A2.out).mono ?_); (case side1 => exact cs_ HR0_0 HB); (case side2 => exact HC0_0.out); rintro e w36 ⟨rfl, hb⟩; refine ⟨_, rfl, ?_⟩; replace BK715 := bb_ BK715 hb; replace BK716 := bb_ BK716 hb; replace HB := bs_ HB hb; (try clear hb); (try clear hb2); (try clear hk); (try clear hi); have hcz37_0 := bc_ BK716; have hfz37_0 := blk_frozen BK716.out 0))
  refine bodyPost_ret (results_ct rfl _ _ gb716 29 #[.slice none 0 0] (0, 0) _ rfl (by (with_reducible repeat (first | refine blk_drewN ?_ _ | refine blk_drew ?_ | refine blk_alloc ?_ _)); refine blk_put (cs := #[.slice none 0 0]) ?_ 0 _ rfl; (with_reducible repeat (first | refine blk_drewN ?_ _ | refine blk_drew ?_ | refine blk_alloc ?_ _)); exact BK716.out) Try.underlying29 rfl (by kernel_rfl)) rfl ?_
  exact ⟨_, er_, by first | exact Kd.R_nil _ _ _ _ _ | exact Kd.N_nil _ _ _ _ _ | exact Kd.V_nil _ _ _ _ _ | exact Kd.Q_nil _ _ _ _ _ | exact Kd.S_nil _ _ _ _ _, bl_ HB.out⟩
 subst c3
 rw [if_pos rfl] at H
 obtain ⟨c4, H⟩ := in_ H
 have c4b0 := decide_eq_true c4
 have c4b1 : decide (0 < l0_0.length) = true := decide_eq_true (by omega)
 (try have c4b1t := of_decide_eq_true c4b1)
 clear c4
 obtain ⟨y719, hy719⟩ : ∃ y_ : List Int, y_ = (([rd l0_0 0] : List Int)) := ⟨_, rfl⟩
 replace H : (spec_BlowUp.l0 k y719 1 l0_0) = some (r1, r2) := hr_ hy719 H
 have Ny719 := am_ hy719
 clear hy719
 have H' := am_ H
 clear H
 go_enter Try.func25, Try.ntmps25
 go_wp2_with (first | ((with_reducible refine gate_dst (N := 1) rfl ?_); refine be_ 1 #[.slice A0_0 l0_0.length c0_0] 29 fun gb715 hg w5 hbox hb => ?_; have BK715 := am_ (hbox); have GW715 := ge_ hg HB; have GE715 := ge_ hg HB; replace HB := bs_ HB hb; clear hb hbox hg) | ((with_reducible refine gate_dst (N := 2) rfl ?_); refine be_ 2 #[.slice none 0 0] 29 fun gb716 hg w6 hbox hb => ?_; have BK716 := am_ (hbox); have GW716 := ge_ hg HB; have GE716 := ge_ hg HB; replace HB := bs_ HB hb; have NB715_716 := nl_ hg BK715; have NB716_715 := ng_ hg BK715; replace BK715 := bb_ BK715 hb; clear hb hbox hg; have hnb7 := NB715_716.out; have hnc7 := NB716_715.out; have hcz8_0 := bc_ BK715; have hfz8_0 := blk_frozen BK715.out 0) | ((with_reducible refine gate_callee (f := 52) rfl ?_); refine gl_ 9 Try.func52 #[.agg #[.slice A0_0 l0_0.length c0_0]] ?_; (with_reducible refine (spec_IsSemigroup.calls k _ _ l0_0 true _ ?side1 ?side2 A2.out).mono ?_); (case side1 => exact cs_ HR0_0 HB); (case side2 => exact HC0_0.out); rintro e w9 ⟨rfl, hb⟩; refine ⟨_, rfl, ?_⟩; replace BK715 := bb_ BK715 hb; replace BK716 := bb_ BK716 hb; replace HB := bs_ HB hb; (try clear hb); (try clear hb2); (try clear hk); (try clear hi); have hcz10_0 := bc_ BK715; have hfz10_0 := blk_frozen BK715.out 0; have p718 : 0 ≤ (0 : Int) := (by omega); have q718 : 0 < (l0_0.length : Int) := od_; obtain ⟨ad718, e718, hx718_0⟩ := Kd.at_int HR0_0.out 0 p718 q718; cases e718; have qi718 : (0 < l0_0.length) = True := eq_true (by omega); (try rw [show ((0 : Int)).toNat = 0 from rfl] at hx718_0); (try rw [Addr.add_zero'] at hx718_0); replace hx718_0 := (HB.out.cell (World.block_lt_of_cell? w _ hx718_0)).trans hx718_0; replace p718 := eq_true p718; replace q718 := eq_true q718) | ((with_reducible refine gate_dst (N := 16) rfl ?_); refine Kd.R_lit (Kd.int .i64) _ 3 ?hg (N := 16) ?hd (xs := ([rd l0_0 0] : List Int)) (inner := [.int .i64 (rd l0_0 0)]) (ok := fun _ => True) (okp := fun _ => True) ?hr ?hp (fun _ hk => hk) trivial (Below.refl _ _) (Nat.le_refl _) (by simp) ?_; (case hd => rfl); (case hg => rfl); (case hr => first | (go_simp; done) | (go_simp; rfl)); (case hp => exact (Reps.one (show Kd.M (Kd.int .i64) _ _ _ (rd l0_0 0) [.int .i64 (rd l0_0 0)] from rfl) (Reps.none _ _))); intro v720 w11 ho12 hb hg_ hnew_; clear hg_ hnew_; (first | rw [← Ny719.out] at ho12 | (simp only [Int.reduceToNat] at ho12; rw [← Ny719.out] at ho12)); have HO721 := rl_ ho12 HB; replace BK715 := bb_ BK715 hb; replace BK716 := bb_ BK716 hb; replace HB := bs_ HB hb; clear hb ho12))
 go_loopg [4, 5] k (fun kq v4 v5 w' => ∃ (x4_1 : List Int) (x5_1 : Int), v5 = .int .i64 x5_1 ∧ Aside0 (spec_BlowUp.l0 kq x4_1 x5_1 l0_0 = some (r1, r2)) ∧ Aside0 (kq ≤ k) ∧ Aside0 (Kd.R (Kd.int .i64) 3 w' w.heap.size (fun _ => True) v4 x4_1) ∧ Aside0 (w'.heap[gb715]? = some (.cells #[(.slice (some ad718) l0_0.length c0_0)] 29 (0, 0))) ∧ Aside0 (w'.heap[gb716]? = some (.cells #[(.slice none 0 0)] 29 (0, 0))) ∧ Aside0 (Below w.heap.size w w'))
 case atStart => exact ⟨(y719), (1), sd_, H', ⟨Nat.le_refl _⟩, ⟨kr_ HO721.out⟩, ⟨bk_ BK715.out⟩, ⟨bk_ BK716.out⟩, ⟨bl_ HB.out⟩⟩
 case round =>
  clear H'
  try clear c2
  try clear p2
  try clear c3
  try clear c5
  try clear c7
  try clear p7
  try clear q7
  try clear hx7
  try clear qi7
  try clear hcz10_0
  try clear hcz8_0
  try clear hfz10_0
  try clear hfz8_0
  try clear hx718_0
  try clear p718
  try clear q718
  obtain ⟨x4_1, x5_1, rfl, HA, HK1, HO_4, BK715, BK716, HB⟩ := hrel
  cases gk with
  | zero => exact absurd HA.out (by simp [spec_BlowUp.l0])
  | succ k1 =>
   have H := HA.out
   clear HA
   simp only [spec_BlowUp.l0] at H
   by_cases c13 : x5_1 < (l0_0.length : Int)
   rotate_left
   ·rw [if_neg c13] at H
    have c13b0 : decide (x5_1 < (l0_0.length : Int)) = false := decide_eq_false c13
    clear c13
    replace H := Option.bind_eq_some_iff.mp H
    obtain ⟨⟨t727, t730⟩, A210, H⟩ := H
    (try dsimp only at H)
    have A21 := am_ A210
    clear A210
    simp only [Option.some.injEq, Prod.mk.injEq] at H
    obtain ⟨rfl, rfl⟩ := H
    have hnb22 := NB715_716.out
    have hnc22 := NB716_715.out
    have hcz23_0 := bc_ BK715
    have hfz23_0 := blk_frozen BK715.out 0
    obtain ⟨Ao24, co24, eo24⟩ := Kd.R_slice HO_4.out
    subst eo24
    go_wp2_with (first | ((with_reducible refine gate_callee (f := 63) rfl ?_); refine gl_ 39 Try.func63 #[.slice Ao24 x4_1.length co24] ?_; (with_reducible refine (spec_FromGens.calls k1 _ _ x4_1 t727 t730 _ ?side1 ?side2 A21.out).mono ?_); (case side1 => exact rs_ HO_4); (case side2 => exact (Kd.R_reads' HO_4.out).2.1); rintro e w25 ⟨v728, rfl, ho0, hb⟩; refine ⟨_, rfl, ?_⟩; have HO729 := am_ (Kd.R_lower (Kd.R_new' ho0 (Kd.R_lt (kr_ HO_4.out))) (below_size (bl_ HB.out))); replace HO_4 := am_ (Kd.R_elder' (kr_ HO_4.out) (Kd.R_base ho0) hb); replace BK715 := bb_ BK715 hb; replace BK716 := bb_ BK716 hb; replace HB := bs_ HB hb; (try clear hb); (try clear hb2); (try clear hk); (try clear hi); (try clear ho0)) | ((with_reducible refine gate_dst (N := 6) rfl ?_); refine be_ 6 #[.slice none 0 0] 29 fun gb731 hg w26 hbox hb => ?_; replace HO_4 := rb_ HO_4 hb; replace HO729 := rb_ HO729 hb; have BK731 := am_ (hbox); have GW731 := ge_ hg HB; have GE731 := ge_ hg HB; replace HB := bs_ HB hb; have NB715_731 := nl_ hg BK715; have NB731_715 := ng_ hg BK715; replace BK715 := bb_ BK715 hb; have NB716_731 := nl_ hg BK716; have NB731_716 := ng_ hg BK716; replace BK716 := bb_ BK716 hb; clear hb hbox hg; obtain ⟨Ao27, co27, eo27⟩ := Kd.R_slice HO729.out; subst eo27; have hnb28 := NB731_715.out; have hnc28 := NB715_731.out; have hnb29 := NB731_716.out; have hnc29 := NB716_731.out; have hcz30_0 := bc_ BK731; have hfz30_0 := blk_frozen BK731.out 0; have hcz31_0 := bc_ BK716; have hfz31_0 := blk_frozen BK716.out 0))
    refine bodyPost_ret (results_ct rfl _ _ gb716 29 #[.slice Ao27 t727.length co27] (0, 0) _ rfl (by (with_reducible repeat (first | refine blk_drewN ?_ _ | refine blk_drew ?_ | refine blk_alloc ?_ _)); refine blk_put (cs := #[.slice none 0 0]) ?_ 0 _ rfl; (with_reducible repeat (first | refine blk_drewN ?_ _ | refine blk_drew ?_ | refine blk_alloc ?_ _)); refine blk_far ?_ NB716_731.out _; (with_reducible repeat (first | refine blk_drewN ?_ _ | refine blk_drew ?_ | refine blk_alloc ?_ _)); exact BK716.out) Try.underlying29 rfl (by kernel_rfl)) rfl ?_
    exact ⟨_, er_, kr_ (Kd.R_mono (Kd.R_far (p := ⟨gb716, 0, none⟩) (Kd.R_far (p := ⟨gb731, 0, none⟩) (Kd.R_types (Kd.R_types HO729.out BK731.out (by decide)) BK716.out (by decide)) (fun _ hk => hk.1.2) (.slice Ao27 t727.length co27)) (fun _ hk => hk.2) (.slice Ao27 t727.length co27)) (fun _ hk => trivial)), bl_ HB.out⟩
   rw [if_pos c13] at H
   have c13b0 := decide_eq_true c13
   clear c13
   obtain ⟨c14, H⟩ := in_ H
   have c14b0 := decide_eq_true c14
   clear c14
   obtain ⟨c15, H⟩ := in_ H
   have c15b0 := decide_eq_true c15
   have c15b1 : decide (0 < l0_0.length) = true := decide_eq_true (by omega)
   (try have c15b1t := of_decide_eq_true c15b1)
   clear c15
   obtain ⟨c16, H⟩ := in_ H
   have LMc16 := am_ c16
   clear c16
   obtain ⟨y724, hy724⟩ : ∃ y_ : List Int, y_ = (x4_1 ++ [wrap64 ((rd l0_0 x5_1) - (rd l0_0 0))]) := ⟨_, rfl⟩
   replace H : (spec_BlowUp.l0 k1 y724 (wrap64 (x5_1 + 1)) l0_0) = some (r1, r2) := hr_ hy724 H
   have Ny724 := am_ hy724
   clear hy724
   have H' := am_ H
   clear H
   have hnb17 := NB715_716.out
   have hnc17 := NB716_715.out
   have hcz18_0 := bc_ BK715
   have hfz18_0 := blk_frozen BK715.out 0
   try go_wp2
   replace HO_4 := am_ (Kd.R_drew HO_4.out)
   replace BK715 := am_ (blk_drew BK715.out)
   replace BK716 := am_ (blk_drew BK716.out)
   replace HB := am_ (below_drew1 HB.out)
   obtain ⟨p722, q722, ad722, e722, hx722_0⟩ := ri_ (Kd.at_int HR0_0.out x5_1)
   have hw722_0 := hx722_0
   obtain rfl : ad718 = ad722 := (by injection e722)
   replace hx722_0 := (HB.out.cell (World.block_lt_of_cell? w _ hx722_0)).trans hx722_0
   have p723 : 0 ≤ (0 : Int) := (by omega)
   have q723 : 0 < (l0_0.length : Int) := od_
   obtain ⟨ad723, e723, hx723_0⟩ := Kd.at_int HR0_0.out 0 p723 q723
   have hw723_0 := hx723_0
   (try rw [show ((0 : Int)).toNat = 0 from rfl] at hw723_0)
   (try rw [show 0 * 1 = 0 from rfl] at hw723_0)
   (try rw [Addr.add_zero'] at hw723_0)
   obtain rfl : ad718 = ad723 := (by injection e723)
   have qi723 : (0 < l0_0.length) = True := eq_true (by omega)
   (try rw [show ((0 : Int)).toNat = 0 from rfl] at hx723_0)
   (try rw [Addr.add_zero'] at hx723_0)
   replace hx723_0 := (HB.out.cell (World.block_lt_of_cell? w _ hx723_0)).trans hx723_0
   replace p723 := eq_true p723
   replace q723 := eq_true q723
   refine start_ (n := 14) (S := fun w' => w'.cell? ⟨gb715, 0, none⟩ = some (.slice (some ad718) l0_0.length c0_0) ∧ w'.cell? (ad718.add (x5_1).toNat) = some (.int .i64 (rd l0_0 x5_1)) ∧ w'.cell? ad718 = some (.int .i64 (rd l0_0 0))) (ds := []) (fl_ 14 0) (by kernel_rfl) rfl rfl ⟨(blk_cell BK715.out 0).trans rfl, ((HB.out.cell (World.block_lt_of_cell? w _ hw722_0)).trans hw722_0), ((HB.out.cell (World.block_lt_of_cell? w _ hw723_0)).trans hw723_0)⟩ (fun hHeld => ?_); refine with_tabW spec_BlowUp.tab7 spec_BlowUp.bits7 (fun HT_ HW_ => ?_)
   generalize wr.drew = w19 at HO_4 BK715 BK716 HB hx722_0 hx723_0 hHeld ⊢
   refine pu_ 0 24 (fl_ 14 1) ?_
   refine pu_ 1 25 (fl_ 14 2) ?_
   refine pu_ 3 27 (fm_ 14 11) ?_
   refine pu_ 6 30 (fm_ 14 75) ?_
   refine ta_ 2 26 (fm_ 14 79) ?_
   refine pu_ 4 28 (fm_ 14 95) ?_
   refine ta_ 5 29 (fl_ 14 7) ?_
   refine ta_ 7 31 (fl_ 14 8) ?_
   refine pu_ 8 32 (fl_ 14 9) ?_
   refine ta_ 9 33 (fl_ 14 10) ?_
   refine pu_ 10 34 (fl_ 14 11) ?_
   refine on_ 11 35 (fl_ 14 12) fun K hK => ?_
   refine value_ (w1 := ?_) (v := ?_) (by rfl) rfl ?_ ?_
   rotate_left 2
   ·go_simp
    constructor
    ·rfl
    rfl
   refine hK.out _ _ ⟨(blk_cell (blk_alloc BK715.out _) 0).trans rfl, (World.cell?_alloc_lt _ _ _ (World.block_lt_of_cell? _ _ (((HB.out.cell (World.block_lt_of_cell? w _ hw722_0)).trans hw722_0)))).trans (((HB.out.cell (World.block_lt_of_cell? w _ hw722_0)).trans hw722_0)), (World.cell?_alloc_lt _ _ _ (World.block_lt_of_cell? _ _ (((HB.out.cell (World.block_lt_of_cell? w _ hw723_0)).trans hw723_0)))).trans (((HB.out.cell (World.block_lt_of_cell? w _ hw723_0)).trans hw723_0))⟩ (fun hHeld => ?_)
   clear hK K
   refine no_ 35 ?_
   refine on_ 12 36 (fl_ 14 13) fun K hK => ?_
   refine Kd.R_append_step (Kd.int .i64) (w0 := w) w.heap.size (by rfl) (.tmp 24) (.tmp 35) 22 3 (.int .i64 0) 8 rfl Try.underlying22 info3 rfl (by decide) (by omega) u4 x4_1 (wrap64 ((rd l0_0 x5_1) - (rd l0_0 0))) [.int .i64 (wrap64 ((rd l0_0 x5_1) - (rd l0_0 0)))] (fun _ => True) (fun _ => False) rfl rfl ?aP (fun _ hk => hk.elim) ?aF ?aO ?aB ?aS ?aL ?_
   (case aP => exact rfl)
   (case aB => exact (bl_ HB.out))
   (case aF => exact (fun _ _ => trivial))
   (case aO => exact (kr_ HO_4.out))
   (case aS => exact (below_size (bl_ HB.out)))
   (case aL => have := LMc16.out; omega)
   intro v725 w20 ho hb hg hat
   rw [← Ny724.out] at ho
   have n0_ := am_ (blk_grown (g := gb715) (o := .cells #[.slice (some ad718) l0_0.length c0_0] 29 (0, 0)) (bk_ BK715.out) hg (Kd.R_ne HO_4.out BK715.out (by decide)))
   have n1_ := am_ (blk_grown (g := gb716) (o := .cells #[.slice none 0 0] 29 (0, 0)) (bk_ BK716.out) hg (Kd.R_ne HO_4.out BK716.out (by decide)))
   have n2_ := am_ (hb)
   have n3_ := am_ (ho)
   clear BK715
   clear BK716
   clear HB
   clear HO_4
   have BK715 := n0_
   have BK716 := n1_
   have HB := n2_
   have HO726 := n3_
   clear n0_ n1_ n2_ n3_
   clear ho hb hg hat
   refine hK.out _ _ ⟨(blk_cell BK715.out 0).trans rfl, ((HB.out.cell (World.block_lt_of_cell? w _ hw722_0)).trans hw722_0), ((HB.out.cell (World.block_lt_of_cell? w _ hw723_0)).trans hw723_0)⟩ (fun hHeld => ?_)
   clear hK K
   refine no_ 36 ?_
   refine pu_ 13 4 (fl_ 14 14) ?_
   refine done_ (done_of HT_.out (by kernel_rfl)) ?_
   try go_wp2
   go_roundg k1
   case measure => have := HK1.out; omega
   case rel => exact ⟨(y724), (wrap64 (x5_1 + 1)), sd_, H', ⟨by have := HK1.out; omega⟩, ⟨kr_ HO726.out⟩, ⟨bk_ BK715.out⟩, ⟨bk_ BK716.out⟩, ⟨bl_ HB.out⟩⟩
end Go.Proofs.Ytddgegejeoihaaa.PFnArf
