/- Part 7 of the claim for FnArf, of the chain from the printed contracts and the plain laws to the row. It has no condition of its own. -/
import Derived.Test.YtddgegejeoihaaaG1ZFnArf
import Derived.Test.YtddgegejeoihaaaG6ZFnArf
section
namespace Go.Proofs.Ytddgegejeoihaaa.PFnArf
open Go.RowKit Go.Proofs.YtddgegejeoihaaaW.PrintWords Go.Proofs.YtddgegejeoihaaaW.PrintLast Go.Proofs.YtddgegejeoihaaaW.PrintMore
open Go.Proofs.Ytddgegejeoihaaa.SortW (bk_ kr_ t_ f_)
open Go.Proofs.Ytddgegejeoihaaa.SqW
attribute [local go_sem] max2_int min2_int max_two min_two max_three min_three max_four min_four
set_option maxHeartbeats 8000000
set_option maxRecDepth 100000
set_option linter.unusedVariables false
set_option linter.unusedSimpArgs false
mutual
def impl_FromGaps.j0 : Nat → List Int → Bool → Option (List Int × Bool)
 | 0, _, _ => none
 | k + 1, x0, x23 => if x23 = true then (some (([] : List Int), false)) else (if 401 ≤ 281474976710656 then (impl_FromGaps.l0 k x0 (List.replicate 401 false) x0 (x0.length : Int) 0) else (none))
def impl_FromGaps.l0 : Nat → List Int → List Bool → List Int → Int → Int → Option (List Int × Bool)
 | 0, _, _, _, _, _ => none
 | k + 1, x0, x6, x26, x27, x28 => if x28 < x27 then (if 0 ≤ x28 then (if x28 < (x26.length : Int) then (if 0 ≤ (rd x26 x28) then (if (rd x26 x28) < (x6.length : Int) then (impl_FromGaps.l0 k x0 (x6.set ((rd x26 x28) : Int).toNat true) x26 x27 (wrap64 (x28 + 1))) else (none)) else (none)) else (none)) else (none)) else (impl_FromGaps.l1 k x0 x6 1 ([] : List Int))
def impl_FromGaps.l1 : Nat → List Int → List Bool → Int → List Int → Option (List Int × Bool)
 | 0, _, _, _, _ => none
 | k + 1, x0, x6, x10, x449000 => if x10 < (x6.length : Int) then (if 0 ≤ x10 then (impl_FromGaps.l2 k x0 x6 x10 (rdOf false x6 x10) 1 x449000) else (none)) else ((impl_IsSemigroup.f k x449000).bind fun t455 => (if t455 = true then ((impl_Gaps.f k x449000).bind fun t456 => ((slices_Equal_int_int.f k t456 x0).bind fun t459 => (if t459 = true then (some (x449000, true)) else (some (([] : List Int), false))))) else (some (([] : List Int), false))))
def impl_FromGaps.l2 : Nat → List Int → List Bool → Int → Bool → Int → List Int → Option (List Int × Bool)
 | 0, _, _, _, _, _, _ => none
 | k + 1, x0, x6, x10, x11, x12, x449000 => if (wrap64 (2 * x12)) ≤ x10 then (if x11 = true then (impl_FromGaps.l1 k x0 x6 (wrap64 (x10 + 1)) x449000) else (if 0 ≤ x12 then (if x12 < (x6.length : Int) then (if rdOf false x6 x12 = true then (impl_FromGaps.l2 k x0 x6 x10 false (wrap64 (x12 + 1)) x449000) else (if 0 ≤ (wrap64 (x10 - x12)) then (if (wrap64 (x10 - x12)) < (x6.length : Int) then (impl_FromGaps.l2 k x0 x6 x10 (!(rdOf false x6 (wrap64 (x10 - x12)))) (wrap64 (x12 + 1)) x449000) else (none)) else (none))) else (none)) else (none))) else (if x11 = true then (impl_FromGaps.l1 k x0 x6 (wrap64 (x10 + 1)) x449000) else (if x449000.length < 17592186044416 then (impl_FromGaps.l1 k x0 x6 (wrap64 (x10 + 1)) (x449000 ++ [x10])) else (none)))
end
def impl_FromGaps.f (k : Nat) (l0 : List Int) : Option (List Int × Bool) := (impl_GapClash.f k l0).bind fun bt438 => (if bt438.2.2 = true then (impl_FromGaps.j0 k l0 true) else ((impl_gapList.f k l0).bind fun t442 => (impl_FromGaps.j0 k l0 (!t442))))
theorem impl_FromGaps.calls (k : Nat) (A0 : Option Addr) (c0 : Nat) (l0 : List Int) (r1 : List Int) (r2 : Bool) (w : World) (hr0 : Kd.C (Kd.int .i64) w A0 l0.length l0) (hc0 : l0.length ≤ c0) (h : impl_FromGaps.f k l0 = some (r1, r2)) :
 Calls Try.prog 51 #[.slice A0 l0.length c0] w fun e w' => ∃ v0_ : Value, e = .returned (.tuple #[.agg #[v0_], .bool r2]) ∧ Kd.R (Kd.int .i64) 3 w' w.heap.size (fun _ => True) v0_ r1 ∧ Below w.heap.size w w' := by
 have hu29 := Try.underlying29
 have hu78 := Try.underlying78
 have HR0 := am_ hr0
 have HC0 := am_ hc0
 clear hr0 hc0
 have HB := am_ (Below.refl w.heap.size w)
 have H := h
 clear h
 unfold impl_FromGaps.f at H
 replace H := Option.bind_eq_some_iff.mp H
 obtain ⟨⟨t438, t439, t440⟩, A20, H⟩ := H
 (try dsimp only at H)
 have A2 := am_ A20
 clear A20
 have HC3 := am_ H
 clear H
 go_enter Try.func51, Try.ntmps51
 go_upto_region 2 with (first | ((with_reducible refine gate_dst (N := 2) rfl ?_); refine be_ 2 #[.slice none 0 0] 29 fun gb437 hg w4 hbox hb => ?_; have BK437 := am_ (hbox); have GW437 := ge_ hg HB; have GE437 := ge_ hg HB; replace HB := bs_ HB hb; clear hb hbox hg) | ((with_reducible refine gate_callee (f := 91) rfl ?_); refine gl_ 15 Try.func91 #[.slice A0 l0.length c0] ?_; (with_reducible refine (impl_GapClash.calls k _ _ l0 t438 t439 t440 _ ?side1 ?side2 A2.out).mono ?_); (case side1 => exact cs_ HR0 HB); (case side2 => exact HC0.out); rintro e w5 ⟨rfl, hb⟩; refine ⟨_, rfl, ?_⟩; replace BK437 := bb_ BK437 hb; replace HB := bs_ HB hb; (try clear hb); (try clear hb2); (try clear hk); (try clear hi)) | ((with_reducible refine gate_dst (N := 4) rfl ?_); refine be_ 4 #[.int .i64 0, .int .i64 0] 78 fun gb441 hg w6 hbox hb => ?_; have BK441 := am_ (hbox); have GW441 := ge_ hg HB; have GE441 := ge_ hg HB; replace HB := bs_ HB hb; have NB437_441 := nl_ hg BK437; have NB441_437 := ng_ hg BK437; replace BK437 := bb_ BK437 hb; clear hb hbox hg; have hnb7 := NB441_437.out; have hnc7 := NB437_441.out; have hcz8_0 : w6.cell? ⟨gb441, 0, none⟩ = some (.int .i64 0) := (blk_cell BK441.out 0).trans rfl; have hcz8_1 : w6.cell? ⟨gb441, 1, none⟩ = some (.int .i64 0) := (blk_cell BK441.out 1).trans rfl; have hfz8_0 := blk_frozen BK441.out 0; have hfz8_1 := blk_frozen BK441.out 1))
 (try simp only [Act.put, List.setIfInBounds_toArray, List.set_cons_zero, List.set_cons_succ])
 go_cut [23] (fun v23 wc => ∃ (kq : Nat) (x23_2 : Bool), v23 = .bool x23_2 ∧ Aside0 (impl_FromGaps.j0 kq l0 x23_2 = some (r1, r2)) ∧ Aside0 (kq ≤ k) ∧ Aside0 (wc.heap[gb437]? = some (.cells #[(.slice none 0 0)] 29 (0, 0))) ∧ Aside0 (wc.heap[gb441]? = some (.cells #[.int .i64 t438, .int .i64 t439] 78 (0, 0))) ∧ Aside0 (Below w.heap.size w wc))
 case first =>
  have H := HC3.out
  clear HC3
  by_cases c9 : t440 = true
  ·subst c9
   rw [if_pos rfl] at H
   have H' := am_ H
   clear H
   go_wp2
   go_meet
   case rel => exact ⟨_, (true), sd_, H', ⟨le_⟩, ⟨bf_ BK437.out⟩, ⟨by (with_reducible repeat (first | refine blk_drewN ?_ _ | refine blk_drew ?_ | refine blk_alloc ?_ _)); refine blk_put (cs := #[.int .i64 t438, .int .i64 0]) ?_ 1 _ rfl; (with_reducible repeat (first | refine blk_drewN ?_ _ | refine blk_drew ?_ | refine blk_alloc ?_ _)); refine blk_put (cs := #[.int .i64 0, .int .i64 0]) ?_ 0 _ rfl; (with_reducible repeat (first | refine blk_drewN ?_ _ | refine blk_drew ?_ | refine blk_alloc ?_ _)); exact BK441.out⟩, ⟨bl_ HB.out⟩⟩
  obtain rfl := Bool.eq_false_iff.mpr c9
  rw [if_neg nf_] at H
  obtain ⟨t442, A10, H⟩ := ob_ H
  (try dsimp only at H)
  have H' := am_ H
  clear H
  go_wp2_with (first | (go_at_call 92; (with_reducible refine (impl_gapList.calls k _ _ l0 t442 _ ?side1 ?side2 A10.out).mono ?_); (case side1 => exact Kd.C_below HR0.out (bl_ HB.out)); (case side2 => exact HC0.out); rintro e w' ⟨rfl, ⟨nd, rfl⟩⟩))
  go_meet
  case rel => exact ⟨_, (!t442), sd_, H', ⟨le_⟩, ⟨bf_ BK437.out⟩, ⟨by (with_reducible repeat (first | refine blk_drewN ?_ _ | refine blk_drew ?_ | refine blk_alloc ?_ _)); refine blk_put (cs := #[.int .i64 t438, .int .i64 0]) ?_ 1 _ rfl; (with_reducible repeat (first | refine blk_drewN ?_ _ | refine blk_drew ?_ | refine blk_alloc ?_ _)); refine blk_put (cs := #[.int .i64 0, .int .i64 0]) ?_ 0 _ rfl; (with_reducible repeat (first | refine blk_drewN ?_ _ | refine blk_drew ?_ | refine blk_alloc ?_ _)); exact BK441.out⟩, ⟨bl_ HB.out⟩⟩
 case rest =>
  clear HC3
  try clear p2
  try clear c5
  try clear c7
  try clear c9
  try clear hcz8_0
  try clear hcz8_1
  try clear hfz8_0
  try clear hfz8_1
  obtain ⟨kq, x23_2, rfl, HA, HJ2, BK437, BK441, HB⟩ := hcut
  cases kq with
  | zero => exact absurd HA.out (by simp [impl_FromGaps.j0])
  | succ kj2 =>
   have H := HA.out
   clear HA
   simp only [impl_FromGaps.j0] at H
   by_cases c11 : x23_2 = true
   ·subst c11
    rw [if_pos rfl] at H
    simp only [Option.some.injEq, Prod.mk.injEq] at H
    obtain ⟨rfl, rfl⟩ := H
    have hnb12 := NB437_441.out
    have hnc12 := NB441_437.out
    have hcz13_0 := bc_ BK437
    have hfz13_0 := blk_frozen BK437.out 0
    go_wp2
    refine bodyPost_ret (results_ct rfl _ _ gb437 29 #[.slice none 0 0] (0, 0) _ rfl (by (with_reducible repeat (first | refine blk_drewN ?_ _ | refine blk_drew ?_ | refine blk_alloc ?_ _)); refine blk_put (cs := #[.slice none 0 0]) ?_ 0 _ rfl; (with_reducible repeat (first | refine blk_drewN ?_ _ | refine blk_drew ?_ | refine blk_alloc ?_ _)); exact BK437.out) Try.underlying29 rfl (by kernel_rfl)) rfl ?_
    exact ⟨_, er_, by first | exact Kd.R_nil _ _ _ _ _ | exact Kd.N_nil _ _ _ _ _ | exact Kd.V_nil _ _ _ _ _ | exact Kd.Q_nil _ _ _ _ _ | exact Kd.S_nil _ _ _ _ _, bl_ HB.out⟩
   obtain rfl := Bool.eq_false_iff.mpr c11
   rw [if_neg nf_] at H
   obtain ⟨c14, H⟩ := in_ H
   have c14b0 := eq_true c14
   have c14b1 := decide_eq_true c14
   clear c14
   obtain ⟨y443, hy443⟩ : ∃ y_ : List Bool, y_ = (List.replicate 401 false) := ⟨_, rfl⟩
   replace H : (impl_FromGaps.l0 kj2 l0 y443 l0 (l0.length : Int) 0) = some (r1, r2) := hr_ hy443 H
   have Ny443 := am_ hy443
   clear hy443
   have H' := am_ H
   clear H
   go_wp2_with (first | ((with_reducible refine gate_dst (N := 25) rfl ?_); refine Kd.R_make Kd.bool _ 4 rfl (N := 25) rfl 56 _ _ rfl 401 rfl rfl Try.underlying56 (.bool false) 1 info4 rfl (by decide) (by omega) false (ok := fun _ => True) (okp := fun _ => True) rfl (fun _ hk => hk) trivial (by omega) (by omega) (Below.refl _ _) (Nat.le_refl _) ?_; intro v444 w15 ho16 hb hg_ hnew_; clear hg_ hnew_; (first | rw [← Ny443.out] at ho16 | (simp only [Int.reduceToNat] at ho16; rw [← Ny443.out] at ho16)); have HO445 := rl_ ho16 HB; replace BK437 := bb_ BK437 hb; replace BK441 := bb_ BK441 hb; replace HB := bs_ HB hb; clear hb ho16))
   go_loopg [28] kj2 (fun kq v28 w' => ∃ (x6_2 : List Bool) (x28_2 : Int), v28 = .int .i64 x28_2 ∧ Aside0 (impl_FromGaps.l0 kq l0 x6_2 l0 (l0.length : Int) x28_2 = some (r1, r2)) ∧ Aside0 (kq ≤ kj2) ∧ Aside0 (Kd.R Kd.bool 4 w' w.heap.size (fun _ => True) v444 x6_2) ∧ Aside0 (w'.heap[gb437]? = some (.cells #[(.slice none 0 0)] 29 (0, 0))) ∧ Aside0 (w'.heap[gb441]? = some (.cells #[.int .i64 t438, .int .i64 t439] 78 (0, 0))) ∧ Aside0 (Below w.heap.size w w'))
   case atStart => exact ⟨(y443), (0), sd_, H', ⟨Nat.le_refl _⟩, ⟨kr_ HO445.out⟩, ⟨bk_ BK437.out⟩, ⟨bk_ BK441.out⟩, ⟨bl_ HB.out⟩⟩
   case round =>
    clear H'
    try clear c1
    try clear p2
    try clear c5
    try clear c7
    try clear c9
    try clear c11
    try clear c12
    try clear hcz13_0
    try clear hcz8_0
    try clear hcz8_1
    try clear hfz13_0
    try clear hfz8_0
    try clear hfz8_1
    obtain ⟨x6_2, x28_2, rfl, HA, HK2, HO_6, BK437, BK441, HB⟩ := hrel
    cases gk with
    | zero => exact absurd HA.out (by simp [impl_FromGaps.l0])
    | succ k2 =>
     have H := HA.out
     clear HA
     simp only [impl_FromGaps.l0] at H
     by_cases c17 : x28_2 < (l0.length : Int)
     ·rw [if_pos c17] at H
      have c17b0 := decide_eq_true c17
      clear c17
      obtain ⟨c18, H⟩ := in_ H
      have c18b0 := decide_eq_true c18
      clear c18
      obtain ⟨c19, H⟩ := in_ H
      have c19b0 := decide_eq_true c19
      clear c19
      obtain ⟨c20, H⟩ := in_ H
      have c20b0 := decide_eq_true c20
      clear c20
      obtain ⟨c21, H⟩ := in_ H
      have c21b0 := decide_eq_true c21
      clear c21
      obtain ⟨y447, hy447⟩ : ∃ y_ : List Bool, y_ = (x6_2.set ((rd l0 x28_2) : Int).toNat true) := ⟨_, rfl⟩
      replace H : (impl_FromGaps.l0 k2 l0 y447 l0 (l0.length : Int) (wrap64 (x28_2 + 1))) = some (r1, r2) := hr_ hy447 H
      have Ny447 := am_ hy447
      clear hy447
      have H' := am_ H
      clear H
      obtain ⟨p446, q446, ad446, e446, hx446_0⟩ := ri_ (Kd.at_int HR0.out x28_2)
      cases e446
      replace hx446_0 := (HB.out.cell (World.block_lt_of_cell? w _ hx446_0)).trans hx446_0
      have p22 : 0 ≤ ((rd l0 x28_2) : Int) := od_
      have q22 : ((rd l0 x28_2) : Int) < ((x6_2.length : Int) : Int) := od_
      obtain ⟨go22, co22, eo22, gb22, gl22, cl22, HG22⟩ := Kd.R_form HO_6.out (by omega)
      (first | cases eo22 | (injection eo22 with ea_ en_ ec_; (first | subst ea_ | (injection ea_ with ea_; subst ea_)); subst ec_; clear en_))
      have GB22 := am_ gb22
      have GG22 := am_ HG22
      clear gb22 gl22 HG22
      obtain ⟨hx22_0, hf22_0⟩ := Kd.R_celln false HO_6.out ((rd l0 x28_2) : Int) p22 q22
      replace p22 := eq_true p22
      replace q22 := eq_true q22
      have HP23 := Kd.R_putg HO_6.out ((rd l0 x28_2) : Int) true
      go_wp2_with (first | ((with_reducible refine gate_store (t := 4) (p := 34) rfl ?_); refine store_event (t := 4) (p := 34) (v := ?vo_w24) (w1 := (wr.setCell ⟨go22, ((rd l0 x28_2) : Int).toNat, none⟩ (.bool true))) ?hg ?ho ?hn ?hr ?_; (case ho => rfl); (case hg => rfl); (case hn => rfl); (case hr => first | (go_simp; done) | (go_simp; rfl)); intro w24 hw; have hg : wr.grownBy w24 (some go22) := (by rw [hw]; exact HP23.2); have hp_ : Kd.R Kd.bool 4 w24 w.heap.size (fun _ => True) (.slice (some ⟨go22, 0, none⟩) x6_2.length co22) y447 := (by rw [hw, Ny447.out]; exact HP23.1); clear HP23; replace BK437 := am_ (blk_grown (g := gb437) (o := .cells #[.slice none 0 0] 29 (0, 0)) (bk_ BK437.out) hg (Kd.R_ne HO_6.out BK437.out (by decide))); replace BK441 := am_ (blk_grown (g := gb441) (o := .cells #[.int .i64 t438, .int .i64 t439] 78 (0, 0)) (bk_ BK441.out) hg (Kd.R_ne HO_6.out BK441.out (by decide))); replace HO_6 := am_ (hp_); replace HB := am_ ((by rw [hw]; exact below_set (HB.out) GB22.out : Below w.heap.size w w24)); clear hg hw hp_))
      go_roundg k2
      case measure => have := HJ2.out; have := HK2.out; omega
      case rel => exact ⟨(y447), (wrap64 (x28_2 + 1)), sd_, H', ⟨by have := HJ2.out; have := HK2.out; omega⟩, ⟨kr_ HO_6.out⟩, ⟨bk_ BK437.out⟩, ⟨bk_ BK441.out⟩, ⟨bl_ HB.out⟩⟩
     rw [if_neg c17] at H
     have c17b0 : decide (x28_2 < (l0.length : Int)) = false := decide_eq_false c17
     clear c17
     have H' := am_ H
     clear H
     go_wp2_with (first | ((with_reducible refine gate_dst (N := 9) rfl ?_); refine be_ 9 #[.slice none 0 0] 29 fun gb448 hg w25 hbox hb => ?_; replace HO_6 := rb_ HO_6 hb; have BK448 := am_ (hbox); have GW448 := ge_ hg HB; have GE448 := ge_ hg HB; replace HB := bs_ HB hb; have NB437_448 := nl_ hg BK437; have NB448_437 := ng_ hg BK437; replace BK437 := bb_ BK437 hb; have NB441_448 := nl_ hg BK441; have NB448_441 := ng_ hg BK441; replace BK441 := bb_ BK441 hb; clear hb hbox hg; have hnb26 := NB448_437.out; have hnc26 := NB437_448.out; have hnb27 := NB448_441.out; have hnc27 := NB441_448.out; have hcz28_0 := bc_ BK448; have hfz28_0 := blk_frozen BK448.out 0))
     go_loopg [10] k2 (fun kq v10 w' => ∃ (x10_3 : Int) (x449000_3 : List Int) (u449000 : Value), v10 = .int .i64 x10_3 ∧ Aside0 (impl_FromGaps.l1 kq l0 x6_2 x10_3 x449000_3 = some (r1, r2)) ∧ Aside0 (kq ≤ k2) ∧ Aside0 (Kd.R Kd.bool 4 w' w.heap.size (fun _ => True) v444 x6_2) ∧ Aside0 (Kd.R (Kd.int .i64) 3 w' w.heap.size (fun _ => True) u449000 x449000_3) ∧ Aside0 (w'.heap[gb437]? = some (.cells #[(.slice none 0 0)] 29 (0, 0))) ∧ Aside0 (w'.heap[gb441]? = some (.cells #[.int .i64 t438, .int .i64 t439] 78 (0, 0))) ∧ Aside0 (w'.heap[gb448]? = some (.cells #[u449000] 29 (0, 0))) ∧ Aside0 (Below w.heap.size w w'))
     case atStart => exact ⟨(1), (([] : List Int)), (.slice none 0 0), sd_, H', ⟨Nat.le_refl _⟩, ⟨kr_ (Kd.R_mono (Kd.R_far (p := ⟨gb448, 0, none⟩) (Kd.R_types HO_6.out BK448.out (by decide)) (fun _ hk => hk.2) (.slice none 0 0)) (fun _ hk => trivial))⟩, ⟨by first | exact Kd.R_nil _ _ _ _ _ | exact Kd.N_nil _ _ _ _ _ | exact Kd.V_nil _ _ _ _ _ | exact Kd.Q_nil _ _ _ _ _ | exact Kd.S_nil _ _ _ _ _⟩, ⟨bf_ BK437.out⟩, ⟨bf_ BK441.out⟩, ⟨by (with_reducible repeat (first | refine blk_drewN ?_ _ | refine blk_drew ?_ | refine blk_alloc ?_ _)); refine blk_put (cs := #[.slice none 0 0]) ?_ 0 _ rfl; (with_reducible repeat (first | refine blk_drewN ?_ _ | refine blk_drew ?_ | refine blk_alloc ?_ _)); exact BK448.out⟩, ⟨bl_ HB.out⟩⟩
     case round =>
      clear H'
      try clear c1
      try clear c2
      try clear p2
      try clear q2
      try clear hx2
      try clear hf2
      try clear p4
      try clear q4
      try clear hx4
      try clear c5
      try clear p6
      try clear c7
      try clear c9
      try clear c11
      try clear c12
      try clear p22
      try clear q22
      try clear hx22
      try clear hf22
      try clear c26
      try clear c27
      try clear hcz13_0
      try clear hcz28_0
      try clear hcz8_0
      try clear hcz8_1
      try clear hfz13_0
      try clear hfz28_0
      try clear hfz8_0
      try clear hfz8_1
      try clear hx22_0
      try clear hx446_0
      try clear p446
      try clear q446
      obtain ⟨x10_3, x449000_3, u449000, rfl, HA, HK3, HO_6, HO_449000, BK437, BK441, BK448, HB⟩ := hrel
      cases gk with
      | zero => exact absurd HA.out (by simp [impl_FromGaps.l1])
      | succ k3 =>
       have H := HA.out
       clear HA
       simp only [impl_FromGaps.l1] at H
       by_cases c29 : x10_3 < (x6_2.length : Int)
       rotate_left
       ·rw [if_neg c29] at H
        have c29b0 : decide (x10_3 < (x6_2.length : Int)) = false := decide_eq_false c29
        clear c29
        obtain ⟨t455, A49, H⟩ := ob_ H
        (try dsimp only at H)
        by_cases c50 : t455 = true
        rotate_left
        ·obtain rfl := Bool.eq_false_iff.mpr c50
         rw [if_neg nf_] at H
         simp only [Option.some.injEq, Prod.mk.injEq] at H
         obtain ⟨rfl, rfl⟩ := H
         obtain ⟨Ao77, co77, eo77⟩ := Kd.R_slice HO_6.out
         subst eo77
         have hnb78 := NB448_437.out
         have hnc78 := NB437_448.out
         have hnb79 := NB448_441.out
         have hnc79 := NB441_448.out
         have hcz80_0 := bc_ BK448
         have hfz80_0 := blk_frozen BK448.out 0
         obtain ⟨Ao81, co81, eo81⟩ := Kd.R_slice HO_449000.out
         subst eo81
         go_wp2_with (first | ((with_reducible refine gate_callee (f := 49) rfl ?_); refine gl_ 80 Try.func49 #[.agg #[.slice Ao81 x449000_3.length co81]] ?_; (with_reducible refine (impl_IsSemigroup.calls k3 _ _ x449000_3 false _ ?side1 ?side2 A49.out).mono ?_); (case side1 => exact rs_ HO_449000); (case side2 => exact (Kd.R_reads' HO_449000.out).2.1); rintro e w82 ⟨rfl, hb⟩; refine ⟨_, rfl, ?_⟩; replace HO_6 := rb_ HO_6 hb; replace HO_449000 := rb_ HO_449000 hb; replace BK437 := bb_ BK437 hb; replace BK441 := bb_ BK441 hb; replace BK448 := bb_ BK448 hb; replace HB := bs_ HB hb; (try clear hb); (try clear hb2); (try clear hk); (try clear hi); have hnb83 := NB437_441.out; have hnc83 := NB441_437.out; have hcz84_0 := bc_ BK437; have hfz84_0 := blk_frozen BK437.out 0))
         refine bodyPost_ret (results_ct rfl _ _ gb437 29 #[.slice none 0 0] (0, 0) _ rfl (by (with_reducible repeat (first | refine blk_drewN ?_ _ | refine blk_drew ?_ | refine blk_alloc ?_ _)); refine blk_put (cs := #[.slice none 0 0]) ?_ 0 _ rfl; (with_reducible repeat (first | refine blk_drewN ?_ _ | refine blk_drew ?_ | refine blk_alloc ?_ _)); exact BK437.out) Try.underlying29 rfl (by kernel_rfl)) rfl ?_
         exact ⟨_, er_, by first | exact Kd.R_nil _ _ _ _ _ | exact Kd.N_nil _ _ _ _ _ | exact Kd.V_nil _ _ _ _ _ | exact Kd.Q_nil _ _ _ _ _ | exact Kd.S_nil _ _ _ _ _, bl_ HB.out⟩
        subst c50
        rw [if_pos rfl] at H
        obtain ⟨t456, A51, H⟩ := ob_ H
        (try dsimp only at H)
        obtain ⟨t459, A52, H⟩ := ob_ H
        (try dsimp only at H)
        by_cases c53 : t459 = true
        ·subst c53
         rw [if_pos rfl] at H
         simp only [Option.some.injEq, Prod.mk.injEq] at H
         obtain ⟨rfl, rfl⟩ := H
         obtain ⟨Ao54, co54, eo54⟩ := Kd.R_slice HO_6.out
         subst eo54
         have hnb55 := NB448_437.out
         have hnc55 := NB437_448.out
         have hnb56 := NB448_441.out
         have hnc56 := NB441_448.out
         have hcz57_0 := bc_ BK448
         have hfz57_0 := blk_frozen BK448.out 0
         obtain ⟨Ao58, co58, eo58⟩ := Kd.R_slice HO_449000.out
         subst eo58
         go_wp2_with (first | ((with_reducible refine gate_callee (f := 49) rfl ?_); refine gl_ 80 Try.func49 #[.agg #[.slice Ao58 x449000_3.length co58]] ?_; (with_reducible refine (impl_IsSemigroup.calls k3 _ _ x449000_3 true _ ?side1 ?side2 A49.out).mono ?_); (case side1 => exact rs_ HO_449000); (case side2 => exact (Kd.R_reads' HO_449000.out).2.1); rintro e w59 ⟨rfl, hb⟩; refine ⟨_, rfl, ?_⟩; replace HO_6 := rb_ HO_6 hb; replace HO_449000 := rb_ HO_449000 hb; replace BK437 := bb_ BK437 hb; replace BK441 := bb_ BK441 hb; replace BK448 := bb_ BK448 hb; replace HB := bs_ HB hb; (try clear hb); (try clear hb2); (try clear hk); (try clear hi); have hcz60_0 := bc_ BK448; have hfz60_0 := blk_frozen BK448.out 0) | (go_at_call 80; (with_reducible refine (impl_Gaps.calls k3 _ _ x449000_3 t456 _ ?side1 ?side2 A51.out).mono ?_); (case side1 => exact rs_ HO_449000); (case side2 => exact (Kd.R_reads' HO_449000.out).2.1); rintro e w61 ⟨v457, rfl, ho0, hb⟩; replace HO_6 := rb_ HO_6 hb; have HO458 := am_ (Kd.R_lower (Kd.R_new' ho0 (Kd.R_lt (kr_ HO_449000.out))) (below_size (bl_ HB.out))); replace HO_449000 := am_ (Kd.R_elder' (kr_ HO_449000.out) (Kd.R_base ho0) hb); replace BK437 := bb_ BK437 hb; replace BK441 := bb_ BK441 hb; replace BK448 := bb_ BK448 hb; replace HB := bs_ HB hb; (try clear hb); (try clear hb2); (try clear hk); (try clear hi); (try clear ho0); obtain ⟨Ao62, co62, eo62⟩ := Kd.R_slice HO458.out; subst eo62) | (go_at_call 93; (with_reducible refine (slices_Equal_int_int.calls k3 _ _ t456 _ _ l0 true _ ?side1 ?side2 ?side3 ?side4 A52.out).mono ?_); (case side1 => exact rs_ HO458); (case side2 => exact (Kd.R_reads' HO458.out).2.1); (case side3 => exact cs_ HR0 HB); (case side4 => exact HC0.out); rintro e w' ⟨rfl, ⟨nd, rfl⟩⟩; (try (rw [drewN_self w61]; generalize hq_ : World.drewN w61 _ = w61; have n0_ : Aside0 (Kd.R (Kd.int .i64) 3 w61 w.heap.size (fun k_ => some k_ ≠ (.slice Ao58 x449000_3.length co58 : Value).ownBlock) (.slice Ao62 t456.length co62) t456) := ⟨by rw [← hq_]; exact (kr_ (Kd.R_mono HO458.out (fun _ hk => hk.2)))⟩; have n1_ : Aside0 (Kd.R (Kd.int .i64) 3 w61 w.heap.size (fun k_ => some k_ ≠ (.slice Ao62 t456.length co62 : Value).ownBlock) (.slice Ao58 x449000_3.length co58) x449000_3) := ⟨by rw [← hq_]; exact (kr_ (Kd.R_mono HO_449000.out (fun _ hk => hk.2)))⟩; have n2_ : Aside0 (Kd.R Kd.bool 4 w61 w.heap.size (fun _ => True) (.slice Ao54 x6_2.length co54) x6_2) := ⟨by rw [← hq_]; exact (kr_ HO_6.out)⟩; have n3_ : Aside0 (w61.heap[gb437]? = some (.cells #[.slice none 0 0] 29 (0, 0))) := ⟨by rw [← hq_]; exact (bk_ BK437.out)⟩; have n4_ : Aside0 (w61.heap[gb441]? = some (.cells #[.int .i64 t438, .int .i64 t439] 78 (0, 0))) := ⟨by rw [← hq_]; exact (bk_ BK441.out)⟩; have n5_ : Aside0 (w61.heap[gb448]? = some (.cells #[.slice Ao58 x449000_3.length co58] 29 (0, 0))) := ⟨by rw [← hq_]; exact (bk_ BK448.out)⟩; have n6_ : Aside0 (Below w.heap.size w w61) := ⟨by rw [← hq_]; exact (bl_ HB.out)⟩; clear HO458 HO_449000 HO_6 BK437 BK441 BK448 HB hq_; have HO458 := n0_; have HO_449000 := n1_; have HO_6 := n2_; have BK437 := n3_; have BK441 := n4_; have BK448 := n5_; have HB := n6_; clear n0_ n1_ n2_ n3_ n4_ n5_ n6_)); have hcz63_0 := bc_ BK448; have hfz63_0 := blk_frozen BK448.out 0; have hnb64 := NB437_441.out; have hnc64 := NB441_437.out; have hcz65_0 := bc_ BK437; have hfz65_0 := blk_frozen BK437.out 0))
         refine bodyPost_ret (results_ct rfl _ _ gb437 29 #[.slice Ao58 x449000_3.length co58] (0, 0) _ rfl (by (with_reducible repeat (first | refine blk_drewN ?_ _ | refine blk_drew ?_ | refine blk_alloc ?_ _)); refine blk_put (cs := #[.slice none 0 0]) ?_ 0 _ rfl; (with_reducible repeat (first | refine blk_drewN ?_ _ | refine blk_drew ?_ | refine blk_alloc ?_ _)); exact BK437.out) Try.underlying29 rfl (by kernel_rfl)) rfl ?_
         exact ⟨_, er_, kr_ (Kd.R_mono (Kd.R_far (p := ⟨gb437, 0, none⟩) (Kd.R_types HO_449000.out BK437.out (by decide)) (fun _ hk => hk.2) (.slice Ao58 x449000_3.length co58)) (fun _ hk => trivial)), bl_ HB.out⟩
        obtain rfl := Bool.eq_false_iff.mpr c53
        rw [if_neg nf_] at H
        simp only [Option.some.injEq, Prod.mk.injEq] at H
        obtain ⟨rfl, rfl⟩ := H
        obtain ⟨Ao66, co66, eo66⟩ := Kd.R_slice HO_6.out
        subst eo66
        have hnb67 := NB448_437.out
        have hnc67 := NB437_448.out
        have hnb68 := NB448_441.out
        have hnc68 := NB441_448.out
        have hcz69_0 := bc_ BK448
        have hfz69_0 := blk_frozen BK448.out 0
        obtain ⟨Ao70, co70, eo70⟩ := Kd.R_slice HO_449000.out
        subst eo70
        go_wp2_with (first | ((with_reducible refine gate_callee (f := 49) rfl ?_); refine gl_ 80 Try.func49 #[.agg #[.slice Ao70 x449000_3.length co70]] ?_; (with_reducible refine (impl_IsSemigroup.calls k3 _ _ x449000_3 true _ ?side1 ?side2 A49.out).mono ?_); (case side1 => exact rs_ HO_449000); (case side2 => exact (Kd.R_reads' HO_449000.out).2.1); rintro e w71 ⟨rfl, hb⟩; refine ⟨_, rfl, ?_⟩; replace HO_6 := rb_ HO_6 hb; replace HO_449000 := rb_ HO_449000 hb; replace BK437 := bb_ BK437 hb; replace BK441 := bb_ BK441 hb; replace BK448 := bb_ BK448 hb; replace HB := bs_ HB hb; (try clear hb); (try clear hb2); (try clear hk); (try clear hi); have hcz72_0 := bc_ BK448; have hfz72_0 := blk_frozen BK448.out 0) | (go_at_call 80; (with_reducible refine (impl_Gaps.calls k3 _ _ x449000_3 t456 _ ?side1 ?side2 A51.out).mono ?_); (case side1 => exact rs_ HO_449000); (case side2 => exact (Kd.R_reads' HO_449000.out).2.1); rintro e w73 ⟨v457, rfl, ho0, hb⟩; replace HO_6 := rb_ HO_6 hb; have HO458 := am_ (Kd.R_lower (Kd.R_new' ho0 (Kd.R_lt (kr_ HO_449000.out))) (below_size (bl_ HB.out))); replace HO_449000 := am_ (Kd.R_elder' (kr_ HO_449000.out) (Kd.R_base ho0) hb); replace BK437 := bb_ BK437 hb; replace BK441 := bb_ BK441 hb; replace BK448 := bb_ BK448 hb; replace HB := bs_ HB hb; (try clear hb); (try clear hb2); (try clear hk); (try clear hi); (try clear ho0); obtain ⟨Ao74, co74, eo74⟩ := Kd.R_slice HO458.out; subst eo74) | (go_at_call 93; (with_reducible refine (slices_Equal_int_int.calls k3 _ _ t456 _ _ l0 false _ ?side1 ?side2 ?side3 ?side4 A52.out).mono ?_); (case side1 => exact rs_ HO458); (case side2 => exact (Kd.R_reads' HO458.out).2.1); (case side3 => exact cs_ HR0 HB); (case side4 => exact HC0.out); rintro e w' ⟨rfl, ⟨nd, rfl⟩⟩; (try (rw [drewN_self w73]; generalize hq_ : World.drewN w73 _ = w73; have n0_ : Aside0 (Kd.R (Kd.int .i64) 3 w73 w.heap.size (fun k_ => some k_ ≠ (.slice Ao70 x449000_3.length co70 : Value).ownBlock) (.slice Ao74 t456.length co74) t456) := ⟨by rw [← hq_]; exact (kr_ (Kd.R_mono HO458.out (fun _ hk => hk.2)))⟩; have n1_ : Aside0 (Kd.R (Kd.int .i64) 3 w73 w.heap.size (fun k_ => some k_ ≠ (.slice Ao74 t456.length co74 : Value).ownBlock) (.slice Ao70 x449000_3.length co70) x449000_3) := ⟨by rw [← hq_]; exact (kr_ (Kd.R_mono HO_449000.out (fun _ hk => hk.2)))⟩; have n2_ : Aside0 (Kd.R Kd.bool 4 w73 w.heap.size (fun _ => True) (.slice Ao66 x6_2.length co66) x6_2) := ⟨by rw [← hq_]; exact (kr_ HO_6.out)⟩; have n3_ : Aside0 (w73.heap[gb437]? = some (.cells #[.slice none 0 0] 29 (0, 0))) := ⟨by rw [← hq_]; exact (bk_ BK437.out)⟩; have n4_ : Aside0 (w73.heap[gb441]? = some (.cells #[.int .i64 t438, .int .i64 t439] 78 (0, 0))) := ⟨by rw [← hq_]; exact (bk_ BK441.out)⟩; have n5_ : Aside0 (w73.heap[gb448]? = some (.cells #[.slice Ao70 x449000_3.length co70] 29 (0, 0))) := ⟨by rw [← hq_]; exact (bk_ BK448.out)⟩; have n6_ : Aside0 (Below w.heap.size w w73) := ⟨by rw [← hq_]; exact (bl_ HB.out)⟩; clear HO458 HO_449000 HO_6 BK437 BK441 BK448 HB hq_; have HO458 := n0_; have HO_449000 := n1_; have HO_6 := n2_; have BK437 := n3_; have BK441 := n4_; have BK448 := n5_; have HB := n6_; clear n0_ n1_ n2_ n3_ n4_ n5_ n6_)); have hnb75 := NB437_441.out; have hnc75 := NB441_437.out; have hcz76_0 := bc_ BK437; have hfz76_0 := blk_frozen BK437.out 0))
        refine bodyPost_ret (results_ct rfl _ _ gb437 29 #[.slice none 0 0] (0, 0) _ rfl (by (with_reducible repeat (first | refine blk_drewN ?_ _ | refine blk_drew ?_ | refine blk_alloc ?_ _)); refine blk_put (cs := #[.slice none 0 0]) ?_ 0 _ rfl; (with_reducible repeat (first | refine blk_drewN ?_ _ | refine blk_drew ?_ | refine blk_alloc ?_ _)); exact BK437.out) Try.underlying29 rfl (by kernel_rfl)) rfl ?_
        exact ⟨_, er_, by first | exact Kd.R_nil _ _ _ _ _ | exact Kd.N_nil _ _ _ _ _ | exact Kd.V_nil _ _ _ _ _ | exact Kd.Q_nil _ _ _ _ _ | exact Kd.S_nil _ _ _ _ _, bl_ HB.out⟩
       rw [if_pos c29] at H
       have c29b0 := decide_eq_true c29
       clear c29
       obtain ⟨c30, H⟩ := in_ H
       have c30b0 := decide_eq_true c30
       clear c30
       have H' := am_ H
       clear H
       obtain ⟨Ao31, co31, eo31⟩ := Kd.R_slice HO_6.out
       subst eo31
       obtain ⟨p449, q449, ad449, e449, hx449_0⟩ := ri_ (Kd.at_bool (Kd.R_reads' HO_6.out).2.2 x10_3)
       cases e449
       go_wp2
       go_loopg [11, 12] k3 (fun kq v11 v12 w' => ∃ (x11_4 : Bool) (x12_4 : Int), v11 = .bool x11_4 ∧ v12 = .int .i64 x12_4 ∧ Aside0 (impl_FromGaps.l2 kq l0 x6_2 x10_3 x11_4 x12_4 x449000_3 = some (r1, r2)) ∧ Aside0 (kq ≤ k3) ∧ Aside0 (Kd.R Kd.bool 4 w' w.heap.size (fun _ => True) (.slice (some ad449) x6_2.length co31) x6_2) ∧ Aside0 (Kd.R (Kd.int .i64) 3 w' w.heap.size (fun _ => True) u449000 x449000_3) ∧ Aside0 (w'.heap[gb437]? = some (.cells #[(.slice none 0 0)] 29 (0, 0))) ∧ Aside0 (w'.heap[gb441]? = some (.cells #[.int .i64 t438, .int .i64 t439] 78 (0, 0))) ∧ Aside0 (w'.heap[gb448]? = some (.cells #[u449000] 29 (0, 0))) ∧ Aside0 (Below w.heap.size w w'))
       case atStart => exact ⟨(rdOf false x6_2 x10_3), (1), sd_, sd_, H', ⟨Nat.le_refl _⟩, ⟨kr_ HO_6.out⟩, ⟨kr_ HO_449000.out⟩, ⟨bk_ BK437.out⟩, ⟨bk_ BK441.out⟩, ⟨bk_ BK448.out⟩, ⟨bl_ HB.out⟩⟩
       case round =>
        clear H'
        try clear c1
        try clear c2
        try clear p2
        try clear q2
        try clear hx2
        try clear hf2
        try clear c3
        try clear p4
        try clear q4
        try clear hx4
        try clear c5
        try clear p6
        try clear c7
        try clear c9
        try clear c11
        try clear c12
        try clear p22
        try clear q22
        try clear hx22
        try clear hf22
        try clear c26
        try clear c27
        try clear hcz13_0
        try clear hcz28_0
        try clear hcz8_0
        try clear hcz8_1
        try clear hfz13_0
        try clear hfz28_0
        try clear hfz8_0
        try clear hfz8_1
        try clear hx22_0
        try clear hx446_0
        try clear hx449_0
        try clear p446
        try clear p449
        try clear q446
        try clear q449
        obtain ⟨x11_4, x12_4, rfl, rfl, HA, HK4, HO_6, HO_449000, BK437, BK441, BK448, HB⟩ := hrel
        cases gk with
        | zero => exact absurd HA.out (by simp [impl_FromGaps.l2])
        | succ k4 =>
         have H := HA.out
         clear HA
         simp only [impl_FromGaps.l2] at H
         by_cases c32 : (wrap64 (2 * x12_4)) ≤ x10_3
         rotate_left
         ·rw [if_neg c32] at H
          have c32b0 : decide ((wrap64 (2 * x12_4)) ≤ x10_3) = false := decide_eq_false c32
          clear c32
          by_cases c41 : x11_4 = true
          ·subst c41
           rw [if_pos rfl] at H
           have H' := am_ H
           clear H
           go_wp2
           go_roundg k4
           case measure => have := HJ2.out; have := HK2.out; have := HK3.out; have := HK4.out; omega
           case rel => exact ⟨(wrap64 (x10_3 + 1)), (x449000_3), (u449000), sd_, H', ⟨by have := HJ2.out; have := HK2.out; have := HK3.out; have := HK4.out; omega⟩, ⟨kr_ HO_6.out⟩, ⟨kr_ HO_449000.out⟩, ⟨bk_ BK437.out⟩, ⟨bk_ BK441.out⟩, ⟨bk_ BK448.out⟩, ⟨bl_ HB.out⟩⟩
          obtain rfl := Bool.eq_false_iff.mpr c41
          rw [if_neg nf_] at H
          obtain ⟨c42, H⟩ := in_ H
          have LMc42 := am_ c42
          clear c42
          obtain ⟨y452, hy452⟩ : ∃ y_ : List Int, y_ = (x449000_3 ++ [x10_3]) := ⟨_, rfl⟩
          replace H : (impl_FromGaps.l1 k4 l0 x6_2 (wrap64 (x10_3 + 1)) y452) = some (r1, r2) := hr_ hy452 H
          have Ny452 := am_ hy452
          clear hy452
          have H' := am_ H
          clear H
          have hnb43 := NB448_437.out
          have hnc43 := NB437_448.out
          have hnb44 := NB448_441.out
          have hnc44 := NB441_448.out
          have hcz45_0 := bc_ BK448
          have hfz45_0 := blk_frozen BK448.out 0
          go_wp2_with (first | ((with_reducible refine gate_builtin (b := .append) (xs := #[.tmp 74, .tmp 76]) rfl ?_); at_builtin; refine Kd.R_append (Kd.int .i64) (w0 := w) w.heap.size rfl (.tmp 74) (.tmp 76) 22 3 (.int .i64 0) 8 rfl Try.underlying22 info3 rfl (by decide) (by omega) u449000 x449000_3 x10_3 [.int .i64 x10_3] (fun _ => True) (fun _ => False) rfl rfl ?aP (fun _ hk => hk.elim) ?aF ?aO ?aB ?aS ?aL ?_; (case aP => exact rfl); (case aB => exact (bl_ HB.out)); (case aF => exact (fun _ _ => trivial)); (case aO => exact (kr_ HO_449000.out)); (case aS => exact (below_size (bl_ HB.out))); (case aL => have := LMc42.out; omega); intro v453 w46 ho hb hg hat; rw [← Ny452.out] at ho; have n0_ := am_ (Kd.R_over' (kr_ HO_6.out) (Kd.R_typed (kr_ HO_449000.out)) (by decide) hg); have n1_ := am_ (blk_grown (g := gb437) (o := .cells #[.slice none 0 0] 29 (0, 0)) (bk_ BK437.out) hg (Kd.R_ne HO_449000.out BK437.out (by decide))); have n2_ := am_ (blk_grown (g := gb441) (o := .cells #[.int .i64 t438, .int .i64 t439] 78 (0, 0)) (bk_ BK441.out) hg (Kd.R_ne HO_449000.out BK441.out (by decide))); have n3_ := am_ (blk_grown (g := gb448) (o := .cells #[u449000] 29 (0, 0)) (bk_ BK448.out) hg (Kd.R_ne HO_449000.out BK448.out (by decide))); have n4_ := am_ (hb); have n5_ := am_ (ho); clear HO_6; clear BK437; clear BK441; clear BK448; clear HB; clear HO_449000; have HO_6 := n0_; have BK437 := n1_; have BK441 := n2_; have BK448 := n3_; have HB := n4_; have HO454 := n5_; clear n0_ n1_ n2_ n3_ n4_ n5_; clear ho hb hg hat; obtain ⟨Ao47, co47, eo47⟩ := Kd.R_slice HO454.out; subst eo47; have hcz48_0 := bc_ BK448; have hfz48_0 := blk_frozen BK448.out 0))
          go_roundg k4
          case measure => have := HJ2.out; have := HK2.out; have := HK3.out; have := HK4.out; omega
          case rel => exact ⟨(wrap64 (x10_3 + 1)), (y452), (.slice Ao47 y452.length co47), sd_, H', ⟨by have := HJ2.out; have := HK2.out; have := HK3.out; have := HK4.out; omega⟩, ⟨kr_ (Kd.R_mono (Kd.R_far (p := ⟨gb448, 0, none⟩) (Kd.R_types HO_6.out BK448.out (by decide)) (fun _ hk => hk.2) (.slice Ao47 y452.length co47)) (fun _ hk => trivial))⟩, ⟨kr_ (Kd.R_mono (Kd.R_far (p := ⟨gb448, 0, none⟩) (Kd.R_types HO454.out BK448.out (by decide)) (fun _ hk => hk.2) (.slice Ao47 y452.length co47)) (fun _ hk => trivial))⟩, ⟨bf_ BK437.out⟩, ⟨bf_ BK441.out⟩, ⟨by (with_reducible repeat (first | refine blk_drewN ?_ _ | refine blk_drew ?_ | refine blk_alloc ?_ _)); refine blk_put (cs := #[u449000]) ?_ 0 _ rfl; (with_reducible repeat (first | refine blk_drewN ?_ _ | refine blk_drew ?_ | refine blk_alloc ?_ _)); exact BK448.out⟩, ⟨bl_ HB.out⟩⟩
         rw [if_pos c32] at H
         have c32b0 := decide_eq_true c32
         clear c32
         by_cases c33 : x11_4 = true
         ·subst c33
          rw [if_pos rfl] at H
          have H' := am_ H
          clear H
          go_wp2
          go_roundg k4
          case measure => have := HJ2.out; have := HK2.out; have := HK3.out; have := HK4.out; omega
          case rel => exact ⟨(wrap64 (x10_3 + 1)), (x449000_3), (u449000), sd_, H', ⟨by have := HJ2.out; have := HK2.out; have := HK3.out; have := HK4.out; omega⟩, ⟨kr_ HO_6.out⟩, ⟨kr_ HO_449000.out⟩, ⟨bk_ BK437.out⟩, ⟨bk_ BK441.out⟩, ⟨bk_ BK448.out⟩, ⟨bl_ HB.out⟩⟩
         obtain rfl := Bool.eq_false_iff.mpr c33
         rw [if_neg nf_] at H
         obtain ⟨c34, H⟩ := in_ H
         have c34b0 := decide_eq_true c34
         clear c34
         obtain ⟨c35, H⟩ := in_ H
         have c35b0 := decide_eq_true c35
         clear c35
         obtain ⟨bq36, hbq36⟩ : ∃ b_ : Bool, b_ = (rdOf false x6_2 x12_4) := ⟨_, rfl⟩
         replace H : (if bq36 = true then (impl_FromGaps.l2 k4 l0 x6_2 x10_3 false (wrap64 (x12_4 + 1)) x449000_3) else (if 0 ≤ (wrap64 (x10_3 - x12_4)) then (if (wrap64 (x10_3 - x12_4)) < (x6_2.length : Int) then (impl_FromGaps.l2 k4 l0 x6_2 x10_3 (!(rdOf false x6_2 (wrap64 (x10_3 - x12_4)))) (wrap64 (x12_4 + 1)) x449000_3) else (none)) else (none))) = some (r1, r2) := by rw [← hbq36] at H; exact H
         have Nbq36 := am_ hbq36
         clear hbq36
         by_cases c37 : bq36 = true
         ·subst c37
          rw [if_pos rfl] at H
          have H' := am_ H
          clear H
          obtain ⟨p450, q450, ad450, e450, hx450_0⟩ := ri_ (Kd.at_bool (Kd.R_reads' HO_6.out).2.2 x12_4)
          (try rw [← Nbq36.out] at hx450_0)
          obtain rfl : ad449 = ad450 := (by injection e450)
          go_wp2
          go_roundg k4
          case measure => have := HJ2.out; have := HK2.out; have := HK3.out; have := HK4.out; omega
          case rel => exact ⟨(false), (wrap64 (x12_4 + 1)), sd_, sd_, H', ⟨by have := HJ2.out; have := HK2.out; have := HK3.out; have := HK4.out; omega⟩, ⟨kr_ HO_6.out⟩, ⟨kr_ HO_449000.out⟩, ⟨bk_ BK437.out⟩, ⟨bk_ BK441.out⟩, ⟨bk_ BK448.out⟩, ⟨bl_ HB.out⟩⟩
         obtain rfl := Bool.eq_false_iff.mpr c37
         rw [if_neg nf_] at H
         obtain ⟨ji38, hji38⟩ : ∃ j_ : Int, (wrap64 (x10_3 - x12_4)) = j_ := ⟨_, rfl⟩
         replace H : (if 0 ≤ (ji38) then (if (ji38) < (x6_2.length : Int) then (impl_FromGaps.l2 k4 l0 x6_2 x10_3 (!(rdOf false x6_2 (ji38))) (wrap64 (x12_4 + 1)) x449000_3) else (none)) else (none)) = some (r1, r2) := by first | (rw [hji38] at H; exact H) | (simp only [hji38] at H ⊢; exact H)
         have hji38w : (IntKind.i64.wrap (x10_3 - x12_4)) = ji38 := (i64_w _).trans hji38
         obtain ⟨c39, H⟩ := in_ H
         have c39b0 := decide_eq_true c39
         clear c39
         obtain ⟨c40, H⟩ := in_ H
         have c40b0 := decide_eq_true c40
         clear c40
         have H' := am_ H
         clear H
         obtain ⟨p450, q450, ad450, e450, hx450_0⟩ := ri_ (Kd.at_bool (Kd.R_reads' HO_6.out).2.2 x12_4)
         (try rw [← Nbq36.out] at hx450_0)
         obtain rfl : ad449 = ad450 := (by injection e450)
         obtain ⟨p451, q451, ad451, e451, hx451_0⟩ := ri_ (Kd.at_bool (Kd.R_reads' HO_6.out).2.2 (ji38))
         (try rw [← Nbq36.out] at hx451_0)
         obtain rfl : ad449 = ad451 := (by injection e451)
         go_wp2
         go_roundg k4
         case measure => have := HJ2.out; have := HK2.out; have := HK3.out; have := HK4.out; omega
         case rel => exact ⟨(!(rdOf false x6_2 (ji38))), (wrap64 (x12_4 + 1)), (by first | rfl | (simp; done) | (simp only [← hji38] <;> (first | rfl | simp)) | (simp [*]; done)), sd_, H', ⟨by have := HJ2.out; have := HK2.out; have := HK3.out; have := HK4.out; omega⟩, ⟨kr_ HO_6.out⟩, ⟨kr_ HO_449000.out⟩, ⟨bk_ BK437.out⟩, ⟨bk_ BK441.out⟩, ⟨bk_ BK448.out⟩, ⟨bl_ HB.out⟩⟩
mutual
def impl_ArfClosure.l0 : Nat → List Bool → Bool → Option (List Int × Bool)
 | 0, _, _ => none
 | k + 1, x4, x5 => if x5 = true then (impl_ArfClosure.l1 k x4 false (([] : List Int)) (x4.length : Int) 0) else (impl_ArfClosure.l5 k x4 (([] : List Int)) (x4.length : Int) 0)
def impl_ArfClosure.l1 : Nat → List Bool → Bool → List Int → Int → Int → Option (List Int × Bool)
 | 0, _, _, _, _, _ => none
 | k + 1, x4, x5, x6, x28, x29 => if x29 < x28 then (if 0 ≤ x29 then (if x29 < (x4.length : Int) then (if rdOf false x4 x29 = true then (if x6.length < 17592186044416 then (impl_ArfClosure.l1 k x4 x5 (x6 ++ [x29]) x28 (wrap64 (x29 + 1))) else (none)) else (impl_ArfClosure.l1 k x4 x5 x6 x28 (wrap64 (x29 + 1)))) else (none)) else (none)) else (impl_ArfClosure.l2 k x4 x5 x6 (x6.length : Int) 0)
def impl_ArfClosure.l2 : Nat → List Bool → Bool → List Int → Int → Int → Option (List Int × Bool)
 | 0, _, _, _, _, _ => none
 | k + 1, x4, x5, x6, x41, x42 => if x42 < x41 then (if 0 ≤ x42 then (if x42 < (x6.length : Int) then (if 0 ≤ (wrap64 (x42 + 1)) then (if (wrap64 (x42 + 1)) ≤ (x6.length : Int) then ((some (x6.take ((wrap64 (x42 + 1)) : Int).toNat : List Int)).bind fun y474 => (impl_ArfClosure.l3 k x4 x5 x6 (rd x6 x42) x41 x42 y474 (y474.length : Int) 0)) else (none)) else (none)) else (none)) else (none)) else (impl_ArfClosure.l0 k x4 x5)
def impl_ArfClosure.l3 : Nat → List Bool → Bool → List Int → Int → Int → Int → List Int → Int → Int → Option (List Int × Bool)
 | 0, _, _, _, _, _, _, _, _, _ => none
 | k + 1, x4, x5, x6, x10, x41, x42, x50, x51, x52 => if x52 < x51 then (if 0 ≤ x52 then (if x52 < (x50.length : Int) then (if 0 ≤ (wrap64 (x52 + 1)) then (if (wrap64 (x52 + 1)) ≤ (x6.length : Int) then ((some (x6.take ((wrap64 (x52 + 1)) : Int).toNat : List Int)).bind fun y479 => (impl_ArfClosure.l4 k x4 x5 x6 x10 (rd x50 x52) x41 x42 x50 x51 x52 y479 (y479.length : Int) 0)) else (none)) else (none)) else (none)) else (none)) else (impl_ArfClosure.l2 k x4 x5 x6 x41 (wrap64 (x42 + 1)))
def impl_ArfClosure.l4 : Nat → List Bool → Bool → List Int → Int → Int → Int → Int → List Int → Int → Int → List Int → Int → Int → Option (List Int × Bool)
 | 0, _, _, _, _, _, _, _, _, _, _, _, _, _ => none
 | k + 1, x4, x5, x6, x10, x12, x41, x42, x50, x51, x52, x60, x61, x62 => if x62 < x61 then (if 0 ≤ x62 then (if x62 < (x60.length : Int) then (if (wrap64 ((wrap64 (x10 + x12)) - (rd x60 x62))) < (x4.length : Int) then (if 0 ≤ (wrap64 ((wrap64 (x10 + x12)) - (rd x60 x62))) then (if (rdOf false x4 (wrap64 ((wrap64 (x10 + x12)) - (rd x60 x62))) = true) then (impl_ArfClosure.l4 k x4 x5 x6 x10 x12 x41 x42 x50 x51 x52 x60 x61 (wrap64 (x62 + 1))) else (impl_ArfClosure.l4 k (x4.set ((wrap64 ((wrap64 (x10 + x12)) - (rd x60 x62))) : Int).toNat true) true x6 x10 x12 x41 x42 x50 x51 x52 x60 x61 (wrap64 (x62 + 1)))) else (none)) else (impl_ArfClosure.l4 k x4 x5 x6 x10 x12 x41 x42 x50 x51 x52 x60 x61 (wrap64 (x62 + 1)))) else (none)) else (none)) else (impl_ArfClosure.l3 k x4 x5 x6 x10 x41 x42 x50 x51 (wrap64 (x52 + 1)))
def impl_ArfClosure.l5 : Nat → List Bool → List Int → Int → Int → Option (List Int × Bool)
 | 0, _, _, _, _ => none
 | k + 1, x4, x16, x90, x91 => if x91 < x90 then (if 0 ≤ x91 then (if x91 < (x4.length : Int) then (if rdOf false x4 x91 = true then (impl_ArfClosure.l5 k x4 x16 x90 (wrap64 (x91 + 1))) else (if x16.length < 17592186044416 then (impl_ArfClosure.l5 k x4 (x16 ++ [x91]) x90 (wrap64 (x91 + 1))) else (none))) else (none)) else (none)) else ((impl_FromGaps.f k x16).bind fun bt493 => (some (bt493.1, bt493.2)))
end
def impl_ArfClosure.f (k : Nat) (l0_0 : List Int) : Option (List Int × Bool) := (impl_IsSemigroup.f k l0_0).bind fun t462 => (if t462 = true then ((impl_table.f k l0_0 200).bind fun t463 => (impl_ArfClosure.l0 k t463 true)) else (some (([] : List Int), false)))
theorem impl_ArfClosure.calls (k : Nat) (A0_0 : Option Addr) (c0_0 : Nat) (l0_0 : List Int) (r1 : List Int) (r2 : Bool) (w : World) (hr0_0 : Kd.C (Kd.int .i64) w A0_0 l0_0.length l0_0) (hc0_0 : l0_0.length ≤ c0_0) (h : impl_ArfClosure.f k l0_0 = some (r1, r2)) :
 Calls Try.prog 18 #[.agg #[.slice A0_0 l0_0.length c0_0]] w fun e w' => ∃ v0_ : Value, e = .returned (.tuple #[.agg #[v0_], .bool r2]) ∧ Kd.R (Kd.int .i64) 3 w' w.heap.size (fun _ => True) v0_ r1 ∧ Below w.heap.size w w' := by
 have hu29 := Try.underlying29
 have HR0_0 := am_ hr0_0
 have HC0_0 := am_ hc0_0
 clear hr0_0 hc0_0
 have HB := am_ (Below.refl w.heap.size w)
 have H := h
 clear h
 unfold impl_ArfClosure.f at H
 obtain ⟨t462, A2, H⟩ := ob_ H
 (try dsimp only at H)
 by_cases c3 : t462 = true
 rotate_left
 ·obtain rfl := Bool.eq_false_iff.mpr c3
  rw [if_neg nf_] at H
  simp only [Option.some.injEq, Prod.mk.injEq] at H
  obtain ⟨rfl, rfl⟩ := H
  go_enter Try.func18, Try.ntmps18
  go_wp2_with (first | ((with_reducible refine gate_dst (N := 1) rfl ?_); refine be_ 1 #[.slice A0_0 l0_0.length c0_0] 29 fun gb460 hg w65 hbox hb => ?_; have BK460 := am_ (hbox); have GW460 := ge_ hg HB; have GE460 := ge_ hg HB; replace HB := bs_ HB hb; clear hb hbox hg) | ((with_reducible refine gate_dst (N := 2) rfl ?_); refine be_ 2 #[.slice none 0 0] 29 fun gb461 hg w66 hbox hb => ?_; have BK461 := am_ (hbox); have GW461 := ge_ hg HB; have GE461 := ge_ hg HB; replace HB := bs_ HB hb; have NB460_461 := nl_ hg BK460; have NB461_460 := ng_ hg BK460; replace BK460 := bb_ BK460 hb; clear hb hbox hg; have hnb67 := NB460_461.out; have hnc67 := NB461_460.out; have hcz68_0 := bc_ BK460; have hfz68_0 := blk_frozen BK460.out 0) | ((with_reducible refine gate_callee (f := 49) rfl ?_); refine gl_ 20 Try.func49 #[.agg #[.slice A0_0 l0_0.length c0_0]] ?_; (with_reducible refine (impl_IsSemigroup.calls k _ _ l0_0 false _ ?side1 ?side2 A2.out).mono ?_); (case side1 => exact cs_ HR0_0 HB); (case side2 => exact HC0_0.out); rintro e w69 ⟨rfl, hb⟩; refine ⟨_, rfl, ?_⟩; replace BK460 := bb_ BK460 hb; replace BK461 := bb_ BK461 hb; replace HB := bs_ HB hb; (try clear hb); (try clear hb2); (try clear hk); (try clear hi); have hcz70_0 := bc_ BK461; have hfz70_0 := blk_frozen BK461.out 0))
  refine bodyPost_ret (results_ct rfl _ _ gb461 29 #[.slice none 0 0] (0, 0) _ rfl (by (with_reducible repeat (first | refine blk_drewN ?_ _ | refine blk_drew ?_ | refine blk_alloc ?_ _)); refine blk_put (cs := #[.slice none 0 0]) ?_ 0 _ rfl; (with_reducible repeat (first | refine blk_drewN ?_ _ | refine blk_drew ?_ | refine blk_alloc ?_ _)); exact BK461.out) Try.underlying29 rfl (by kernel_rfl)) rfl ?_
  exact ⟨_, er_, by first | exact Kd.R_nil _ _ _ _ _ | exact Kd.N_nil _ _ _ _ _ | exact Kd.V_nil _ _ _ _ _ | exact Kd.Q_nil _ _ _ _ _ | exact Kd.S_nil _ _ _ _ _, bl_ HB.out⟩
 subst c3
 rw [if_pos rfl] at H
 obtain ⟨t463, A4, H⟩ := ob_ H
 (try dsimp only at H)
 have H' := am_ H
 clear H
 go_enter Try.func18, Try.ntmps18
 go_wp2_with (first | ((with_reducible refine gate_dst (N := 1) rfl ?_); refine be_ 1 #[.slice A0_0 l0_0.length c0_0] 29 fun gb460 hg w5 hbox hb => ?_; have BK460 := am_ (hbox); have GW460 := ge_ hg HB; have GE460 := ge_ hg HB; replace HB := bs_ HB hb; clear hb hbox hg) | ((with_reducible refine gate_dst (N := 2) rfl ?_); refine be_ 2 #[.slice none 0 0] 29 fun gb461 hg w6 hbox hb => ?_; have BK461 := am_ (hbox); have GW461 := ge_ hg HB; have GE461 := ge_ hg HB; replace HB := bs_ HB hb; have NB460_461 := nl_ hg BK460; have NB461_460 := ng_ hg BK460; replace BK460 := bb_ BK460 hb; clear hb hbox hg; have hnb7 := NB460_461.out; have hnc7 := NB461_460.out; have hcz8_0 := bc_ BK460; have hfz8_0 := blk_frozen BK460.out 0) | ((with_reducible refine gate_callee (f := 49) rfl ?_); refine gl_ 20 Try.func49 #[.agg #[.slice A0_0 l0_0.length c0_0]] ?_; (with_reducible refine (impl_IsSemigroup.calls k _ _ l0_0 true _ ?side1 ?side2 A2.out).mono ?_); (case side1 => exact cs_ HR0_0 HB); (case side2 => exact HC0_0.out); rintro e w9 ⟨rfl, hb⟩; refine ⟨_, rfl, ?_⟩; replace BK460 := bb_ BK460 hb; replace BK461 := bb_ BK461 hb; replace HB := bs_ HB hb; (try clear hb); (try clear hb2); (try clear hk); (try clear hi); have hcz10_0 := bc_ BK460; have hfz10_0 := blk_frozen BK460.out 0) | ((with_reducible refine gate_callee (f := 50) rfl ?_); refine gl_ 24 Try.func50 #[.agg #[.slice A0_0 l0_0.length c0_0], .int .i64 200] ?_; (with_reducible refine (impl_table.calls k _ _ l0_0 200 t463 _ ?side1 ?side2 A4.out).mono ?_); (case side1 => exact cs_ HR0_0 HB); (case side2 => exact HC0_0.out); rintro e w11 ⟨v464, rfl, ho0, hb⟩; refine ⟨_, rfl, ?_⟩; have HO465 := rl_ ho0 HB; replace BK460 := bb_ BK460 hb; replace BK461 := bb_ BK461 hb; replace HB := bs_ HB hb; (try clear hb); (try clear hb2); (try clear hk); (try clear hi); (try clear ho0)))
 go_loopg [5] k (fun kq v5 w' => ∃ (x4_1 : List Bool) (x5_1 : Bool), v5 = .bool x5_1 ∧ Aside0 (impl_ArfClosure.l0 kq x4_1 x5_1 = some (r1, r2)) ∧ Aside0 (kq ≤ k) ∧ Aside0 (Kd.R Kd.bool 4 w' w.heap.size (fun _ => True) v464 x4_1) ∧ Aside0 (w'.heap[gb460]? = some (.cells #[(.slice A0_0 l0_0.length c0_0)] 29 (0, 0))) ∧ Aside0 (w'.heap[gb461]? = some (.cells #[(.slice none 0 0)] 29 (0, 0))) ∧ Aside0 (Below w.heap.size w w'))
 case atStart => exact ⟨(t463), (true), sd_, H', ⟨Nat.le_refl _⟩, ⟨kr_ HO465.out⟩, ⟨bk_ BK460.out⟩, ⟨bk_ BK461.out⟩, ⟨bl_ HB.out⟩⟩
 case round =>
  clear H'
  try clear c1
  try clear p2
  try clear c3
  try clear c4
  try clear c5
  try clear c7
  try clear hcz10_0
  try clear hcz8_0
  try clear hfz10_0
  try clear hfz8_0
  obtain ⟨x4_1, x5_1, rfl, HA, HK1, HO_4, BK460, BK461, HB⟩ := hrel
  cases gk with
  | zero => exact absurd HA.out (by simp [impl_ArfClosure.l0])
  | succ k1 =>
   have H := HA.out
   clear HA
   simp only [impl_ArfClosure.l0] at H
   by_cases c12 : x5_1 = true
   rotate_left
   ·obtain rfl := Bool.eq_false_iff.mpr c12
    rw [if_neg nf_] at H
    obtain ⟨y486, hy486⟩ : ∃ y_ : List Int, y_ = (([] : List Int)) := ⟨_, rfl⟩
    replace H : (impl_ArfClosure.l5 k1 x4_1 y486 (x4_1.length : Int) 0) = some (r1, r2) := hr_ hy486 H
    have Ny486 := am_ hy486
    clear hy486
    have H' := am_ H
    clear H
    go_wp2_with (first | ((with_reducible refine gate_dst (N := 88) rfl ?_); refine Kd.R_lit (Kd.int .i64) _ 3 ?hg (N := 88) ?hd (xs := ([] : List Int)) (inner := []) (ok := fun _ => True) (okp := fun _ => True) ?hr ?hp (fun _ hk => hk) trivial (Below.refl _ _) (Nat.le_refl _) (by simp) ?_; (case hd => rfl); (case hg => rfl); (case hr => first | (go_simp; done) | (go_simp; rfl)); (case hp => exact (Reps.none _ _)); intro v487 w49 ho50 hb hg_ hnew_; clear hg_ hnew_; (first | rw [← Ny486.out] at ho50 | (simp only [Int.reduceToNat] at ho50; rw [← Ny486.out] at ho50)); replace HO_4 := rb_ HO_4 hb; have HO488 := rl_ ho50 HB; replace BK460 := bb_ BK460 hb; replace BK461 := bb_ BK461 hb; replace HB := bs_ HB hb; clear hb ho50; obtain ⟨Ao51, co51, eo51⟩ := Kd.R_slice HO_4.out; subst eo51))
    go_loopg [16, 91] k1 (fun kq v16 v91 w' => ∃ (x16_2 : List Int) (x91_2 : Int), v91 = .int .i64 x91_2 ∧ Aside0 (impl_ArfClosure.l5 kq x4_1 x16_2 (x4_1.length : Int) x91_2 = some (r1, r2)) ∧ Aside0 (kq ≤ k1) ∧ Aside0 (Kd.R Kd.bool 4 w' w.heap.size (fun _ => True) (.slice Ao51 x4_1.length co51) x4_1) ∧ Aside0 (Kd.R (Kd.int .i64) 3 w' w.heap.size (fun _ => True) v16 x16_2) ∧ Aside0 (w'.heap[gb460]? = some (.cells #[(.slice A0_0 l0_0.length c0_0)] 29 (0, 0))) ∧ Aside0 (w'.heap[gb461]? = some (.cells #[(.slice none 0 0)] 29 (0, 0))) ∧ Aside0 (Below w.heap.size w w'))
    case atStart => exact ⟨(y486), (0), sd_, H', ⟨Nat.le_refl _⟩, ⟨kr_ HO_4.out⟩, ⟨kr_ HO488.out⟩, ⟨bk_ BK460.out⟩, ⟨bk_ BK461.out⟩, ⟨bl_ HB.out⟩⟩
    case round =>
     clear H'
     try clear c1
     try clear q1
     try clear c2
     try clear p2
     try clear c3
     try clear q3
     try clear c4
     try clear p4
     try clear q4
     try clear hx4
     try clear hf4
     try clear c5
     try clear p6
     try clear c7
     try clear c12
     try clear q19
     try clear c20
     try clear q30
     try clear q37
     try clear q44
     try clear c45
     try clear p46
     try clear q46
     try clear hx46
     try clear hf46
     try clear p47
     try clear q47
     try clear hx47
     try clear p48
     try clear q48
     try clear hx48
     try clear hcz10_0
     try clear hcz8_0
     try clear hfz10_0
     try clear hfz8_0
     try clear hx469_0
     try clear hx46_0
     try clear hx473_0
     try clear hx478_0
     try clear hx483_0
     try clear hx484_0
     try clear p469
     try clear p473
     try clear p478
     try clear p483
     try clear p484
     try clear q469
     try clear q473
     try clear q478
     try clear q483
     try clear q484
     obtain ⟨x16_2, x91_2, rfl, HA, HK2, HO_4, HO_16, BK460, BK461, HB⟩ := hrel
     cases gk with
     | zero => exact absurd HA.out (by simp [impl_ArfClosure.l5])
     | succ k2 =>
      have H := HA.out
      clear HA
      simp only [impl_ArfClosure.l5] at H
      by_cases c52 : x91_2 < (x4_1.length : Int)
      rotate_left
      ·rw [if_neg c52] at H
       have c52b0 : decide (x91_2 < (x4_1.length : Int)) = false := decide_eq_false c52
       clear c52
       replace H := Option.bind_eq_some_iff.mp H
       obtain ⟨⟨t493, t496⟩, A590, H⟩ := H
       (try dsimp only at H)
       have A59 := am_ A590
       clear A590
       simp only [Option.some.injEq, Prod.mk.injEq] at H
       obtain ⟨rfl, rfl⟩ := H
       obtain ⟨Ao60, co60, eo60⟩ := Kd.R_slice HO_16.out
       subst eo60
       go_wp2_with (first | ((with_reducible refine gate_callee (f := 51) rfl ?_); refine gl_ 104 Try.func51 #[.slice Ao60 x16_2.length co60] ?_; (with_reducible refine (impl_FromGaps.calls k2 _ _ x16_2 t493 t496 _ ?side1 ?side2 A59.out).mono ?_); (case side1 => exact rs_ HO_16); (case side2 => exact (Kd.R_reads' HO_16.out).2.1); rintro e w61 ⟨v494, rfl, ho0, hb⟩; refine ⟨_, rfl, ?_⟩; replace HO_4 := rb_ HO_4 hb; have HO495 := am_ (Kd.R_lower (Kd.R_new' ho0 (Kd.R_lt (kr_ HO_16.out))) (below_size (bl_ HB.out))); replace HO_16 := am_ (Kd.R_elder' (kr_ HO_16.out) (Kd.R_base ho0) hb); replace BK460 := bb_ BK460 hb; replace BK461 := bb_ BK461 hb; replace HB := bs_ HB hb; (try clear hb); (try clear hb2); (try clear hk); (try clear hi); (try clear ho0); obtain ⟨Ao62, co62, eo62⟩ := Kd.R_slice HO495.out; subst eo62; have hnb63 := NB461_460.out; have hnc63 := NB460_461.out; have hcz64_0 := bc_ BK461; have hfz64_0 := blk_frozen BK461.out 0))
       refine bodyPost_ret (results_ct rfl _ _ gb461 29 #[.slice Ao62 t493.length co62] (0, 0) _ rfl (by (with_reducible repeat (first | refine blk_drewN ?_ _ | refine blk_drew ?_ | refine blk_alloc ?_ _)); refine blk_put (cs := #[.slice none 0 0]) ?_ 0 _ rfl; (with_reducible repeat (first | refine blk_drewN ?_ _ | refine blk_drew ?_ | refine blk_alloc ?_ _)); exact BK461.out) Try.underlying29 rfl (by kernel_rfl)) rfl ?_
       exact ⟨_, er_, kr_ (Kd.R_mono (Kd.R_far (p := ⟨gb461, 0, none⟩) (Kd.R_types HO495.out BK461.out (by decide)) (fun _ hk => hk.2) (.slice Ao62 t493.length co62)) (fun _ hk => trivial)), bl_ HB.out⟩
      rw [if_pos c52] at H
      have c52b0 := decide_eq_true c52
      clear c52
      obtain ⟨c53, H⟩ := in_ H
      have c53b0 := decide_eq_true c53
      clear c53
      obtain ⟨c54, H⟩ := in_ H
      have c54b0 := decide_eq_true c54
      clear c54
      obtain ⟨bq55, hbq55⟩ : ∃ b_ : Bool, b_ = (rdOf false x4_1 x91_2) := ⟨_, rfl⟩
      replace H : (if bq55 = true then (impl_ArfClosure.l5 k2 x4_1 x16_2 (x4_1.length : Int) (wrap64 (x91_2 + 1))) else (if x16_2.length < 17592186044416 then (impl_ArfClosure.l5 k2 x4_1 (x16_2 ++ [x91_2]) (x4_1.length : Int) (wrap64 (x91_2 + 1))) else (none))) = some (r1, r2) := by rw [← hbq55] at H; exact H
      have Nbq55 := am_ hbq55
      clear hbq55
      by_cases c56 : bq55 = true
      ·subst c56
       rw [if_pos rfl] at H
       have H' := am_ H
       clear H
       obtain ⟨p489, q489, ad489, e489, hx489_0⟩ := ri_ (Kd.at_bool (Kd.R_reads' HO_4.out).2.2 x91_2)
       (try rw [← Nbq55.out] at hx489_0)
       cases e489
       go_wp2
       go_roundg k2
       case measure => have := HK1.out; have := HK2.out; omega
       case rel => exact ⟨(x16_2), (wrap64 (x91_2 + 1)), sd_, H', ⟨by have := HK1.out; have := HK2.out; omega⟩, ⟨kr_ HO_4.out⟩, ⟨kr_ HO_16.out⟩, ⟨bk_ BK460.out⟩, ⟨bk_ BK461.out⟩, ⟨bl_ HB.out⟩⟩
      obtain rfl := Bool.eq_false_iff.mpr c56
      rw [if_neg nf_] at H
      obtain ⟨c57, H⟩ := in_ H
      have LMc57 := am_ c57
      clear c57
      obtain ⟨y490, hy490⟩ : ∃ y_ : List Int, y_ = (x16_2 ++ [x91_2]) := ⟨_, rfl⟩
      replace H : (impl_ArfClosure.l5 k2 x4_1 y490 (x4_1.length : Int) (wrap64 (x91_2 + 1))) = some (r1, r2) := hr_ hy490 H
      have Ny490 := am_ hy490
      clear hy490
      have H' := am_ H
      clear H
      obtain ⟨p489, q489, ad489, e489, hx489_0⟩ := ri_ (Kd.at_bool (Kd.R_reads' HO_4.out).2.2 x91_2)
      (try rw [← Nbq55.out] at hx489_0)
      cases e489
      go_wp2_with (first | ((with_reducible refine gate_builtin (b := .append) (xs := #[.tmp 98, .tmp 100]) rfl ?_); at_builtin; refine Kd.R_append (Kd.int .i64) (w0 := w) w.heap.size rfl (.tmp 98) (.tmp 100) 22 3 (.int .i64 0) 8 rfl Try.underlying22 info3 rfl (by decide) (by omega) u16 x16_2 x91_2 [.int .i64 x91_2] (fun _ => True) (fun _ => False) rfl rfl ?aP (fun _ hk => hk.elim) ?aF ?aO ?aB ?aS ?aL ?_; (case aP => exact rfl); (case aB => exact (bl_ HB.out)); (case aF => exact (fun _ _ => trivial)); (case aO => exact (kr_ HO_16.out)); (case aS => exact (below_size (bl_ HB.out))); (case aL => have := LMc57.out; omega); intro v491 w58 ho hb hg hat; rw [← Ny490.out] at ho; have n0_ := am_ (Kd.R_over' (kr_ HO_4.out) (Kd.R_typed (kr_ HO_16.out)) (by decide) hg); have n1_ := am_ (blk_grown (g := gb460) (o := .cells #[.slice A0_0 l0_0.length c0_0] 29 (0, 0)) (bk_ BK460.out) hg (Kd.R_ne HO_16.out BK460.out (by decide))); have n2_ := am_ (blk_grown (g := gb461) (o := .cells #[.slice none 0 0] 29 (0, 0)) (bk_ BK461.out) hg (Kd.R_ne HO_16.out BK461.out (by decide))); have n3_ := am_ (hb); have n4_ := am_ (ho); clear HO_4; clear BK460; clear BK461; clear HB; clear HO_16; have HO_4 := n0_; have BK460 := n1_; have BK461 := n2_; have HB := n3_; have HO492 := n4_; clear n0_ n1_ n2_ n3_ n4_; clear ho hb hg hat))
      go_roundg k2
      case measure => have := HK1.out; have := HK2.out; omega
      case rel => exact ⟨(y490), (wrap64 (x91_2 + 1)), sd_, H', ⟨by have := HK1.out; have := HK2.out; omega⟩, ⟨kr_ HO_4.out⟩, ⟨kr_ HO492.out⟩, ⟨bk_ BK460.out⟩, ⟨bk_ BK461.out⟩, ⟨bl_ HB.out⟩⟩
   subst c12
   rw [if_pos rfl] at H
   obtain ⟨y466, hy466⟩ : ∃ y_ : List Int, y_ = (([] : List Int)) := ⟨_, rfl⟩
   replace H : (impl_ArfClosure.l1 k1 x4_1 false y466 (x4_1.length : Int) 0) = some (r1, r2) := hr_ hy466 H
   have Ny466 := am_ hy466
   clear hy466
   have H' := am_ H
   clear H
   go_wp2_with (first | ((with_reducible refine gate_dst (N := 26) rfl ?_); refine Kd.R_lit (Kd.int .i64) _ 3 ?hg (N := 26) ?hd (xs := ([] : List Int)) (inner := []) (ok := fun _ => True) (okp := fun _ => True) ?hr ?hp (fun _ hk => hk) trivial (Below.refl _ _) (Nat.le_refl _) (by simp) ?_; (case hd => rfl); (case hg => rfl); (case hr => first | (go_simp; done) | (go_simp; rfl)); (case hp => exact (Reps.none _ _)); intro v467 w13 ho14 hb hg_ hnew_; clear hg_ hnew_; (first | rw [← Ny466.out] at ho14 | (simp only [Int.reduceToNat] at ho14; rw [← Ny466.out] at ho14)); replace HO_4 := rb_ HO_4 hb; have HO468 := rl_ ho14 HB; replace BK460 := bb_ BK460 hb; replace BK461 := bb_ BK461 hb; replace HB := bs_ HB hb; clear hb ho14; obtain ⟨Ao15, co15, eo15⟩ := Kd.R_slice HO_4.out; subst eo15))
   go_loopg [6, 29] k1 (fun kq v6 v29 w' => ∃ (x6_2 : List Int) (x29_2 : Int), v29 = .int .i64 x29_2 ∧ Aside0 (impl_ArfClosure.l1 kq x4_1 false x6_2 (x4_1.length : Int) x29_2 = some (r1, r2)) ∧ Aside0 (kq ≤ k1) ∧ Aside0 (Kd.R Kd.bool 4 w' w.heap.size (fun _ => True) (.slice Ao15 x4_1.length co15) x4_1) ∧ Aside0 (Kd.R (Kd.int .i64) 3 w' w.heap.size (fun _ => True) v6 x6_2) ∧ Aside0 (w'.heap[gb460]? = some (.cells #[(.slice A0_0 l0_0.length c0_0)] 29 (0, 0))) ∧ Aside0 (w'.heap[gb461]? = some (.cells #[(.slice none 0 0)] 29 (0, 0))) ∧ Aside0 (Below w.heap.size w w'))
   case atStart => exact ⟨(y466), (0), sd_, H', ⟨Nat.le_refl _⟩, ⟨kr_ HO_4.out⟩, ⟨kr_ HO468.out⟩, ⟨bk_ BK460.out⟩, ⟨bk_ BK461.out⟩, ⟨bl_ HB.out⟩⟩
   case round =>
    clear H'
    try clear c1
    try clear p2
    try clear c3
    try clear c4
    try clear c5
    try clear c7
    try clear c12
    try clear hcz10_0
    try clear hcz8_0
    try clear hfz10_0
    try clear hfz8_0
    obtain ⟨x6_2, x29_2, rfl, HA, HK2, HO_4, HO_6, BK460, BK461, HB⟩ := hrel
    cases gk with
    | zero => exact absurd HA.out (by simp [impl_ArfClosure.l1])
    | succ k2 =>
     have H := HA.out
     clear HA
     simp only [impl_ArfClosure.l1] at H
     by_cases c16 : x29_2 < (x4_1.length : Int)
     ·rw [if_pos c16] at H
      have c16b0 := decide_eq_true c16
      clear c16
      obtain ⟨c17, H⟩ := in_ H
      have c17b0 := decide_eq_true c17
      clear c17
      obtain ⟨c18, H⟩ := in_ H
      have c18b0 := decide_eq_true c18
      clear c18
      obtain ⟨bq19, hbq19⟩ : ∃ b_ : Bool, b_ = (rdOf false x4_1 x29_2) := ⟨_, rfl⟩
      replace H : (if bq19 = true then (if x6_2.length < 17592186044416 then (impl_ArfClosure.l1 k2 x4_1 false (x6_2 ++ [x29_2]) (x4_1.length : Int) (wrap64 (x29_2 + 1))) else (none)) else (impl_ArfClosure.l1 k2 x4_1 false x6_2 (x4_1.length : Int) (wrap64 (x29_2 + 1)))) = some (r1, r2) := by rw [← hbq19] at H; exact H
      have Nbq19 := am_ hbq19
      clear hbq19
      by_cases c20 : bq19 = true
      ·subst c20
       rw [if_pos rfl] at H
       obtain ⟨c21, H⟩ := in_ H
       have LMc21 := am_ c21
       clear c21
       obtain ⟨y470, hy470⟩ : ∃ y_ : List Int, y_ = (x6_2 ++ [x29_2]) := ⟨_, rfl⟩
       replace H : (impl_ArfClosure.l1 k2 x4_1 false y470 (x4_1.length : Int) (wrap64 (x29_2 + 1))) = some (r1, r2) := hr_ hy470 H
       have Ny470 := am_ hy470
       clear hy470
       have H' := am_ H
       clear H
       obtain ⟨p469, q469, ad469, e469, hx469_0⟩ := ri_ (Kd.at_bool (Kd.R_reads' HO_4.out).2.2 x29_2)
       (try rw [← Nbq19.out] at hx469_0)
       cases e469
       go_wp2_with (first | ((with_reducible refine gate_builtin (b := .append) (xs := #[.tmp 35, .tmp 37]) rfl ?_); at_builtin; refine Kd.R_append (Kd.int .i64) (w0 := w) w.heap.size rfl (.tmp 35) (.tmp 37) 22 3 (.int .i64 0) 8 rfl Try.underlying22 info3 rfl (by decide) (by omega) u6 x6_2 x29_2 [.int .i64 x29_2] (fun _ => True) (fun _ => False) rfl rfl ?aP (fun _ hk => hk.elim) ?aF ?aO ?aB ?aS ?aL ?_; (case aP => exact rfl); (case aB => exact (bl_ HB.out)); (case aF => exact (fun _ _ => trivial)); (case aO => exact (kr_ HO_6.out)); (case aS => exact (below_size (bl_ HB.out))); (case aL => have := LMc21.out; omega); intro v471 w22 ho hb hg hat; rw [← Ny470.out] at ho; have n0_ := am_ (Kd.R_over' (kr_ HO_4.out) (Kd.R_typed (kr_ HO_6.out)) (by decide) hg); have n1_ := am_ (blk_grown (g := gb460) (o := .cells #[.slice A0_0 l0_0.length c0_0] 29 (0, 0)) (bk_ BK460.out) hg (Kd.R_ne HO_6.out BK460.out (by decide))); have n2_ := am_ (blk_grown (g := gb461) (o := .cells #[.slice none 0 0] 29 (0, 0)) (bk_ BK461.out) hg (Kd.R_ne HO_6.out BK461.out (by decide))); have n3_ := am_ (hb); have n4_ := am_ (ho); clear HO_4; clear BK460; clear BK461; clear HB; clear HO_6; have HO_4 := n0_; have BK460 := n1_; have BK461 := n2_; have HB := n3_; have HO472 := n4_; clear n0_ n1_ n2_ n3_ n4_; clear ho hb hg hat))
       go_roundg k2
       case measure => have := HK1.out; have := HK2.out; omega
       case rel => exact ⟨(y470), (wrap64 (x29_2 + 1)), sd_, H', ⟨by have := HK1.out; have := HK2.out; omega⟩, ⟨kr_ HO_4.out⟩, ⟨kr_ HO472.out⟩, ⟨bk_ BK460.out⟩, ⟨bk_ BK461.out⟩, ⟨bl_ HB.out⟩⟩
      obtain rfl := Bool.eq_false_iff.mpr c20
      rw [if_neg nf_] at H
      have H' := am_ H
      clear H
      obtain ⟨p469, q469, ad469, e469, hx469_0⟩ := ri_ (Kd.at_bool (Kd.R_reads' HO_4.out).2.2 x29_2)
      (try rw [← Nbq19.out] at hx469_0)
      cases e469
      go_wp2
      go_roundg k2
      case measure => have := HK1.out; have := HK2.out; omega
      case rel => exact ⟨(x6_2), (wrap64 (x29_2 + 1)), sd_, H', ⟨by have := HK1.out; have := HK2.out; omega⟩, ⟨kr_ HO_4.out⟩, ⟨kr_ HO_6.out⟩, ⟨bk_ BK460.out⟩, ⟨bk_ BK461.out⟩, ⟨bl_ HB.out⟩⟩
     rw [if_neg c16] at H
     have c16b0 : decide (x29_2 < (x4_1.length : Int)) = false := decide_eq_false c16
     clear c16
     have H' := am_ H
     clear H
     obtain ⟨Ao23, co23, eo23⟩ := Kd.R_slice HO_6.out
     subst eo23
     go_wp2
     go_loopg [5, 42] k2 (fun kq v5 v42 w' => ∃ (x4_3 : List Bool) (x5_3 : Bool) (x42_3 : Int), v5 = .bool x5_3 ∧ v42 = .int .i64 x42_3 ∧ Aside0 (impl_ArfClosure.l2 kq x4_3 x5_3 x6_2 (x6_2.length : Int) x42_3 = some (r1, r2)) ∧ Aside0 (kq ≤ k2) ∧ Aside0 (Kd.R Kd.bool 4 w' w.heap.size (fun _ => True) (.slice Ao15 x4_1.length co15) x4_3) ∧ Aside0 (Kd.R (Kd.int .i64) 3 w' w.heap.size (fun _ => True) (.slice Ao23 x6_2.length co23) x6_2) ∧ Aside0 (w'.heap[gb460]? = some (.cells #[(.slice A0_0 l0_0.length c0_0)] 29 (0, 0))) ∧ Aside0 (w'.heap[gb461]? = some (.cells #[(.slice none 0 0)] 29 (0, 0))) ∧ Aside0 (Below w.heap.size w w'))
     case atStart => exact ⟨(x4_1), (false), (0), sd_, sd_, H', ⟨Nat.le_refl _⟩, ⟨kr_ HO_4.out⟩, ⟨kr_ HO_6.out⟩, ⟨bk_ BK460.out⟩, ⟨bk_ BK461.out⟩, ⟨bl_ HB.out⟩⟩
     case round =>
      clear H'
      try clear c1
      try clear q1
      try clear c2
      try clear p2
      try clear c3
      try clear c4
      try clear p4
      try clear q4
      try clear hx4
      try clear c5
      try clear p6
      try clear c7
      try clear c12
      try clear q19
      try clear c20
      try clear hcz10_0
      try clear hcz8_0
      try clear hfz10_0
      try clear hfz8_0
      try clear hx469_0
      try clear p469
      try clear q469
      obtain ⟨x4_3, x5_3, x42_3, rfl, rfl, HA, HK3, HO_4, HO_6, BK460, BK461, HB⟩ := hrel
      have hl4_3 := (Kd.R_reads' HO_4.out).1
      rw [hl4_3] at HO_4
      (try simp only [hl4_3])
      (try simp only [hl4_3] at BK460)
      (try simp only [hl4_3] at BK461)
      (try simp only [hl4_3] at HO_6)
      cases gk with
      | zero => exact absurd HA.out (by simp [impl_ArfClosure.l2])
      | succ k3 =>
       have H := HA.out
       clear HA
       simp only [impl_ArfClosure.l2] at H
       by_cases c24 : x42_3 < (x6_2.length : Int)
       rotate_left
       ·rw [if_neg c24] at H
        have c24b0 : decide (x42_3 < (x6_2.length : Int)) = false := decide_eq_false c24
        (try simp only [hl4_3] at c24b0)
        clear c24
        have H' := am_ H
        clear H
        go_wp2
        (try simp only [← hl4_3])
        go_roundg k3
        case measure => have := HK1.out; have := HK2.out; have := HK3.out; omega
        case rel => exact ⟨(x4_3), (x5_3), sd_, H', ⟨by have := HK1.out; have := HK2.out; have := HK3.out; omega⟩, ⟨by (try simp only [hl4_3]); (with_reducible repeat (first | apply Kd.R_alloc | apply Kd.R_drewN | apply Kd.R_drew)); exact HO_4.out⟩, ⟨by (try simp only [hl4_3]); (with_reducible repeat (first | refine blk_drewN ?_ _ | refine blk_drew ?_ | refine blk_alloc ?_ _)); exact BK460.out⟩, ⟨by (try simp only [hl4_3]); (with_reducible repeat (first | refine blk_drewN ?_ _ | refine blk_drew ?_ | refine blk_alloc ?_ _)); exact BK461.out⟩, ⟨bl_ HB.out⟩⟩
       rw [if_pos c24] at H
       have c24b0 := decide_eq_true c24
       (try simp only [hl4_3] at c24b0)
       clear c24
       obtain ⟨c25, H⟩ := in_ H
       have c25b0 := decide_eq_true c25
       clear c25
       obtain ⟨c26, H⟩ := in_ H
       have c26b0 := decide_eq_true c26
       (try simp only [hl4_3] at c26b0)
       clear c26
       obtain ⟨ji27, hji27⟩ : ∃ j_ : Int, (wrap64 (x42_3 + 1)) = j_ := ⟨_, rfl⟩
       replace H : (if 0 ≤ (ji27) then (if (ji27) ≤ (x6_2.length : Int) then ((some (x6_2.take ((ji27) : Int).toNat : List Int)).bind fun y474 => (impl_ArfClosure.l3 k3 x4_3 x5_3 x6_2 (rd x6_2 x42_3) (x6_2.length : Int) x42_3 y474 (y474.length : Int) 0)) else (none)) else (none)) = some (r1, r2) := by first | (rw [hji27] at H; exact H) | (simp only [hji27] at H ⊢; exact H)
       have hji27w : (IntKind.i64.wrap (x42_3 + 1)) = ji27 := (i64_w _).trans hji27
       obtain ⟨c28, H⟩ := in_ H
       have c28b0 := eq_true c28
       have c28b1 := decide_eq_true c28
       clear c28
       obtain ⟨c29, H⟩ := in_ H
       have c29b0 := eq_true c29
       have c29b1 := decide_eq_true c29
       (try simp only [hl4_3] at c29b1)
       clear c29
       obtain ⟨y474, hy474⟩ : ∃ y_ : List Int, y_ = (x6_2.take ((ji27) : Int).toNat) := ⟨_, rfl⟩
       replace H : (impl_ArfClosure.l3 k3 x4_3 x5_3 x6_2 (rd x6_2 x42_3) (x6_2.length : Int) x42_3 y474 (y474.length : Int) 0) = some (r1, r2) := hr_ hy474 H
       have Ny474 := am_ hy474
       clear hy474
       have H' := am_ H
       clear H
       obtain ⟨p473, q473, ad473, e473, hx473_0⟩ := ri_ (Kd.at_int (Kd.R_reads' HO_6.out).2.2 x42_3)
       cases e473
       have q30 : ((ji27) : Int) ≤ ((x6_2.length : Int) : Int) := od_
       obtain ⟨i030, hi030, _, hsz30, _⟩ := info_parts info3
       have hroom30 : x6_2.length ≤ co23 := (Kd.R_reads' HO_6.out).2.1
       have hC30 : Kd.C (Kd.int .i64) _ (some ad473) x6_2.length x6_2 := (Kd.R_reads' HO_6.out).2.2
       have hcut30 := cut_to (P := Try.prog) 22 3 .i64 Try.underlying22 hi030 (some ad473) x6_2.length co23 (ji27) (od_) q30 hroom30
       have hr30 := Kd.C_take (m := ((ji27) : Int).toNat) hC30 (by omega)
       have hy30 : y474.length = ((ji27) : Int).toNat := (by rw [Ny474.out, List.length_take]; omega)
       rw [← Ny474.out] at hr30
       rw [← hy30] at hcut30
       have HR477 := am_ hr30
       have HC477 := am_ (show y474.length ≤ co23 from by omega)
       clear hr30 hC30 hroom30 hi030 hsz30
       have KY30 := am_ hy30
       clear hy30
       have KL30 := am_ (show ((ji27) : Int).toNat ≤ x6_2.length from by omega)
       replace q30 := eq_true q30
       go_wp2
       go_loopg [5, 52] k3 (fun kq v5 v52 w' => ∃ (x4_4 : List Bool) (x5_4 : Bool) (x52_4 : Int), v5 = .bool x5_4 ∧ v52 = .int .i64 x52_4 ∧ Aside0 (impl_ArfClosure.l3 kq x4_4 x5_4 x6_2 (rd x6_2 x42_3) (x6_2.length : Int) x42_3 y474 (y474.length : Int) x52_4 = some (r1, r2)) ∧ Aside0 (kq ≤ k3) ∧ Aside0 (Kd.R Kd.bool 4 w' w.heap.size (fun _ => True) (.slice Ao15 x4_3.length co15) x4_4) ∧ Aside0 (Kd.R (Kd.int .i64) 3 w' w.heap.size (fun _ => True) (.slice (some ad473) x6_2.length co23) x6_2) ∧ Aside0 (w'.heap[gb460]? = some (.cells #[(.slice A0_0 l0_0.length c0_0)] 29 (0, 0))) ∧ Aside0 (w'.heap[gb461]? = some (.cells #[(.slice none 0 0)] 29 (0, 0))) ∧ Aside0 (Kd.C (Kd.int .i64) w' (some ad473) y474.length y474) ∧ Aside0 (Below w.heap.size w w'))
       case atStart => exact ⟨(x4_3), (x5_3), (0), sd_, sd_, H', ⟨Nat.le_refl _⟩, ⟨by (try simp only [hl4_3]); (with_reducible repeat (first | apply Kd.R_alloc | apply Kd.R_drewN | apply Kd.R_drew)); exact HO_4.out⟩, ⟨by (try simp only [hl4_3]); (with_reducible repeat (first | apply Kd.R_alloc | apply Kd.R_drewN | apply Kd.R_drew)); exact HO_6.out⟩, ⟨by (try simp only [hl4_3]); (with_reducible repeat (first | refine blk_drewN ?_ _ | refine blk_drew ?_ | refine blk_alloc ?_ _)); exact BK460.out⟩, ⟨by (try simp only [hl4_3]); (with_reducible repeat (first | refine blk_drewN ?_ _ | refine blk_drew ?_ | refine blk_alloc ?_ _)); exact BK461.out⟩, ⟨by repeat (first | (with_reducible exact HR477.out) | (with_reducible refine Kd.C_alloc ?_ _) | (with_reducible refine Kd.C_drewN ?_ _) | (with_reducible refine Kd.C_drew ?_) | exact HR477.out)⟩, ⟨bl_ HB.out⟩⟩
       case round =>
        clear H'
        try clear c1
        try clear q1
        try clear c2
        try clear p2
        try clear c3
        try clear q3
        try clear c4
        try clear p4
        try clear q4
        try clear hx4
        try clear c5
        try clear p6
        try clear c7
        try clear c12
        try clear q19
        try clear c20
        try clear q30
        try clear hcz10_0
        try clear hcz8_0
        try clear hfz10_0
        try clear hfz8_0
        try clear hx469_0
        try clear hx473_0
        try clear p469
        try clear p473
        try clear q469
        try clear q473
        obtain ⟨x4_4, x5_4, x52_4, rfl, rfl, HA, HK4, HO_4, HO_6, BK460, BK461, HR477, HB⟩ := hrel
        have hl4_4 := (Kd.R_reads' HO_4.out).1
        rw [hl4_4] at HO_4
        (try simp only [hl4_4])
        (try simp only [hl4_4] at BK460)
        (try simp only [hl4_4] at BK461)
        (try simp only [hl4_4] at HO_6)
        cases gk with
        | zero => exact absurd HA.out (by simp [impl_ArfClosure.l3])
        | succ k4 =>
         have H := HA.out
         clear HA
         simp only [impl_ArfClosure.l3] at H
         by_cases c31 : x52_4 < (y474.length : Int)
         rotate_left
         ·rw [if_neg c31] at H
          have c31b0 : decide (x52_4 < (y474.length : Int)) = false := decide_eq_false c31
          (try simp only [hl4_3, hl4_4] at c31b0)
          clear c31
          have H' := am_ H
          clear H
          go_wp2
          (try simp only [← hl4_3, ← hl4_4])
          go_roundg k4
          case measure => have := HK1.out; have := HK2.out; have := HK3.out; have := HK4.out; omega
          case rel => exact ⟨(x4_4), (x5_4), (wrap64 (x42_3 + 1)), sd_, sd_, H', ⟨by have := HK1.out; have := HK2.out; have := HK3.out; have := HK4.out; omega⟩, ⟨by (try simp only [hl4_3]); (try simp only [hl4_4]); (with_reducible repeat (first | apply Kd.R_alloc | apply Kd.R_drewN | apply Kd.R_drew)); exact HO_4.out⟩, ⟨by (try simp only [hl4_3]); (try simp only [hl4_4]); (with_reducible repeat (first | apply Kd.R_alloc | apply Kd.R_drewN | apply Kd.R_drew)); exact HO_6.out⟩, ⟨by (try simp only [hl4_3]); (try simp only [hl4_4]); (with_reducible repeat (first | refine blk_drewN ?_ _ | refine blk_drew ?_ | refine blk_alloc ?_ _)); exact BK460.out⟩, ⟨by (try simp only [hl4_3]); (try simp only [hl4_4]); (with_reducible repeat (first | refine blk_drewN ?_ _ | refine blk_drew ?_ | refine blk_alloc ?_ _)); exact BK461.out⟩, ⟨bl_ HB.out⟩⟩
         rw [if_pos c31] at H
         have c31b0 := decide_eq_true c31
         (try simp only [hl4_3, hl4_4] at c31b0)
         clear c31
         obtain ⟨c32, H⟩ := in_ H
         have c32b0 := decide_eq_true c32
         clear c32
         obtain ⟨c33, H⟩ := in_ H
         have c33b0 := decide_eq_true c33
         (try simp only [hl4_3, hl4_4] at c33b0)
         clear c33
         obtain ⟨ji34, hji34⟩ : ∃ j_ : Int, (wrap64 (x52_4 + 1)) = j_ := ⟨_, rfl⟩
         replace H : (if 0 ≤ (ji34) then (if (ji34) ≤ (x6_2.length : Int) then ((some (x6_2.take ((ji34) : Int).toNat : List Int)).bind fun y479 => (impl_ArfClosure.l4 k4 x4_4 x5_4 x6_2 (rd x6_2 x42_3) (rd y474 x52_4) (x6_2.length : Int) x42_3 y474 (y474.length : Int) x52_4 y479 (y479.length : Int) 0)) else (none)) else (none)) = some (r1, r2) := by first | (rw [hji34] at H; exact H) | (simp only [hji34] at H ⊢; exact H)
         have hji34w : (IntKind.i64.wrap (x52_4 + 1)) = ji34 := (i64_w _).trans hji34
         obtain ⟨c35, H⟩ := in_ H
         have c35b0 := eq_true c35
         have c35b1 := decide_eq_true c35
         clear c35
         obtain ⟨c36, H⟩ := in_ H
         have c36b0 := eq_true c36
         have c36b1 := decide_eq_true c36
         (try simp only [hl4_3, hl4_4] at c36b1)
         clear c36
         obtain ⟨y479, hy479⟩ : ∃ y_ : List Int, y_ = (x6_2.take ((ji34) : Int).toNat) := ⟨_, rfl⟩
         replace H : (impl_ArfClosure.l4 k4 x4_4 x5_4 x6_2 (rd x6_2 x42_3) (rd y474 x52_4) (x6_2.length : Int) x42_3 y474 (y474.length : Int) x52_4 y479 (y479.length : Int) 0) = some (r1, r2) := hr_ hy479 H
         have Ny479 := am_ hy479
         clear hy479
         have H' := am_ H
         clear H
         obtain ⟨p478, q478, ad478, e478, hx478_0⟩ := ri_ (Kd.at_int HR477.out x52_4)
         obtain rfl : ad473 = ad478 := (by injection e478)
         (try (replace hx478_0 := (HB.out.cell (World.block_lt_of_cell? w _ hx478_0)).trans hx478_0))
         have q37 : ((ji34) : Int) ≤ ((x6_2.length : Int) : Int) := od_
         obtain ⟨i037, hi037, _, hsz37, _⟩ := info_parts info3
         have hroom37 : x6_2.length ≤ co23 := (Kd.R_reads' HO_6.out).2.1
         have hC37 : Kd.C (Kd.int .i64) _ (some ad473) x6_2.length x6_2 := (Kd.R_reads' HO_6.out).2.2
         have hcut37 := cut_to (P := Try.prog) 22 3 .i64 Try.underlying22 hi037 (some ad473) x6_2.length co23 (ji34) (od_) q37 hroom37
         have hr37 := Kd.C_take (m := ((ji34) : Int).toNat) hC37 (by omega)
         have hy37 : y479.length = ((ji34) : Int).toNat := (by rw [Ny479.out, List.length_take]; omega)
         rw [← Ny479.out] at hr37
         rw [← hy37] at hcut37
         have HR482 := am_ hr37
         have HC482 := am_ (show y479.length ≤ co23 from by omega)
         clear hr37 hC37 hroom37 hi037 hsz37
         have KY37 := am_ hy37
         clear hy37
         have KL37 := am_ (show ((ji34) : Int).toNat ≤ x6_2.length from by omega)
         replace q37 := eq_true q37
         go_wp2
         go_loopg [5, 62] k4 (fun kq v5 v62 w' => ∃ (x4_5 : List Bool) (x5_5 : Bool) (x62_5 : Int), v5 = .bool x5_5 ∧ v62 = .int .i64 x62_5 ∧ Aside0 (impl_ArfClosure.l4 kq x4_5 x5_5 x6_2 (rd x6_2 x42_3) (rd y474 x52_4) (x6_2.length : Int) x42_3 y474 (y474.length : Int) x52_4 y479 (y479.length : Int) x62_5 = some (r1, r2)) ∧ Aside0 (kq ≤ k4) ∧ Aside0 (Kd.R Kd.bool 4 w' w.heap.size (fun _ => True) (.slice Ao15 x4_4.length co15) x4_5) ∧ Aside0 (Kd.R (Kd.int .i64) 3 w' w.heap.size (fun _ => True) (.slice (some ad473) x6_2.length co23) x6_2) ∧ Aside0 (w'.heap[gb460]? = some (.cells #[(.slice A0_0 l0_0.length c0_0)] 29 (0, 0))) ∧ Aside0 (w'.heap[gb461]? = some (.cells #[(.slice none 0 0)] 29 (0, 0))) ∧ Aside0 (Kd.C (Kd.int .i64) w' (some ad473) y474.length y474) ∧ Aside0 (Kd.C (Kd.int .i64) w' (some ad473) y479.length y479) ∧ Aside0 (Below w.heap.size w w'))
         case atStart => exact ⟨(x4_4), (x5_4), (0), sd_, sd_, H', ⟨Nat.le_refl _⟩, ⟨by (try simp only [hl4_3]); (try simp only [hl4_4]); (with_reducible repeat (first | apply Kd.R_alloc | apply Kd.R_drewN | apply Kd.R_drew)); exact HO_4.out⟩, ⟨by (try simp only [hl4_3]); (try simp only [hl4_4]); (with_reducible repeat (first | apply Kd.R_alloc | apply Kd.R_drewN | apply Kd.R_drew)); exact HO_6.out⟩, ⟨by (try simp only [hl4_3]); (try simp only [hl4_4]); (with_reducible repeat (first | refine blk_drewN ?_ _ | refine blk_drew ?_ | refine blk_alloc ?_ _)); exact BK460.out⟩, ⟨by (try simp only [hl4_3]); (try simp only [hl4_4]); (with_reducible repeat (first | refine blk_drewN ?_ _ | refine blk_drew ?_ | refine blk_alloc ?_ _)); exact BK461.out⟩, ⟨by repeat (first | (with_reducible exact HR477.out) | (with_reducible refine Kd.C_alloc ?_ _) | (with_reducible refine Kd.C_drewN ?_ _) | (with_reducible refine Kd.C_drew ?_) | exact HR477.out)⟩, ⟨by repeat (first | (with_reducible exact HR482.out) | (with_reducible refine Kd.C_alloc ?_ _) | (with_reducible refine Kd.C_drewN ?_ _) | (with_reducible refine Kd.C_drew ?_) | exact HR482.out)⟩, ⟨bl_ HB.out⟩⟩
         case round =>
          clear H'
          try clear c1
          try clear q1
          try clear c2
          try clear p2
          try clear c3
          try clear q3
          try clear c4
          try clear p4
          try clear q4
          try clear hx4
          try clear c5
          try clear p6
          try clear c7
          try clear c12
          try clear q19
          try clear c20
          try clear q30
          try clear q37
          try clear hcz10_0
          try clear hcz8_0
          try clear hfz10_0
          try clear hfz8_0
          try clear hx469_0
          try clear hx473_0
          try clear hx478_0
          try clear p469
          try clear p473
          try clear p478
          try clear q469
          try clear q473
          try clear q478
          obtain ⟨x4_5, x5_5, x62_5, rfl, rfl, HA, HK5, HO_4, HO_6, BK460, BK461, HR477, HR482, HB⟩ := hrel
          have hl4_5 := (Kd.R_reads' HO_4.out).1
          rw [hl4_5] at HO_4
          (try simp only [hl4_5])
          (try simp only [hl4_5] at BK460)
          (try simp only [hl4_5] at BK461)
          (try simp only [hl4_5] at HO_6)
          cases gk with
          | zero => exact absurd HA.out (by simp [impl_ArfClosure.l4])
          | succ k5 =>
           have H := HA.out
           clear HA
           simp only [impl_ArfClosure.l4] at H
           by_cases c38 : x62_5 < (y479.length : Int)
           rotate_left
           ·rw [if_neg c38] at H
            have c38b0 : decide (x62_5 < (y479.length : Int)) = false := decide_eq_false c38
            (try simp only [hl4_3, hl4_4, hl4_5] at c38b0)
            clear c38
            have H' := am_ H
            clear H
            go_wp2
            (try simp only [← hl4_4, ← hl4_5])
            go_roundg k5
            case measure => have := HK1.out; have := HK2.out; have := HK3.out; have := HK4.out; have := HK5.out; omega
            case rel => exact ⟨(x4_5), (x5_5), (wrap64 (x52_4 + 1)), sd_, sd_, H', ⟨by have := HK1.out; have := HK2.out; have := HK3.out; have := HK4.out; have := HK5.out; omega⟩, ⟨by (try simp only [hl4_3]); (try simp only [hl4_4]); (try simp only [hl4_5]); (with_reducible repeat (first | apply Kd.R_alloc | apply Kd.R_drewN | apply Kd.R_drew)); exact HO_4.out⟩, ⟨by (try simp only [hl4_3]); (try simp only [hl4_4]); (try simp only [hl4_5]); (with_reducible repeat (first | apply Kd.R_alloc | apply Kd.R_drewN | apply Kd.R_drew)); exact HO_6.out⟩, ⟨by (try simp only [hl4_3]); (try simp only [hl4_4]); (try simp only [hl4_5]); (with_reducible repeat (first | refine blk_drewN ?_ _ | refine blk_drew ?_ | refine blk_alloc ?_ _)); exact BK460.out⟩, ⟨by (try simp only [hl4_3]); (try simp only [hl4_4]); (try simp only [hl4_5]); (with_reducible repeat (first | refine blk_drewN ?_ _ | refine blk_drew ?_ | refine blk_alloc ?_ _)); exact BK461.out⟩, ⟨by repeat (first | (with_reducible exact HR477.out) | (with_reducible refine Kd.C_alloc ?_ _) | (with_reducible refine Kd.C_drewN ?_ _) | (with_reducible refine Kd.C_drew ?_) | exact HR477.out)⟩, ⟨bl_ HB.out⟩⟩
           rw [if_pos c38] at H
           have c38b0 := decide_eq_true c38
           (try simp only [hl4_3, hl4_4, hl4_5] at c38b0)
           clear c38
           obtain ⟨c39, H⟩ := in_ H
           have c39b0 := decide_eq_true c39
           clear c39
           obtain ⟨c40, H⟩ := in_ H
           have c40b0 := decide_eq_true c40
           (try simp only [hl4_3, hl4_4, hl4_5] at c40b0)
           clear c40
           by_cases c41 : (wrap64 ((wrap64 ((rd x6_2 x42_3) + (rd y474 x52_4))) - (rd y479 x62_5))) < (x4_5.length : Int)
           rotate_left
           ·rw [if_neg c41] at H
            have c41b0 : decide ((wrap64 ((wrap64 ((rd x6_2 x42_3) + (rd y474 x52_4))) - (rd y479 x62_5))) < (x4_5.length : Int)) = false := decide_eq_false c41
            (try simp only [hl4_3, hl4_4, hl4_5] at c41b0)
            clear c41
            have H' := am_ H
            clear H
            obtain ⟨p483, q483, ad483, e483, hx483_0⟩ := ri_ (Kd.at_int HR482.out x62_5)
            obtain rfl : ad473 = ad483 := (by injection e483)
            (try (replace hx483_0 := (HB.out.cell (World.block_lt_of_cell? w _ hx483_0)).trans hx483_0))
            go_wp2
            (try simp only [← hl4_5])
            go_roundg k5
            case measure => have := HK1.out; have := HK2.out; have := HK3.out; have := HK4.out; have := HK5.out; omega
            case rel => exact ⟨(x4_5), (x5_5), (wrap64 (x62_5 + 1)), sd_, sd_, H', ⟨by have := HK1.out; have := HK2.out; have := HK3.out; have := HK4.out; have := HK5.out; omega⟩, ⟨by (try simp only [hl4_3]); (try simp only [hl4_4]); (try simp only [hl4_5]); (with_reducible repeat (first | apply Kd.R_alloc | apply Kd.R_drewN | apply Kd.R_drew)); exact HO_4.out⟩, ⟨by (try simp only [hl4_3]); (try simp only [hl4_4]); (try simp only [hl4_5]); (with_reducible repeat (first | apply Kd.R_alloc | apply Kd.R_drewN | apply Kd.R_drew)); exact HO_6.out⟩, ⟨by (try simp only [hl4_3]); (try simp only [hl4_4]); (try simp only [hl4_5]); (with_reducible repeat (first | refine blk_drewN ?_ _ | refine blk_drew ?_ | refine blk_alloc ?_ _)); exact BK460.out⟩, ⟨by (try simp only [hl4_3]); (try simp only [hl4_4]); (try simp only [hl4_5]); (with_reducible repeat (first | refine blk_drewN ?_ _ | refine blk_drew ?_ | refine blk_alloc ?_ _)); exact BK461.out⟩, ⟨by repeat (first | (with_reducible exact HR477.out) | (with_reducible refine Kd.C_alloc ?_ _) | (with_reducible refine Kd.C_drewN ?_ _) | (with_reducible refine Kd.C_drew ?_) | exact HR477.out)⟩, ⟨by repeat (first | (with_reducible exact HR482.out) | (with_reducible refine Kd.C_alloc ?_ _) | (with_reducible refine Kd.C_drewN ?_ _) | (with_reducible refine Kd.C_drew ?_) | exact HR482.out)⟩, ⟨bl_ HB.out⟩⟩
           rw [if_pos c41] at H
           have c41b0 := decide_eq_true c41
           (try simp only [hl4_3, hl4_4, hl4_5] at c41b0)
           clear c41
           obtain ⟨ji42, hji42⟩ : ∃ j_ : Int, (wrap64 ((wrap64 ((rd x6_2 x42_3) + (rd y474 x52_4))) - (rd y479 x62_5))) = j_ := ⟨_, rfl⟩
           replace H : (if 0 ≤ (ji42) then (if (rdOf false x4_5 (ji42) = true) then (impl_ArfClosure.l4 k5 x4_5 x5_5 x6_2 (rd x6_2 x42_3) (rd y474 x52_4) (x6_2.length : Int) x42_3 y474 (y474.length : Int) x52_4 y479 (y479.length : Int) (wrap64 (x62_5 + 1))) else (impl_ArfClosure.l4 k5 (x4_5.set ((ji42) : Int).toNat true) true x6_2 (rd x6_2 x42_3) (rd y474 x52_4) (x6_2.length : Int) x42_3 y474 (y474.length : Int) x52_4 y479 (y479.length : Int) (wrap64 (x62_5 + 1)))) else (none)) = some (r1, r2) := by first | (rw [hji42] at H; exact H) | (simp only [hji42] at H ⊢; exact H)
           (try rw [hji42] at c41b0)
           have hji42w : (IntKind.i64.wrap ((wrap64 ((rd x6_2 x42_3) + (rd y474 x52_4))) - (rd y479 x62_5))) = ji42 := (i64_w _).trans hji42
           obtain ⟨c43, H⟩ := in_ H
           have c43b0 := decide_eq_true c43
           clear c43
           obtain ⟨bq44, hbq44⟩ : ∃ b_ : Bool, b_ = (rdOf false x4_5 (ji42)) := ⟨_, rfl⟩
           replace H : (if (bq44 = true) then (impl_ArfClosure.l4 k5 x4_5 x5_5 x6_2 (rd x6_2 x42_3) (rd y474 x52_4) (x6_2.length : Int) x42_3 y474 (y474.length : Int) x52_4 y479 (y479.length : Int) (wrap64 (x62_5 + 1))) else (impl_ArfClosure.l4 k5 (x4_5.set ((ji42) : Int).toNat true) true x6_2 (rd x6_2 x42_3) (rd y474 x52_4) (x6_2.length : Int) x42_3 y474 (y474.length : Int) x52_4 y479 (y479.length : Int) (wrap64 (x62_5 + 1)))) = some (r1, r2) := by rw [← hbq44] at H; exact H
           have Nbq44 := am_ hbq44
           clear hbq44
           by_cases c45 : (bq44 = true)
           ·subst c45
            rw [if_pos rfl] at H
            have H' := am_ H
            clear H
            obtain ⟨p483, q483, ad483, e483, hx483_0⟩ := ri_ (Kd.at_int HR482.out x62_5)
            obtain rfl : ad473 = ad483 := (by injection e483)
            (try (replace hx483_0 := (HB.out.cell (World.block_lt_of_cell? w _ hx483_0)).trans hx483_0))
            obtain ⟨p484, q484, ad484, e484, hx484_0⟩ := ri_ (Kd.at_bool (Kd.R_reads' HO_4.out).2.2 (ji42))
            (try rw [← Nbq44.out] at hx484_0)
            cases e484
            go_wp2
            (try simp only [← hl4_5])
            go_roundg k5
            case measure => have := HK1.out; have := HK2.out; have := HK3.out; have := HK4.out; have := HK5.out; omega
            case rel => exact ⟨(x4_5), (x5_5), (wrap64 (x62_5 + 1)), sd_, sd_, H', ⟨by have := HK1.out; have := HK2.out; have := HK3.out; have := HK4.out; have := HK5.out; omega⟩, ⟨by (try simp only [hl4_3]); (try simp only [hl4_4]); (try simp only [hl4_5]); (with_reducible repeat (first | apply Kd.R_alloc | apply Kd.R_drewN | apply Kd.R_drew)); exact HO_4.out⟩, ⟨by (try simp only [hl4_3]); (try simp only [hl4_4]); (try simp only [hl4_5]); (with_reducible repeat (first | apply Kd.R_alloc | apply Kd.R_drewN | apply Kd.R_drew)); exact HO_6.out⟩, ⟨by (try simp only [hl4_3]); (try simp only [hl4_4]); (try simp only [hl4_5]); (with_reducible repeat (first | refine blk_drewN ?_ _ | refine blk_drew ?_ | refine blk_alloc ?_ _)); exact BK460.out⟩, ⟨by (try simp only [hl4_3]); (try simp only [hl4_4]); (try simp only [hl4_5]); (with_reducible repeat (first | refine blk_drewN ?_ _ | refine blk_drew ?_ | refine blk_alloc ?_ _)); exact BK461.out⟩, ⟨by repeat (first | (with_reducible exact HR477.out) | (with_reducible refine Kd.C_alloc ?_ _) | (with_reducible refine Kd.C_drewN ?_ _) | (with_reducible refine Kd.C_drew ?_) | exact HR477.out)⟩, ⟨by repeat (first | (with_reducible exact HR482.out) | (with_reducible refine Kd.C_alloc ?_ _) | (with_reducible refine Kd.C_drewN ?_ _) | (with_reducible refine Kd.C_drew ?_) | exact HR482.out)⟩, ⟨bl_ HB.out⟩⟩
           obtain rfl := Bool.eq_false_iff.mpr c45
           rw [if_neg nf_] at H
           obtain ⟨y485, hy485⟩ : ∃ y_ : List Bool, y_ = (x4_5.set ((ji42) : Int).toNat true) := ⟨_, rfl⟩
           replace H : (impl_ArfClosure.l4 k5 y485 true x6_2 (rd x6_2 x42_3) (rd y474 x52_4) (x6_2.length : Int) x42_3 y474 (y474.length : Int) x52_4 y479 (y479.length : Int) (wrap64 (x62_5 + 1))) = some (r1, r2) := hr_ hy485 H
           have Ny485 := am_ hy485
           clear hy485
           have H' := am_ H
           clear H
           obtain ⟨p483, q483, ad483, e483, hx483_0⟩ := ri_ (Kd.at_int HR482.out x62_5)
           obtain rfl : ad473 = ad483 := (by injection e483)
           (try (replace hx483_0 := (HB.out.cell (World.block_lt_of_cell? w _ hx483_0)).trans hx483_0))
           obtain ⟨p484, q484, ad484, e484, hx484_0⟩ := ri_ (Kd.at_bool (Kd.R_reads' HO_4.out).2.2 (ji42))
           (try rw [← Nbq44.out] at hx484_0)
           cases e484
           have p46 : 0 ≤ ((ji42) : Int) := od_
           have q46 : ((ji42) : Int) < ((x4_5.length : Int) : Int) := od_
           obtain ⟨go46, co46, eo46, gb46, gl46, cl46, HG46⟩ := Kd.R_form HO_4.out (by omega)
           (first | cases eo46 | (injection eo46 with ea_ en_ ec_; (first | subst ea_ | (injection ea_ with ea_; subst ea_)); subst ec_; clear en_))
           have GB46 := am_ gb46
           have GG46 := am_ HG46
           clear gb46 gl46 HG46
           (first | simp only [add_plain] at hx484_0 | skip)
           obtain ⟨hx46_0, hf46_0⟩ := Kd.R_celln false HO_4.out ((ji42) : Int) p46 q46
           replace p46 := eq_true p46
           replace q46 := eq_true q46
           have HP47 := Kd.R_putg HO_4.out ((ji42) : Int) true
           go_wp2_with (first | ((with_reducible refine gate_store (t := 4) (p := 84) rfl ?_); refine store_event (t := 4) (p := 84) (v := ?vo_w48) (w1 := (wr.setCell ⟨go46, ((ji42) : Int).toNat, none⟩ (.bool true))) ?hg ?ho ?hn ?hr ?_; (case ho => rfl); (case hg => rfl); (case hn => rfl); (case hr => first | (go_simp; done) | (go_simp; rfl)); intro w48 hw; have hg : wr.grownBy w48 (some go46) := (by rw [hw]; exact HP47.2); have hp_ : Kd.R Kd.bool 4 w48 w.heap.size (fun _ => True) (.slice (some ⟨go46, 0, none⟩) x4_5.length co15) y485 := (by rw [hw, Ny485.out]; exact HP47.1); clear HP47; replace BK460 := am_ (blk_grown (g := gb460) (o := .cells #[.slice A0_0 l0_0.length c0_0] 29 (0, 0)) (bk_ BK460.out) hg (Kd.R_ne HO_4.out BK460.out (by decide))); replace BK461 := am_ (blk_grown (g := gb461) (o := .cells #[.slice none 0 0] 29 (0, 0)) (bk_ BK461.out) hg (Kd.R_ne HO_4.out BK461.out (by decide))); replace HB := am_ ((by rw [hw]; exact below_set (HB.out) GB46.out : Below w.heap.size w w48)); replace HR477 := am_ ((show Kd.C (Kd.int .i64) w48 (some ad473) y474.length y474 from by rw [Ny474.out]; exact Kd.C_take (m := ((ji27) : Int).toNat) ((Kd.R_reads' (Kd.R_over' (v := (.slice (some ⟨go46, 0, none⟩) x4_5.length co15)) (kr_ HO_6.out) (Kd.R_typed HO_4.out) (by decide) hg)).2.2) KL30.out)); replace HR482 := am_ ((show Kd.C (Kd.int .i64) w48 (some ad473) y479.length y479 from by rw [Ny479.out]; exact Kd.C_take (m := ((ji34) : Int).toNat) ((Kd.R_reads' (Kd.R_over' (v := (.slice (some ⟨go46, 0, none⟩) x4_5.length co15)) (kr_ HO_6.out) (Kd.R_typed HO_4.out) (by decide) hg)).2.2) KL37.out)); replace HO_6 := am_ (Kd.R_over' (v := (.slice (some ⟨go46, 0, none⟩) x4_5.length co15)) (kr_ HO_6.out) (Kd.R_typed HO_4.out) (by decide) hg); replace HO_4 := am_ (hp_); clear hg hw hp_))
           (try simp only [← hl4_5])
           go_roundg k5
           case measure => have := HK1.out; have := HK2.out; have := HK3.out; have := HK4.out; have := HK5.out; omega
           case rel => exact ⟨(y485), (true), (wrap64 (x62_5 + 1)), sd_, sd_, H', ⟨by have := HK1.out; have := HK2.out; have := HK3.out; have := HK4.out; have := HK5.out; omega⟩, ⟨by (try simp only [hl4_3]); (try simp only [hl4_4]); (try simp only [hl4_5]); (with_reducible repeat (first | apply Kd.R_alloc | apply Kd.R_drewN | apply Kd.R_drew)); exact HO_4.out⟩, ⟨by (try simp only [hl4_3]); (try simp only [hl4_4]); (try simp only [hl4_5]); (with_reducible repeat (first | apply Kd.R_alloc | apply Kd.R_drewN | apply Kd.R_drew)); exact HO_6.out⟩, ⟨by (try simp only [hl4_3]); (try simp only [hl4_4]); (try simp only [hl4_5]); (with_reducible repeat (first | refine blk_drewN ?_ _ | refine blk_drew ?_ | refine blk_alloc ?_ _)); exact BK460.out⟩, ⟨by (try simp only [hl4_3]); (try simp only [hl4_4]); (try simp only [hl4_5]); (with_reducible repeat (first | refine blk_drewN ?_ _ | refine blk_drew ?_ | refine blk_alloc ?_ _)); exact BK461.out⟩, ⟨by repeat (first | (with_reducible exact HR477.out) | (with_reducible refine Kd.C_alloc ?_ _) | (with_reducible refine Kd.C_drewN ?_ _) | (with_reducible refine Kd.C_drew ?_) | exact HR477.out)⟩, ⟨by repeat (first | (with_reducible exact HR482.out) | (with_reducible refine Kd.C_alloc ?_ _) | (with_reducible refine Kd.C_drewN ?_ _) | (with_reducible refine Kd.C_drew ?_) | exact HR482.out)⟩, ⟨bl_ HB.out⟩⟩
end Go.Proofs.Ytddgegejeoihaaa.PFnArf
end
