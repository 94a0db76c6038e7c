/- Part 9 of the claim for FnArf, of the chain from the printed contracts and the plain laws to the row. It has no condition of its own. -/
import Derived.Test.YtddgegejeoihaaaG1ZFnArf
import Derived.Test.YtddgegejeoihaaaG3ZFnArf
import Derived.Test.YtddgegejeoihaaaG8ZFnArf
import Derived.Test.YtddgegejeoihaaaG2ZFnArf
import Derived.Test.YtddgegejeoihaaaG5ZFnArf
import Derived.Test.YtddgegejeoihaaaG6ZFnArf
section
namespace Go.Proofs.Ytddgegejeoihaaa.PFnArf
open Go.RowKit Go.Proofs.YtddgegejeoihaaaW.PrintWords Go.Proofs.YtddgegejeoihaaaW.PrintLast Go.Proofs.YtddgegejeoihaaaW.PrintMore
open Go.Proofs.Ytddgegejeoihaaa.SortW (bk_ kr_ t_ f_)
open Go.Proofs.Ytddgegejeoihaaa.SqW
attribute [local go_sem] max2_int min2_int max_two min_two max_three min_three max_four min_four
set_option maxHeartbeats 8000000
set_option maxRecDepth 100000
set_option linter.unusedVariables false
set_option linter.unusedSimpArgs false
mutual
def spec_ArfClosure.l0 : Nat → List Int → Int → List Bool → Int → Option (List Int × Bool)
 | 0, _, _, _, _ => none
 | k + 1, x4, x5, x6, x7 => if x7 < x5 then ((spec_HasNumber.f k x4 x7).bind fun t571 => (if 0 ≤ x7 then (if x7 < (x6.length : Int) then (spec_ArfClosure.l0 k x4 x5 (x6.set (x7 : Int).toNat (!t571)) (wrap64 (x7 + 1))) else (none)) else (none))) else (spec_ArfClosure.l1 k x5 x6 true)
def spec_ArfClosure.l1 : Nat → Int → List Bool → Bool → Option (List Int × Bool)
 | 0, _, _, _ => none
 | k + 1, x5, x6, x8 => if x8 = true then (spec_ArfClosure.l2 k x5 x6 false 0) else (spec_ArfClosure.l5 k x5 x6 (([] : List Int)) 1)
def spec_ArfClosure.l2 : Nat → Int → List Bool → Bool → Int → Option (List Int × Bool)
 | 0, _, _, _, _ => none
 | k + 1, x5, x6, x8, x9 => if x9 < x5 then (spec_ArfClosure.l3 k x5 x6 x8 x9 0) else (spec_ArfClosure.l1 k x5 x6 x8)
def spec_ArfClosure.l3 : Nat → Int → List Bool → Bool → Int → Int → Option (List Int × Bool)
 | 0, _, _, _, _, _ => none
 | k + 1, x5, x6, x8, x9, x10 => if x10 ≤ x9 then (if 0 ≤ x9 then (if x9 < (x6.length : Int) then (spec_ArfClosure.j4 k x5 x6 x8 x9 x10 (rdOf false x6 x9)) else (none)) else (none)) else (spec_ArfClosure.j4 k x5 x6 x8 x9 x10 false)
def spec_ArfClosure.j4 : Nat → Int → List Bool → Bool → Int → Int → Bool → Option (List Int × Bool)
 | 0, _, _, _, _, _, _ => none
 | k + 1, x5, x6, x8, x9, x10, x54 => if x54 = true then (spec_ArfClosure.l4 k x5 x6 x8 x9 x10 0) else (spec_ArfClosure.l2 k x5 x6 x8 (wrap64 (x9 + 1)))
def spec_ArfClosure.l4 : Nat → Int → List Bool → Bool → Int → Int → Int → Option (List Int × Bool)
 | 0, _, _, _, _, _, _ => none
 | k + 1, x5, x6, x8, x9, x10, x11 => if x11 ≤ x10 then (if 0 ≤ x10 then (if x10 < (x6.length : Int) then (spec_ArfClosure.j6 k x5 x6 x8 x9 x10 x11 (rdOf false x6 x10)) else (none)) else (none)) else (spec_ArfClosure.j6 k x5 x6 x8 x9 x10 x11 false)
def spec_ArfClosure.j6 : Nat → Int → List Bool → Bool → Int → Int → Int → Bool → Option (List Int × Bool)
 | 0, _, _, _, _, _, _, _ => none
 | k + 1, x5, x6, x8, x9, x10, x11, x65 => if x65 = true then (if 0 ≤ x11 then (if x11 < (x6.length : Int) then (if rdOf false x6 x11 = true then (if (wrap64 ((wrap64 (x9 + x10)) - x11)) < x5 then (if 0 ≤ (wrap64 ((wrap64 (x9 + x10)) - x11)) then (if (wrap64 ((wrap64 (x9 + x10)) - x11)) < (x6.length : Int) then (if (rdOf false x6 (wrap64 ((wrap64 (x9 + x10)) - x11)) = true) then (spec_ArfClosure.l4 k x5 x6 x8 x9 x10 (wrap64 (x11 + 1))) else (spec_ArfClosure.l4 k x5 (x6.set ((wrap64 ((wrap64 (x9 + x10)) - x11)) : Int).toNat true) true x9 x10 (wrap64 (x11 + 1)))) else (none)) else (none)) else (spec_ArfClosure.l4 k x5 x6 x8 x9 x10 (wrap64 (x11 + 1)))) else (spec_ArfClosure.l4 k x5 x6 x8 x9 x10 (wrap64 (x11 + 1)))) else (none)) else (none)) else (spec_ArfClosure.l3 k x5 x6 x8 x9 (wrap64 (x10 + 1)))
def spec_ArfClosure.l5 : Nat → Int → List Bool → List Int → Int → Option (List Int × Bool)
 | 0, _, _, _, _ => none
 | k + 1, x5, x6, x13, x14 => if x14 < x5 then (if 0 ≤ x14 then (if x14 < (x6.length : Int) then (if rdOf false x6 x14 = true then (spec_ArfClosure.l5 k x5 x6 x13 (wrap64 (x14 + 1))) else (if x13.length < 17592186044416 then (spec_ArfClosure.l5 k x5 x6 (x13 ++ [x14]) (wrap64 (x14 + 1))) else (none))) else (none)) else (none)) else ((spec_FromGaps.f k x13).bind fun bt585 => (some (bt585.1, bt585.2)))
end
def spec_ArfClosure.f (k : Nat) (l0_0 : List Int) : Option (List Int × Bool) := (spec_IsSemigroup.f k l0_0).bind fun t563 => (if t563 = true then ((spec_l4Gaps.f k l0_0).bind fun t564 => ((spec_ConductorOf.f k l0_0).bind fun t567 => (if 0 ≤ (wrap64 (t567 + 1)) then (if (wrap64 (t567 + 1) : Int).toNat ≤ 281474976710656 then (spec_ArfClosure.l0 k t564 t567 (List.replicate (wrap64 (t567 + 1) : Int).toNat false) 0) else (none)) else (none)))) else (some (([] : List Int), false)))
theorem spec_ArfClosure.calls (k : Nat) (A0_0 : Option Addr) (c0_0 : Nat) (l0_0 : List Int) (r1 : List Int) (r2 : Bool) (w : World) (hr0_0 : Kd.C (Kd.int .i64) w A0_0 l0_0.length l0_0) (hc0_0 : l0_0.length ≤ c0_0) (h : spec_ArfClosure.f k l0_0 = some (r1, r2)) :
 Calls Try.prog 19 #[.agg #[.slice A0_0 l0_0.length c0_0]] w fun e w' => ∃ v0_ : Value, e = .returned (.tuple #[.agg #[v0_], .bool r2]) ∧ Kd.R (Kd.int .i64) 3 w' w.heap.size (fun _ => True) v0_ r1 ∧ Below w.heap.size w w' := by
 have hu29 := Try.underlying29
 have HR0_0 := am_ hr0_0
 have HC0_0 := am_ hc0_0
 clear hr0_0 hc0_0
 have HB := am_ (Below.refl w.heap.size w)
 have H := h
 clear h
 unfold spec_ArfClosure.f at H
 obtain ⟨t563, A2, H⟩ := ob_ H
 (try dsimp only at H)
 by_cases c3 : t563 = true
 rotate_left
 ·obtain rfl := Bool.eq_false_iff.mpr c3
  rw [if_neg nf_] at H
  simp only [Option.some.injEq, Prod.mk.injEq] at H
  obtain ⟨rfl, rfl⟩ := H
  go_enter Try.func19, Try.ntmps19
  go_wp2_with (first | ((with_reducible refine gate_dst (N := 1) rfl ?_); refine be_ 1 #[.slice A0_0 l0_0.length c0_0] 29 fun gb561 hg w80 hbox hb => ?_; have BK561 := am_ (hbox); have GW561 := ge_ hg HB; have GE561 := ge_ hg HB; replace HB := bs_ HB hb; clear hb hbox hg) | ((with_reducible refine gate_dst (N := 2) rfl ?_); refine be_ 2 #[.slice none 0 0] 29 fun gb562 hg w81 hbox hb => ?_; have BK562 := am_ (hbox); have GW562 := ge_ hg HB; have GE562 := ge_ hg HB; replace HB := bs_ HB hb; have NB561_562 := nl_ hg BK561; have NB562_561 := ng_ hg BK561; replace BK561 := bb_ BK561 hb; clear hb hbox hg; have hnb82 := NB561_562.out; have hnc82 := NB562_561.out; have hcz83_0 := bc_ BK561; have hfz83_0 := blk_frozen BK561.out 0) | ((with_reducible refine gate_callee (f := 52) rfl ?_); refine gl_ 18 Try.func52 #[.agg #[.slice A0_0 l0_0.length c0_0]] ?_; (with_reducible refine (spec_IsSemigroup.calls k _ _ l0_0 false _ ?side1 ?side2 A2.out).mono ?_); (case side1 => exact cs_ HR0_0 HB); (case side2 => exact HC0_0.out); rintro e w84 ⟨rfl, hb⟩; refine ⟨_, rfl, ?_⟩; replace BK561 := bb_ BK561 hb; replace BK562 := bb_ BK562 hb; replace HB := bs_ HB hb; (try clear hb); (try clear hb2); (try clear hk); (try clear hi); have hcz85_0 := bc_ BK562; have hfz85_0 := blk_frozen BK562.out 0))
  refine bodyPost_ret (results_ct rfl _ _ gb562 29 #[.slice none 0 0] (0, 0) _ rfl (by (with_reducible repeat (first | refine blk_drewN ?_ _ | refine blk_drew ?_ | refine blk_alloc ?_ _)); refine blk_put (cs := #[.slice none 0 0]) ?_ 0 _ rfl; (with_reducible repeat (first | refine blk_drewN ?_ _ | refine blk_drew ?_ | refine blk_alloc ?_ _)); exact BK562.out) Try.underlying29 rfl (by kernel_rfl)) rfl ?_
  exact ⟨_, er_, by first | exact Kd.R_nil _ _ _ _ _ | exact Kd.N_nil _ _ _ _ _ | exact Kd.V_nil _ _ _ _ _ | exact Kd.Q_nil _ _ _ _ _ | exact Kd.S_nil _ _ _ _ _, bl_ HB.out⟩
 subst c3
 rw [if_pos rfl] at H
 obtain ⟨t564, A4, H⟩ := ob_ H
 (try dsimp only at H)
 obtain ⟨t567, A5, H⟩ := ob_ H
 (try dsimp only at H)
 obtain ⟨ji6, hji6⟩ : ∃ j_ : Int, (wrap64 (t567 + 1)) = j_ := ⟨_, rfl⟩
 replace H : (if 0 ≤ (ji6) then (if (ji6 : Int).toNat ≤ 281474976710656 then (spec_ArfClosure.l0 k t564 t567 (List.replicate (ji6 : Int).toNat false) 0) else (none)) else (none)) = some (r1, r2) := by first | (rw [hji6] at H; exact H) | (simp only [hji6] at H ⊢; exact H)
 (try rw [hji6] at A2)
 (try rw [hji6] at A4)
 (try rw [hji6] at A5)
 have hji6w : (IntKind.i64.wrap (t567 + 1)) = ji6 := (i64_w _).trans hji6
 obtain ⟨c7, H⟩ := in_ H
 have c7b0 := eq_true c7
 have c7b1 := decide_eq_true c7
 clear c7
 obtain ⟨c8, H⟩ := in_ H
 have c8b0 := eq_true c8
 have c8b1 := decide_eq_true c8
 clear c8
 obtain ⟨y568, hy568⟩ : ∃ y_ : List Bool, y_ = (List.replicate (ji6 : Int).toNat false) := ⟨_, rfl⟩
 replace H : (spec_ArfClosure.l0 k t564 t567 y568 0) = some (r1, r2) := hr_ hy568 H
 have Ny568 := am_ hy568
 clear hy568
 have H' := am_ H
 clear H
 go_enter Try.func19, Try.ntmps19
 go_wp2_with (first | ((with_reducible refine gate_dst (N := 1) rfl ?_); refine be_ 1 #[.slice A0_0 l0_0.length c0_0] 29 fun gb561 hg w9 hbox hb => ?_; have BK561 := am_ (hbox); have GW561 := ge_ hg HB; have GE561 := ge_ hg HB; replace HB := bs_ HB hb; clear hb hbox hg) | ((with_reducible refine gate_dst (N := 2) rfl ?_); refine be_ 2 #[.slice none 0 0] 29 fun gb562 hg w10 hbox hb => ?_; have BK562 := am_ (hbox); have GW562 := ge_ hg HB; have GE562 := ge_ hg HB; replace HB := bs_ HB hb; have NB561_562 := nl_ hg BK561; have NB562_561 := ng_ hg BK561; replace BK561 := bb_ BK561 hb; clear hb hbox hg; have hnb11 := NB561_562.out; have hnc11 := NB562_561.out; have hcz12_0 := bc_ BK561; have hfz12_0 := blk_frozen BK561.out 0) | ((with_reducible refine gate_callee (f := 52) rfl ?_); refine gl_ 18 Try.func52 #[.agg #[.slice A0_0 l0_0.length c0_0]] ?_; (with_reducible refine (spec_IsSemigroup.calls k _ _ l0_0 true _ ?side1 ?side2 A2.out).mono ?_); (case side1 => exact cs_ HR0_0 HB); (case side2 => exact HC0_0.out); rintro e w13 ⟨rfl, hb⟩; refine ⟨_, rfl, ?_⟩; replace BK561 := bb_ BK561 hb; replace BK562 := bb_ BK562 hb; replace HB := bs_ HB hb; (try clear hb); (try clear hb2); (try clear hk); (try clear hi); have hcz14_0 := bc_ BK561; have hfz14_0 := blk_frozen BK561.out 0) | ((with_reducible refine gate_callee (f := 53) rfl ?_); refine gl_ 22 Try.func53 #[.agg #[.slice A0_0 l0_0.length c0_0]] ?_; (with_reducible refine (spec_l4Gaps.calls k _ _ l0_0 t564 _ ?side1 ?side2 A4.out).mono ?_); (case side1 => exact cs_ HR0_0 HB); (case side2 => exact HC0_0.out); rintro e w15 ⟨v565, rfl, ho0, hb⟩; refine ⟨_, rfl, ?_⟩; have HO566 := rl_ ho0 HB; replace BK561 := bb_ BK561 hb; replace BK562 := bb_ BK562 hb; replace HB := bs_ HB hb; (try clear hb); (try clear hb2); (try clear hk); (try clear hi); (try clear ho0); have hcz16_0 := bc_ BK561; have hfz16_0 := blk_frozen BK561.out 0) | ((with_reducible refine gate_callee (f := 54) rfl ?_); refine gl_ 24 Try.func54 #[.agg #[.slice A0_0 l0_0.length c0_0]] ?_; (with_reducible refine (spec_ConductorOf.calls k _ _ l0_0 t567 _ ?side1 ?side2 A5.out).mono ?_); (case side1 => exact cs_ HR0_0 HB); (case side2 => exact HC0_0.out); rintro e w17 ⟨rfl, hb⟩; refine ⟨_, rfl, ?_⟩; replace HO566 := rb_ HO566 hb; replace BK561 := bb_ BK561 hb; replace BK562 := bb_ BK562 hb; replace HB := bs_ HB hb; (try clear hb); (try clear hb2); (try clear hk); (try clear hi)) | ((with_reducible refine gate_dst (N := 27) rfl ?_); refine Kd.R_make Kd.bool _ 4 rfl (N := 27) rfl 56 _ _ rfl ji6 rfl rfl Try.underlying56 (.bool false) 1 info4 rfl (by decide) (by omega) false (ok := fun _ => True) (okp := fun _ => True) rfl (fun _ hk => hk) trivial (od_) (Nat.le_trans (Nat.mul_le_mul_right _ (od_ : ji6.toNat ≤ 281474976710656)) (by omega)) (Below.refl _ _) (Nat.le_refl _) ?_; intro v569 w18 ho19 hb hg_ hnew_; clear hg_ hnew_; (first | rw [← Ny568.out] at ho19 | (simp only [Int.reduceToNat] at ho19; rw [← Ny568.out] at ho19)); replace HO566 := rb_ HO566 hb; have HO570 := rl_ ho19 HB; replace BK561 := bb_ BK561 hb; replace BK562 := bb_ BK562 hb; replace HB := bs_ HB hb; clear hb ho19))
 go_loopg [7] k (fun kq v7 w' => ∃ (x6_1 : List Bool) (x7_1 : Int), v7 = .int .i64 x7_1 ∧ Aside0 (spec_ArfClosure.l0 kq t564 t567 x6_1 x7_1 = some (r1, r2)) ∧ Aside0 (kq ≤ k) ∧ Aside0 (Kd.R (Kd.int .i64) 3 w' w.heap.size (fun _ => True) v565 t564) ∧ Aside0 (Kd.R Kd.bool 4 w' w.heap.size (fun _ => True) v569 x6_1) ∧ Aside0 (w'.heap[gb561]? = some (.cells #[(.slice A0_0 l0_0.length c0_0)] 29 (0, 0))) ∧ Aside0 (w'.heap[gb562]? = some (.cells #[(.slice none 0 0)] 29 (0, 0))) ∧ Aside0 (Below w.heap.size w w'))
 case atStart => exact ⟨(y568), (0), sd_, H', ⟨Nat.le_refl _⟩, ⟨kr_ HO566.out⟩, ⟨kr_ HO570.out⟩, ⟨bk_ BK561.out⟩, ⟨bk_ BK562.out⟩, ⟨bl_ HB.out⟩⟩
 case round =>
  clear H'
  try clear c1
  try clear p2
  try clear c3
  try clear c5
  try clear p6
  try clear c11
  try clear c19
  try clear hcz12_0
  try clear hcz14_0
  try clear hcz16_0
  try clear hfz12_0
  try clear hfz14_0
  try clear hfz16_0
  obtain ⟨x6_1, x7_1, rfl, HA, HK1, HO_4, HO_6, BK561, BK562, HB⟩ := hrel
  cases gk with
  | zero => exact absurd HA.out (by simp [spec_ArfClosure.l0])
  | succ k1 =>
   have H := HA.out
   clear HA
   simp only [spec_ArfClosure.l0] at H
   by_cases c20 : x7_1 < t567
   ·rw [if_pos c20] at H
    have c20b0 := decide_eq_true c20
    clear c20
    obtain ⟨t571, A21, H⟩ := ob_ H
    (try dsimp only at H)
    obtain ⟨c22, H⟩ := in_ H
    have c22b0 := decide_eq_true c22
    clear c22
    obtain ⟨c23, H⟩ := in_ H
    have c23b0 := decide_eq_true c23
    clear c23
    obtain ⟨y572, hy572⟩ : ∃ y_ : List Bool, y_ = (x6_1.set (x7_1 : Int).toNat (!t571)) := ⟨_, rfl⟩
    replace H : (spec_ArfClosure.l0 k1 t564 t567 y572 (wrap64 (x7_1 + 1))) = some (r1, r2) := hr_ hy572 H
    have Ny572 := am_ hy572
    clear hy572
    have H' := am_ H
    clear H
    obtain ⟨Ao25, co25, eo25⟩ := Kd.R_slice HO_4.out
    subst eo25
    go_wp2_with (first | ((with_reducible refine gate_callee (f := 55) rfl ?_); refine gl_ 37 Try.func55 #[.slice Ao25 t564.length co25, .int .i64 x7_1] ?_; (with_reducible refine (spec_HasNumber.calls k1 _ _ t564 x7_1 t571 _ ?side1 ?side2 A21.out).mono ?_); (case side1 => exact rs_ HO_4); (case side2 => exact (Kd.R_reads' HO_4.out).2.1); rintro e w' ⟨rfl, ⟨nd, rfl⟩⟩; refine ⟨_, rfl, ?_⟩; (try (rw [drewN_self wr]; generalize hq_ : World.drewN wr _ = wr; have n0_ : Aside0 (Kd.R (Kd.int .i64) 3 wr w.heap.size (fun _ => True) (.slice Ao25 t564.length co25) t564) := ⟨by rw [← hq_]; exact (kr_ HO_4.out)⟩; have n1_ : Aside0 (Kd.R Kd.bool 4 wr w.heap.size (fun _ => True) v569 x6_1) := ⟨by rw [← hq_]; exact (kr_ HO_6.out)⟩; have n2_ : Aside0 (wr.heap[gb561]? = some (.cells #[.slice A0_0 l0_0.length c0_0] 29 (0, 0))) := ⟨by rw [← hq_]; exact (bk_ BK561.out)⟩; have n3_ : Aside0 (wr.heap[gb562]? = some (.cells #[.slice none 0 0] 29 (0, 0))) := ⟨by rw [← hq_]; exact (bk_ BK562.out)⟩; have n4_ : Aside0 (Below w.heap.size w wr) := ⟨by rw [← hq_]; exact (bl_ HB.out)⟩; clear HO_4 HO_6 BK561 BK562 HB hq_; have HO_4 := n0_; have HO_6 := n1_; have BK561 := n2_; have BK562 := n3_; have HB := n4_; clear n0_ n1_ n2_ n3_ n4_)); have p24 : 0 ≤ (x7_1 : Int) := od_; have q24 : (x7_1 : Int) < ((x6_1.length : Int) : Int) := od_; obtain ⟨go24, co24, eo24, gb24, gl24, cl24, HG24⟩ := Kd.R_form HO_6.out (by omega); (first | cases eo24 | (injection eo24 with ea_ en_ ec_; (first | subst ea_ | (injection ea_ with ea_; subst ea_)); subst ec_; clear en_)); have GB24 := am_ gb24; have GG24 := am_ HG24; clear gb24 gl24 HG24; obtain ⟨hx24_0, hf24_0⟩ := Kd.R_celln false HO_6.out (x7_1 : Int) p24 q24; replace p24 := eq_true p24; replace q24 := eq_true q24; obtain ⟨hy26_, hz26_⟩ := Kd.R_celln false HO_6.out (x7_1 : Int) (od_) (od_); have HP26 := Kd.R_putg HO_6.out (x7_1 : Int) (!t571)) | ((with_reducible refine gate_store (t := 4) (p := 39) rfl ?_); refine store_event (t := 4) (p := 39) (v := ?vo_w27) (w1 := (wr.setCell ⟨go24, (x7_1 : Int).toNat, none⟩ (.bool (!t571)))) ?hg ?ho ?hn ?hr ?_; (case ho => rfl); (case hg => rfl); (case hn => rfl); (case hr => first | (go_simp; done) | (go_simp; rfl)); intro w27 hw; have hg : wr.grownBy w27 (some go24) := (by rw [hw]; exact HP26.2); have hp_ : Kd.R Kd.bool 4 w27 w.heap.size (fun _ => True) (.slice (some ⟨go24, 0, none⟩) x6_1.length co24) y572 := (by rw [hw, Ny572.out]; exact HP26.1); clear HP26; replace HO_4 := am_ (Kd.R_over' (v := (.slice (some ⟨go24, 0, none⟩) x6_1.length co24)) (kr_ HO_4.out) (Kd.R_typed HO_6.out) (by decide) hg); replace BK561 := am_ (blk_grown (g := gb561) (o := .cells #[.slice A0_0 l0_0.length c0_0] 29 (0, 0)) (bk_ BK561.out) hg (Kd.R_ne HO_6.out BK561.out (by decide))); replace BK562 := am_ (blk_grown (g := gb562) (o := .cells #[.slice none 0 0] 29 (0, 0)) (bk_ BK562.out) hg (Kd.R_ne HO_6.out BK562.out (by decide))); replace HO_6 := am_ (hp_); replace HB := am_ ((by rw [hw]; exact below_set (HB.out) GB24.out : Below w.heap.size w w27)); clear hg hw hp_))
    go_roundg k1
    case measure => have := HK1.out; omega
    case rel => exact ⟨(y572), (wrap64 (x7_1 + 1)), sd_, H', ⟨by have := HK1.out; omega⟩, ⟨kr_ HO_4.out⟩, ⟨kr_ HO_6.out⟩, ⟨bk_ BK561.out⟩, ⟨bk_ BK562.out⟩, ⟨bl_ HB.out⟩⟩
   rw [if_neg c20] at H
   have c20b0 : decide (x7_1 < t567) = false := decide_eq_false c20
   clear c20
   have H' := am_ H
   clear H
   go_wp2
   go_loopg [8] k1 (fun kq v8 w' => ∃ (x6_2 : List Bool) (x8_2 : Bool), v8 = .bool x8_2 ∧ Aside0 (spec_ArfClosure.l1 kq t567 x6_2 x8_2 = some (r1, r2)) ∧ Aside0 (kq ≤ k1) ∧ Aside0 (Kd.R Kd.bool 4 w' w.heap.size (fun _ => True) v569 x6_2) ∧ Aside0 (w'.heap[gb561]? = some (.cells #[(.slice A0_0 l0_0.length c0_0)] 29 (0, 0))) ∧ Aside0 (w'.heap[gb562]? = some (.cells #[(.slice none 0 0)] 29 (0, 0))) ∧ Aside0 (Below w.heap.size w w'))
   case atStart => exact ⟨(x6_1), (true), sd_, H', ⟨Nat.le_refl _⟩, ⟨kr_ HO_6.out⟩, ⟨bk_ BK561.out⟩, ⟨bk_ BK562.out⟩, ⟨bl_ HB.out⟩⟩
   case round =>
    clear H'
    try clear c1
    try clear c2
    try clear p2
    try clear q2
    try clear hx2
    try clear hf2
    try clear c3
    try clear c5
    try clear p6
    try clear c11
    try clear c19
    try clear p24
    try clear q24
    try clear hx24
    try clear hf24
    try clear hcz12_0
    try clear hcz14_0
    try clear hcz16_0
    try clear hfz12_0
    try clear hfz14_0
    try clear hfz16_0
    try clear hx24_0
    obtain ⟨x6_2, x8_2, rfl, HA, HK2, HO_6, BK561, BK562, HB⟩ := hrel
    cases gk with
    | zero => exact absurd HA.out (by simp [spec_ArfClosure.l1])
    | succ k2 =>
     have H := HA.out
     clear HA
     simp only [spec_ArfClosure.l1] at H
     by_cases c28 : x8_2 = true
     rotate_left
     ·obtain rfl := Bool.eq_false_iff.mpr c28
      rw [if_neg nf_] at H
      obtain ⟨y578, hy578⟩ : ∃ y_ : List Int, y_ = (([] : List Int)) := ⟨_, rfl⟩
      replace H : (spec_ArfClosure.l5 k2 t567 x6_2 y578 1) = some (r1, r2) := hr_ hy578 H
      have Ny578 := am_ hy578
      clear hy578
      have H' := am_ H
      clear H
      go_wp2_with (first | ((with_reducible refine gate_dst (N := 92) rfl ?_); refine Kd.R_lit (Kd.int .i64) _ 3 ?hg (N := 92) ?hd (xs := ([] : List Int)) (inner := []) (ok := fun _ => True) (okp := fun _ => True) ?hr ?hp (fun _ hk => hk) trivial (Below.refl _ _) (Nat.le_refl _) (by simp) ?_; (case hd => rfl); (case hg => rfl); (case hr => first | (go_simp; done) | (go_simp; rfl)); (case hp => exact (Reps.none _ _)); intro v579 w59 ho60 hb hg_ hnew_; clear hg_ hnew_; (first | rw [← Ny578.out] at ho60 | (simp only [Int.reduceToNat] at ho60; rw [← Ny578.out] at ho60)); replace HO_6 := rb_ HO_6 hb; have HO580 := rl_ ho60 HB; replace BK561 := bb_ BK561 hb; replace BK562 := bb_ BK562 hb; replace HB := bs_ HB hb; clear hb ho60))
      go_loopg [13, 14] k2 (fun kq v13 v14 w' => ∃ (x13_3 : List Int) (x14_3 : Int), v14 = .int .i64 x14_3 ∧ Aside0 (spec_ArfClosure.l5 kq t567 x6_2 x13_3 x14_3 = some (r1, r2)) ∧ Aside0 (kq ≤ k2) ∧ Aside0 (Kd.R Kd.bool 4 w' w.heap.size (fun _ => True) v569 x6_2) ∧ Aside0 (Kd.R (Kd.int .i64) 3 w' w.heap.size (fun _ => True) v13 x13_3) ∧ Aside0 (w'.heap[gb561]? = some (.cells #[(.slice A0_0 l0_0.length c0_0)] 29 (0, 0))) ∧ Aside0 (w'.heap[gb562]? = some (.cells #[(.slice none 0 0)] 29 (0, 0))) ∧ Aside0 (Below w.heap.size w w'))
      case atStart => exact ⟨(y578), (1), sd_, H', ⟨Nat.le_refl _⟩, ⟨kr_ HO_6.out⟩, ⟨kr_ HO580.out⟩, ⟨bk_ BK561.out⟩, ⟨bk_ BK562.out⟩, ⟨bl_ HB.out⟩⟩
      case round =>
       clear H'
       try clear c1
       try clear c2
       try clear p2
       try clear q2
       try clear hx2
       try clear hf2
       try clear c3
       try clear c4
       try clear q4
       try clear c5
       try clear p5
       try clear q5
       try clear hx5
       try clear hf5
       try clear p6
       try clear c11
       try clear c19
       try clear p24
       try clear q24
       try clear hx24
       try clear hf24
       try clear c28
       try clear c35
       try clear c41
       try clear q44
       try clear c45
       try clear q50
       try clear c51
       try clear p53
       try clear q53
       try clear hx53
       try clear hf53
       try clear p57
       try clear q57
       try clear hx57
       try clear hcz12_0
       try clear hcz14_0
       try clear hcz16_0
       try clear hfz12_0
       try clear hfz14_0
       try clear hfz16_0
       try clear hx24_0
       try clear hx53_0
       try clear hx573_0
       try clear hx574_0
       try clear hx575_0
       try clear hx576_0
       try clear p573
       try clear p574
       try clear p575
       try clear p576
       try clear q573
       try clear q574
       try clear q575
       try clear q576
       obtain ⟨x13_3, x14_3, rfl, HA, HK3, HO_6, HO_13, BK561, BK562, HB⟩ := hrel
       cases gk with
       | zero => exact absurd HA.out (by simp [spec_ArfClosure.l5])
       | succ k3 =>
        have H := HA.out
        clear HA
        simp only [spec_ArfClosure.l5] at H
        by_cases c61 : x14_3 < t567
        rotate_left
        ·rw [if_neg c61] at H
         have c61b0 : decide (x14_3 < t567) = false := decide_eq_false c61
         clear c61
         replace H := Option.bind_eq_some_iff.mp H
         obtain ⟨⟨t585, t588⟩, A700, H⟩ := H
         (try dsimp only at H)
         have A70 := am_ A700
         clear A700
         simp only [Option.some.injEq, Prod.mk.injEq] at H
         obtain ⟨rfl, rfl⟩ := H
         obtain ⟨Ao71, co71, eo71⟩ := Kd.R_slice HO_13.out
         subst eo71
         go_wp2_with (first | ((with_reducible refine gate_callee (f := 56) rfl ?_); refine gl_ 109 Try.func56 #[.slice Ao71 x13_3.length co71] ?_; (with_reducible refine (spec_FromGaps.calls k3 _ _ x13_3 t585 t588 _ ?side1 ?side2 A70.out).mono ?_); (case side1 => exact rs_ HO_13); (case side2 => exact (Kd.R_reads' HO_13.out).2.1); rintro e w72 ⟨v586, rfl, ho0, hb⟩; refine ⟨_, rfl, ?_⟩; replace HO_6 := rb_ HO_6 hb; have HO587 := am_ (Kd.R_lower (Kd.R_new' ho0 (Kd.R_lt (kr_ HO_13.out))) (below_size (bl_ HB.out))); replace HO_13 := am_ (Kd.R_elder' (kr_ HO_13.out) (Kd.R_base ho0) hb); replace BK561 := bb_ BK561 hb; replace BK562 := bb_ BK562 hb; replace HB := bs_ HB hb; (try clear hb); (try clear hb2); (try clear hk); (try clear hi); (try clear ho0)) | ((with_reducible refine gate_dst (N := 15) rfl ?_); refine be_ 15 #[.slice none 0 0] 29 fun gb589 hg w73 hbox hb => ?_; replace HO_6 := rb_ HO_6 hb; replace HO_13 := rb_ HO_13 hb; replace HO587 := rb_ HO587 hb; have BK589 := am_ (hbox); have GW589 := ge_ hg HB; have GE589 := ge_ hg HB; replace HB := bs_ HB hb; have NB561_589 := nl_ hg BK561; have NB589_561 := ng_ hg BK561; replace BK561 := bb_ BK561 hb; have NB562_589 := nl_ hg BK562; have NB589_562 := ng_ hg BK562; replace BK562 := bb_ BK562 hb; clear hb hbox hg; obtain ⟨Ao74, co74, eo74⟩ := Kd.R_slice HO587.out; subst eo74; have hnb75 := NB589_561.out; have hnc75 := NB561_589.out; have hnb76 := NB589_562.out; have hnc76 := NB562_589.out; have hcz77_0 := bc_ BK589; have hfz77_0 := blk_frozen BK589.out 0; have hnb78 := NB562_561.out; have hnc78 := NB561_562.out; have hcz79_0 := bc_ BK562; have hfz79_0 := blk_frozen BK562.out 0))
         refine bodyPost_ret (results_ct rfl _ _ gb562 29 #[.slice Ao74 t585.length co74] (0, 0) _ rfl (by (with_reducible repeat (first | refine blk_drewN ?_ _ | refine blk_drew ?_ | refine blk_alloc ?_ _)); refine blk_put (cs := #[.slice none 0 0]) ?_ 0 _ rfl; (with_reducible repeat (first | refine blk_drewN ?_ _ | refine blk_drew ?_ | refine blk_alloc ?_ _)); refine blk_far ?_ NB562_589.out _; (with_reducible repeat (first | refine blk_drewN ?_ _ | refine blk_drew ?_ | refine blk_alloc ?_ _)); exact BK562.out) Try.underlying29 rfl (by kernel_rfl)) rfl ?_
         exact ⟨_, by first | rfl | (simp [errW_none, errW_some] <;> rfl) | (simp only [← hji6]; first | rfl | (simp [errW_none, errW_some] <;> rfl)) | (simp [*, errW_none, errW_some] <;> rfl), kr_ (Kd.R_mono (Kd.R_far (p := ⟨gb562, 0, none⟩) (Kd.R_far (p := ⟨gb589, 0, none⟩) (Kd.R_types (Kd.R_types HO587.out BK589.out (by decide)) BK562.out (by decide)) (fun _ hk => hk.1.2) (.slice Ao74 t585.length co74)) (fun _ hk => hk.2) (.slice Ao74 t585.length co74)) (fun _ hk => trivial)), bl_ HB.out⟩
        rw [if_pos c61] at H
        have c61b0 := decide_eq_true c61
        clear c61
        obtain ⟨c62, H⟩ := in_ H
        have c62b0 := decide_eq_true c62
        clear c62
        obtain ⟨c63, H⟩ := in_ H
        have c63b0 := decide_eq_true c63
        clear c63
        obtain ⟨bq64, hbq64⟩ : ∃ b_ : Bool, b_ = (rdOf false x6_2 x14_3) := ⟨_, rfl⟩
        replace H : (if bq64 = true then (spec_ArfClosure.l5 k3 t567 x6_2 x13_3 (wrap64 (x14_3 + 1))) else (if x13_3.length < 17592186044416 then (spec_ArfClosure.l5 k3 t567 x6_2 (x13_3 ++ [x14_3]) (wrap64 (x14_3 + 1))) else (none))) = some (r1, r2) := by rw [← hbq64] at H; exact H
        have Nbq64 := am_ hbq64
        clear hbq64
        by_cases c65 : bq64 = true
        ·subst c65
         rw [if_pos rfl] at H
         have H' := am_ H
         clear H
         obtain ⟨Ao66, co66, eo66⟩ := Kd.R_slice HO_6.out
         subst eo66
         obtain ⟨p581, q581, ad581, e581, hx581_0⟩ := ri_ (Kd.at_bool (Kd.R_reads' HO_6.out).2.2 x14_3)
         (try rw [← Nbq64.out] at hx581_0)
         cases e581
         go_wp2
         go_roundg k3
         case measure => have := HK1.out; have := HK2.out; have := HK3.out; omega
         case rel => exact ⟨(x13_3), (wrap64 (x14_3 + 1)), sd_, H', ⟨by have := HK1.out; have := HK2.out; have := HK3.out; omega⟩, ⟨kr_ HO_6.out⟩, ⟨kr_ HO_13.out⟩, ⟨bk_ BK561.out⟩, ⟨bk_ BK562.out⟩, ⟨bl_ HB.out⟩⟩
        obtain rfl := Bool.eq_false_iff.mpr c65
        rw [if_neg nf_] at H
        obtain ⟨c67, H⟩ := in_ H
        have LMc67 := am_ c67
        clear c67
        obtain ⟨y582, hy582⟩ : ∃ y_ : List Int, y_ = (x13_3 ++ [x14_3]) := ⟨_, rfl⟩
        replace H : (spec_ArfClosure.l5 k3 t567 x6_2 y582 (wrap64 (x14_3 + 1))) = some (r1, r2) := hr_ hy582 H
        have Ny582 := am_ hy582
        clear hy582
        have H' := am_ H
        clear H
        obtain ⟨Ao68, co68, eo68⟩ := Kd.R_slice HO_6.out
        subst eo68
        obtain ⟨p581, q581, ad581, e581, hx581_0⟩ := ri_ (Kd.at_bool (Kd.R_reads' HO_6.out).2.2 x14_3)
        (try rw [← Nbq64.out] at hx581_0)
        cases e581
        go_wp2_with (first | ((with_reducible refine gate_builtin (b := .append) (xs := #[.tmp 103, .tmp 105]) rfl ?_); at_builtin; refine Kd.R_append (Kd.int .i64) (w0 := w) w.heap.size rfl (.tmp 103) (.tmp 105) 22 3 (.int .i64 0) 8 rfl Try.underlying22 info3 rfl (by decide) (by omega) u13 x13_3 x14_3 [.int .i64 x14_3] (fun _ => True) (fun _ => False) rfl rfl ?aP (fun _ hk => hk.elim) ?aF ?aO ?aB ?aS ?aL ?_; (case aP => exact rfl); (case aB => exact (bl_ HB.out)); (case aF => exact (fun _ _ => trivial)); (case aO => exact (kr_ HO_13.out)); (case aS => exact (below_size (bl_ HB.out))); (case aL => have := LMc67.out; omega); intro v583 w69 ho hb hg hat; rw [← Ny582.out] at ho; have n0_ := am_ (Kd.R_over' (kr_ HO_6.out) (Kd.R_typed (kr_ HO_13.out)) (by decide) hg); have n1_ := am_ (blk_grown (g := gb561) (o := .cells #[.slice A0_0 l0_0.length c0_0] 29 (0, 0)) (bk_ BK561.out) hg (Kd.R_ne HO_13.out BK561.out (by decide))); have n2_ := am_ (blk_grown (g := gb562) (o := .cells #[.slice none 0 0] 29 (0, 0)) (bk_ BK562.out) hg (Kd.R_ne HO_13.out BK562.out (by decide))); have n3_ := am_ (hb); have n4_ := am_ (ho); clear HO_6; clear BK561; clear BK562; clear HB; clear HO_13; have HO_6 := n0_; have BK561 := n1_; have BK562 := n2_; have HB := n3_; have HO584 := n4_; clear n0_ n1_ n2_ n3_ n4_; clear ho hb hg hat))
        go_roundg k3
        case measure => have := HK1.out; have := HK2.out; have := HK3.out; omega
        case rel => exact ⟨(y582), (wrap64 (x14_3 + 1)), sd_, H', ⟨by have := HK1.out; have := HK2.out; have := HK3.out; omega⟩, ⟨kr_ HO_6.out⟩, ⟨kr_ HO584.out⟩, ⟨bk_ BK561.out⟩, ⟨bk_ BK562.out⟩, ⟨bl_ HB.out⟩⟩
     subst c28
     rw [if_pos rfl] at H
     have H' := am_ H
     clear H
     go_wp2
     go_loopg [8, 9] k2 (fun kq v8 v9 w' => ∃ (x6_3 : List Bool) (x8_3 : Bool) (x9_3 : Int), v8 = .bool x8_3 ∧ v9 = .int .i64 x9_3 ∧ Aside0 (spec_ArfClosure.l2 kq t567 x6_3 x8_3 x9_3 = some (r1, r2)) ∧ Aside0 (kq ≤ k2) ∧ Aside0 (Kd.R Kd.bool 4 w' w.heap.size (fun _ => True) v569 x6_3) ∧ Aside0 (w'.heap[gb561]? = some (.cells #[(.slice A0_0 l0_0.length c0_0)] 29 (0, 0))) ∧ Aside0 (w'.heap[gb562]? = some (.cells #[(.slice none 0 0)] 29 (0, 0))) ∧ Aside0 (Below w.heap.size w w'))
     case atStart => exact ⟨(x6_2), (false), (0), sd_, sd_, H', ⟨Nat.le_refl _⟩, ⟨kr_ HO_6.out⟩, ⟨bk_ BK561.out⟩, ⟨bk_ BK562.out⟩, ⟨bl_ HB.out⟩⟩
     case round =>
      clear H'
      try clear c1
      try clear c2
      try clear p2
      try clear q2
      try clear hx2
      try clear hf2
      try clear c3
      try clear c5
      try clear p6
      try clear c11
      try clear c19
      try clear p24
      try clear q24
      try clear hx24
      try clear hf24
      try clear c28
      try clear hcz12_0
      try clear hcz14_0
      try clear hcz16_0
      try clear hfz12_0
      try clear hfz14_0
      try clear hfz16_0
      try clear hx24_0
      obtain ⟨x6_3, x8_3, x9_3, rfl, rfl, HA, HK3, HO_6, BK561, BK562, HB⟩ := hrel
      cases gk with
      | zero => exact absurd HA.out (by simp [spec_ArfClosure.l2])
      | succ k3 =>
       have H := HA.out
       clear HA
       simp only [spec_ArfClosure.l2] at H
       by_cases c29 : x9_3 < t567
       rotate_left
       ·rw [if_neg c29] at H
        have c29b0 : decide (x9_3 < t567) = false := decide_eq_false c29
        clear c29
        have H' := am_ H
        clear H
        go_wp2
        go_roundg k3
        case measure => have := HK1.out; have := HK2.out; have := HK3.out; omega
        case rel => exact ⟨(x6_3), (x8_3), sd_, H', ⟨by have := HK1.out; have := HK2.out; have := HK3.out; omega⟩, ⟨kr_ HO_6.out⟩, ⟨bk_ BK561.out⟩, ⟨bk_ BK562.out⟩, ⟨bl_ HB.out⟩⟩
       rw [if_pos c29] at H
       have c29b0 := decide_eq_true c29
       clear c29
       have H' := am_ H
       clear H
       go_wp2
       go_loopg [8, 10] k3 (fun kq v8 v10 w' => ∃ (x6_4 : List Bool) (x8_4 : Bool) (x10_4 : Int), v8 = .bool x8_4 ∧ v10 = .int .i64 x10_4 ∧ Aside0 (spec_ArfClosure.l3 kq t567 x6_4 x8_4 x9_3 x10_4 = some (r1, r2)) ∧ Aside0 (kq ≤ k3) ∧ Aside0 (Kd.R Kd.bool 4 w' w.heap.size (fun _ => True) v569 x6_4) ∧ Aside0 (w'.heap[gb561]? = some (.cells #[(.slice A0_0 l0_0.length c0_0)] 29 (0, 0))) ∧ Aside0 (w'.heap[gb562]? = some (.cells #[(.slice none 0 0)] 29 (0, 0))) ∧ Aside0 (Below w.heap.size w w'))
       case atStart => exact ⟨(x6_3), (x8_3), (0), sd_, sd_, H', ⟨Nat.le_refl _⟩, ⟨kr_ HO_6.out⟩, ⟨bk_ BK561.out⟩, ⟨bk_ BK562.out⟩, ⟨bl_ HB.out⟩⟩
       case round =>
        clear H'
        try clear c1
        try clear c2
        try clear p2
        try clear q2
        try clear hx2
        try clear hf2
        try clear c3
        try clear c5
        try clear p6
        try clear c11
        try clear c19
        try clear p24
        try clear q24
        try clear hx24
        try clear hf24
        try clear c28
        try clear hcz12_0
        try clear hcz14_0
        try clear hcz16_0
        try clear hfz12_0
        try clear hfz14_0
        try clear hfz16_0
        try clear hx24_0
        obtain ⟨x6_4, x8_4, x10_4, rfl, rfl, HA, HK4, HO_6, BK561, BK562, HB⟩ := hrel
        cases gk with
        | zero => exact absurd HA.out (by simp [spec_ArfClosure.l3])
        | succ k4 =>
         have H := HA.out
         clear HA
         simp only [spec_ArfClosure.l3] at H
         have HC30 := am_ H
         clear H
         go_upto_region 17 with (fail)
         go_cut [54] (fun v54 wc => ∃ (kq : Nat) (x54_29 : Bool), v54 = .bool x54_29 ∧ Aside0 (spec_ArfClosure.j4 kq t567 x6_4 x8_4 x9_3 x10_4 x54_29 = some (r1, r2)) ∧ Aside0 (kq ≤ k4) ∧ Aside0 (Kd.R Kd.bool 4 wc w.heap.size (fun _ => True) v569 x6_4) ∧ Aside0 (wc.heap[gb561]? = some (.cells #[(.slice A0_0 l0_0.length c0_0)] 29 (0, 0))) ∧ Aside0 (wc.heap[gb562]? = some (.cells #[(.slice none 0 0)] 29 (0, 0))) ∧ Aside0 (Below w.heap.size w wc))
         case first =>
          have H := HC30.out
          clear HC30
          by_cases c31 : x10_4 ≤ x9_3
          rotate_left
          ·rw [if_neg c31] at H
           have c31b0 : decide (x10_4 ≤ x9_3) = false := decide_eq_false c31
           clear c31
           (first | rw [c31b0] | (simp only [i64_w, i32_w]; rw [c31b0]) | skip)
           have H' := am_ H
           clear H
           go_wp2
           go_meet
           case rel => exact ⟨_, (false), sd_, H', ⟨by have := HK1.out; have := HK2.out; have := HK3.out; have := HK4.out; first | omega | exact Nat.le_refl _⟩, ⟨kr_ HO_6.out⟩, ⟨bk_ BK561.out⟩, ⟨bk_ BK562.out⟩, ⟨bl_ HB.out⟩⟩
          rw [if_pos c31] at H
          have c31b0 := decide_eq_true c31
          clear c31
          (first | rw [c31b0] | (simp only [i64_w, i32_w]; rw [c31b0]) | skip)
          obtain ⟨c32, H⟩ := in_ H
          have c32b0 := decide_eq_true c32
          clear c32
          obtain ⟨c33, H⟩ := in_ H
          have c33b0 := decide_eq_true c33
          clear c33
          have H' := am_ H
          clear H
          obtain ⟨Ao34, co34, eo34⟩ := Kd.R_slice HO_6.out
          subst eo34
          obtain ⟨p573, q573, ad573, e573, hx573_0⟩ := ri_ (Kd.at_bool (Kd.R_reads' HO_6.out).2.2 x9_3)
          cases e573
          go_wp2
          go_meet
          case rel => exact ⟨_, (rdOf false x6_4 x9_3), sd_, H', ⟨by have := HK1.out; have := HK2.out; have := HK3.out; have := HK4.out; first | omega | exact Nat.le_refl _⟩, ⟨kr_ HO_6.out⟩, ⟨bk_ BK561.out⟩, ⟨bk_ BK562.out⟩, ⟨bl_ HB.out⟩⟩
         case rest =>
          clear HC30
          try clear c1
          try clear c2
          try clear p2
          try clear q2
          try clear hx2
          try clear hf2
          try clear c3
          try clear c5
          try clear p5
          try clear q5
          try clear hx5
          try clear p6
          try clear c11
          try clear c19
          try clear p24
          try clear q24
          try clear hx24
          try clear hf24
          try clear c28
          try clear hcz12_0
          try clear hcz14_0
          try clear hcz16_0
          try clear hfz12_0
          try clear hfz14_0
          try clear hfz16_0
          try clear hx24_0
          try clear hx573_0
          try clear p573
          try clear q573
          obtain ⟨kq, x54_29, rfl, HA, HJ29, HO_6, BK561, BK562, HB⟩ := hcut
          cases kq with
          | zero => exact absurd HA.out (by simp [spec_ArfClosure.j4])
          | succ kj29 =>
           have H := HA.out
           clear HA
           simp only [spec_ArfClosure.j4] at H
           by_cases c35 : x54_29 = true
           rotate_left
           ·obtain rfl := Bool.eq_false_iff.mpr c35
            rw [if_neg nf_] at H
            have H' := am_ H
            clear H
            go_wp2
            go_roundg kj29
            case measure => have := HK1.out; have := HK2.out; have := HK3.out; have := HK4.out; have := HJ29.out; omega
            case rel => exact ⟨(x6_4), (x8_4), (wrap64 (x9_3 + 1)), sd_, sd_, H', ⟨by have := HK1.out; have := HK2.out; have := HK3.out; have := HK4.out; have := HJ29.out; omega⟩, ⟨kr_ HO_6.out⟩, ⟨bk_ BK561.out⟩, ⟨bk_ BK562.out⟩, ⟨bl_ HB.out⟩⟩
           subst c35
           rw [if_pos rfl] at H
           have H' := am_ H
           clear H
           go_wp2
           go_loopg [8, 11] kj29 (fun kq v8 v11 w' => ∃ (x6_6 : List Bool) (x8_6 : Bool) (x11_6 : Int), v8 = .bool x8_6 ∧ v11 = .int .i64 x11_6 ∧ Aside0 (spec_ArfClosure.l4 kq t567 x6_6 x8_6 x9_3 x10_4 x11_6 = some (r1, r2)) ∧ Aside0 (kq ≤ kj29) ∧ Aside0 (Kd.R Kd.bool 4 w' w.heap.size (fun _ => True) v569 x6_6) ∧ Aside0 (w'.heap[gb561]? = some (.cells #[(.slice A0_0 l0_0.length c0_0)] 29 (0, 0))) ∧ Aside0 (w'.heap[gb562]? = some (.cells #[(.slice none 0 0)] 29 (0, 0))) ∧ Aside0 (Below w.heap.size w w'))
           case atStart => exact ⟨(x6_4), (x8_4), (0), sd_, sd_, H', ⟨Nat.le_refl _⟩, ⟨kr_ HO_6.out⟩, ⟨bk_ BK561.out⟩, ⟨bk_ BK562.out⟩, ⟨bl_ HB.out⟩⟩
           case round =>
            clear H'
            try clear c1
            try clear c2
            try clear p2
            try clear q2
            try clear hx2
            try clear hf2
            try clear c3
            try clear c5
            try clear p5
            try clear q5
            try clear hx5
            try clear p6
            try clear c11
            try clear c19
            try clear p24
            try clear q24
            try clear hx24
            try clear hf24
            try clear c28
            try clear c35
            try clear hcz12_0
            try clear hcz14_0
            try clear hcz16_0
            try clear hfz12_0
            try clear hfz14_0
            try clear hfz16_0
            try clear hx24_0
            try clear hx573_0
            try clear p573
            try clear q573
            obtain ⟨x6_6, x8_6, x11_6, rfl, rfl, HA, HK6, HO_6, BK561, BK562, HB⟩ := hrel
            cases gk with
            | zero => exact absurd HA.out (by simp [spec_ArfClosure.l4])
            | succ k6 =>
             have H := HA.out
             clear HA
             simp only [spec_ArfClosure.l4] at H
             have HC36 := am_ H
             clear H
             go_upto_region 20 with (fail)
             go_cut [65] (fun v65 wc => ∃ (kq : Nat) (x65_35 : Bool), v65 = .bool x65_35 ∧ Aside0 (spec_ArfClosure.j6 kq t567 x6_6 x8_6 x9_3 x10_4 x11_6 x65_35 = some (r1, r2)) ∧ Aside0 (kq ≤ k6) ∧ Aside0 (Kd.R Kd.bool 4 wc w.heap.size (fun _ => True) v569 x6_6) ∧ Aside0 (wc.heap[gb561]? = some (.cells #[(.slice A0_0 l0_0.length c0_0)] 29 (0, 0))) ∧ Aside0 (wc.heap[gb562]? = some (.cells #[(.slice none 0 0)] 29 (0, 0))) ∧ Aside0 (Below w.heap.size w wc))
             case first =>
              have H := HC36.out
              clear HC36
              by_cases c37 : x11_6 ≤ x10_4
              rotate_left
              ·rw [if_neg c37] at H
               have c37b0 : decide (x11_6 ≤ x10_4) = false := decide_eq_false c37
               clear c37
               (first | rw [c37b0] | (simp only [i64_w, i32_w]; rw [c37b0]) | skip)
               have H' := am_ H
               clear H
               go_wp2
               go_meet
               case rel => exact ⟨_, (false), sd_, H', ⟨by have := HK1.out; have := HK2.out; have := HK3.out; have := HK4.out; have := HJ29.out; have := HK6.out; first | omega | exact Nat.le_refl _⟩, ⟨kr_ HO_6.out⟩, ⟨bk_ BK561.out⟩, ⟨bk_ BK562.out⟩, ⟨bl_ HB.out⟩⟩
              rw [if_pos c37] at H
              have c37b0 := decide_eq_true c37
              clear c37
              (first | rw [c37b0] | (simp only [i64_w, i32_w]; rw [c37b0]) | skip)
              obtain ⟨c38, H⟩ := in_ H
              have c38b0 := decide_eq_true c38
              clear c38
              obtain ⟨c39, H⟩ := in_ H
              have c39b0 := decide_eq_true c39
              clear c39
              have H' := am_ H
              clear H
              obtain ⟨Ao40, co40, eo40⟩ := Kd.R_slice HO_6.out
              subst eo40
              obtain ⟨p574, q574, ad574, e574, hx574_0⟩ := ri_ (Kd.at_bool (Kd.R_reads' HO_6.out).2.2 x10_4)
              cases e574
              go_wp2
              go_meet
              case rel => exact ⟨_, (rdOf false x6_6 x10_4), sd_, H', ⟨by have := HK1.out; have := HK2.out; have := HK3.out; have := HK4.out; have := HJ29.out; have := HK6.out; first | omega | exact Nat.le_refl _⟩, ⟨kr_ HO_6.out⟩, ⟨bk_ BK561.out⟩, ⟨bk_ BK562.out⟩, ⟨bl_ HB.out⟩⟩
             case rest =>
              clear HC36
              try clear c1
              try clear c2
              try clear p2
              try clear q2
              try clear hx2
              try clear hf2
              try clear c3
              try clear c5
              try clear p5
              try clear q5
              try clear hx5
              try clear p6
              try clear c11
              try clear c19
              try clear p24
              try clear q24
              try clear hx24
              try clear hf24
              try clear c28
              try clear c35
              try clear hcz12_0
              try clear hcz14_0
              try clear hcz16_0
              try clear hfz12_0
              try clear hfz14_0
              try clear hfz16_0
              try clear hx24_0
              try clear hx573_0
              try clear hx574_0
              try clear p573
              try clear p574
              try clear q573
              try clear q574
              obtain ⟨kq, x65_35, rfl, HA, HJ35, HO_6, BK561, BK562, HB⟩ := hcut
              cases kq with
              | zero => exact absurd HA.out (by simp [spec_ArfClosure.j6])
              | succ kj35 =>
               have H := HA.out
               clear HA
               simp only [spec_ArfClosure.j6] at H
               by_cases c41 : x65_35 = true
               rotate_left
               ·obtain rfl := Bool.eq_false_iff.mpr c41
                rw [if_neg nf_] at H
                have H' := am_ H
                clear H
                go_wp2
                go_roundg kj35
                case measure => have := HK1.out; have := HK2.out; have := HK3.out; have := HK4.out; have := HJ29.out; have := HK6.out; have := HJ35.out; omega
                case rel => exact ⟨(x6_6), (x8_6), (wrap64 (x10_4 + 1)), sd_, sd_, H', ⟨by have := HK1.out; have := HK2.out; have := HK3.out; have := HK4.out; have := HJ29.out; have := HK6.out; have := HJ35.out; omega⟩, ⟨kr_ HO_6.out⟩, ⟨bk_ BK561.out⟩, ⟨bk_ BK562.out⟩, ⟨bl_ HB.out⟩⟩
               subst c41
               rw [if_pos rfl] at H
               obtain ⟨c42, H⟩ := in_ H
               have c42b0 := decide_eq_true c42
               clear c42
               obtain ⟨c43, H⟩ := in_ H
               have c43b0 := decide_eq_true c43
               clear c43
               obtain ⟨bq44, hbq44⟩ : ∃ b_ : Bool, b_ = (rdOf false x6_6 x11_6) := ⟨_, rfl⟩
               replace H : (if bq44 = true then (if (wrap64 ((wrap64 (x9_3 + x10_4)) - x11_6)) < t567 then (if 0 ≤ (wrap64 ((wrap64 (x9_3 + x10_4)) - x11_6)) then (if (wrap64 ((wrap64 (x9_3 + x10_4)) - x11_6)) < (x6_6.length : Int) then (if (rdOf false x6_6 (wrap64 ((wrap64 (x9_3 + x10_4)) - x11_6)) = true) then (spec_ArfClosure.l4 kj35 t567 x6_6 x8_6 x9_3 x10_4 (wrap64 (x11_6 + 1))) else (spec_ArfClosure.l4 kj35 t567 (x6_6.set ((wrap64 ((wrap64 (x9_3 + x10_4)) - x11_6)) : Int).toNat true) true x9_3 x10_4 (wrap64 (x11_6 + 1)))) else (none)) else (none)) else (spec_ArfClosure.l4 kj35 t567 x6_6 x8_6 x9_3 x10_4 (wrap64 (x11_6 + 1)))) else (spec_ArfClosure.l4 kj35 t567 x6_6 x8_6 x9_3 x10_4 (wrap64 (x11_6 + 1)))) = some (r1, r2) := by rw [← hbq44] at H; exact H
               have Nbq44 := am_ hbq44
               clear hbq44
               by_cases c45 : bq44 = true
               rotate_left
               ·obtain rfl := Bool.eq_false_iff.mpr c45
                rw [if_neg nf_] at H
                have H' := am_ H
                clear H
                obtain ⟨Ao58, co58, eo58⟩ := Kd.R_slice HO_6.out
                subst eo58
                obtain ⟨p575, q575, ad575, e575, hx575_0⟩ := ri_ (Kd.at_bool (Kd.R_reads' HO_6.out).2.2 x11_6)
                (try rw [← Nbq44.out] at hx575_0)
                cases e575
                go_wp2
                go_roundg kj35
                case measure => have := HK1.out; have := HK2.out; have := HK3.out; have := HK4.out; have := HJ29.out; have := HK6.out; have := HJ35.out; omega
                case rel => exact ⟨(x6_6), (x8_6), (wrap64 (x11_6 + 1)), sd_, sd_, H', ⟨by have := HK1.out; have := HK2.out; have := HK3.out; have := HK4.out; have := HJ29.out; have := HK6.out; have := HJ35.out; omega⟩, ⟨kr_ HO_6.out⟩, ⟨bk_ BK561.out⟩, ⟨bk_ BK562.out⟩, ⟨bl_ HB.out⟩⟩
               subst c45
               rw [if_pos rfl] at H
               by_cases c46 : (wrap64 ((wrap64 (x9_3 + x10_4)) - x11_6)) < t567
               rotate_left
               ·rw [if_neg c46] at H
                have c46b0 : decide ((wrap64 ((wrap64 (x9_3 + x10_4)) - x11_6)) < t567) = false := decide_eq_false c46
                clear c46
                have H' := am_ H
                clear H
                obtain ⟨Ao57, co57, eo57⟩ := Kd.R_slice HO_6.out
                subst eo57
                obtain ⟨p575, q575, ad575, e575, hx575_0⟩ := ri_ (Kd.at_bool (Kd.R_reads' HO_6.out).2.2 x11_6)
                (try rw [← Nbq44.out] at hx575_0)
                cases e575
                go_wp2
                go_roundg kj35
                case measure => have := HK1.out; have := HK2.out; have := HK3.out; have := HK4.out; have := HJ29.out; have := HK6.out; have := HJ35.out; omega
                case rel => exact ⟨(x6_6), (x8_6), (wrap64 (x11_6 + 1)), sd_, sd_, H', ⟨by have := HK1.out; have := HK2.out; have := HK3.out; have := HK4.out; have := HJ29.out; have := HK6.out; have := HJ35.out; omega⟩, ⟨kr_ HO_6.out⟩, ⟨bk_ BK561.out⟩, ⟨bk_ BK562.out⟩, ⟨bl_ HB.out⟩⟩
               rw [if_pos c46] at H
               have c46b0 := decide_eq_true c46
               clear c46
               obtain ⟨ji47, hji47⟩ : ∃ j_ : Int, (wrap64 ((wrap64 (x9_3 + x10_4)) - x11_6)) = j_ := ⟨_, rfl⟩
               replace H : (if 0 ≤ (ji47) then (if (ji47) < (x6_6.length : Int) then (if (rdOf false x6_6 (ji47) = true) then (spec_ArfClosure.l4 kj35 t567 x6_6 x8_6 x9_3 x10_4 (wrap64 (x11_6 + 1))) else (spec_ArfClosure.l4 kj35 t567 (x6_6.set ((ji47) : Int).toNat true) true x9_3 x10_4 (wrap64 (x11_6 + 1)))) else (none)) else (none)) = some (r1, r2) := by first | (rw [hji47] at H; exact H) | (simp only [hji47] at H ⊢; exact H)
               (try rw [hji47] at c46b0)
               have hji47w : (IntKind.i64.wrap ((wrap64 (x9_3 + x10_4)) - x11_6)) = ji47 := (i64_w _).trans hji47
               obtain ⟨c48, H⟩ := in_ H
               have c48b0 := decide_eq_true c48
               clear c48
               obtain ⟨c49, H⟩ := in_ H
               have c49b0 := decide_eq_true c49
               clear c49
               obtain ⟨bq50, hbq50⟩ : ∃ b_ : Bool, b_ = (rdOf false x6_6 (ji47)) := ⟨_, rfl⟩
               replace H : (if (bq50 = true) then (spec_ArfClosure.l4 kj35 t567 x6_6 x8_6 x9_3 x10_4 (wrap64 (x11_6 + 1))) else (spec_ArfClosure.l4 kj35 t567 (x6_6.set ((ji47) : Int).toNat true) true x9_3 x10_4 (wrap64 (x11_6 + 1)))) = some (r1, r2) := by rw [← hbq50] at H; exact H
               have Nbq50 := am_ hbq50
               clear hbq50
               by_cases c51 : (bq50 = true)
               ·subst c51
                rw [if_pos rfl] at H
                have H' := am_ H
                clear H
                obtain ⟨Ao52, co52, eo52⟩ := Kd.R_slice HO_6.out
                subst eo52
                obtain ⟨p575, q575, ad575, e575, hx575_0⟩ := ri_ (Kd.at_bool (Kd.R_reads' HO_6.out).2.2 x11_6)
                (try rw [← Nbq44.out] at hx575_0)
                (try rw [← Nbq50.out] at hx575_0)
                cases e575
                obtain ⟨p576, q576, ad576, e576, hx576_0⟩ := ri_ (Kd.at_bool (Kd.R_reads' HO_6.out).2.2 (ji47))
                (try rw [← Nbq44.out] at hx576_0)
                (try rw [← Nbq50.out] at hx576_0)
                obtain rfl : ad575 = ad576 := (by injection e576)
                go_wp2
                go_roundg kj35
                case measure => have := HK1.out; have := HK2.out; have := HK3.out; have := HK4.out; have := HJ29.out; have := HK6.out; have := HJ35.out; omega
                case rel => exact ⟨(x6_6), (x8_6), (wrap64 (x11_6 + 1)), sd_, sd_, H', ⟨by have := HK1.out; have := HK2.out; have := HK3.out; have := HK4.out; have := HJ29.out; have := HK6.out; have := HJ35.out; omega⟩, ⟨kr_ HO_6.out⟩, ⟨bk_ BK561.out⟩, ⟨bk_ BK562.out⟩, ⟨bl_ HB.out⟩⟩
               obtain rfl := Bool.eq_false_iff.mpr c51
               rw [if_neg nf_] at H
               obtain ⟨y577, hy577⟩ : ∃ y_ : List Bool, y_ = (x6_6.set ((ji47) : Int).toNat true) := ⟨_, rfl⟩
               replace H : (spec_ArfClosure.l4 kj35 t567 y577 true x9_3 x10_4 (wrap64 (x11_6 + 1))) = some (r1, r2) := hr_ hy577 H
               have Ny577 := am_ hy577
               clear hy577
               have H' := am_ H
               clear H
               obtain ⟨Ao54, co54, eo54⟩ := Kd.R_slice HO_6.out
               subst eo54
               obtain ⟨p575, q575, ad575, e575, hx575_0⟩ := ri_ (Kd.at_bool (Kd.R_reads' HO_6.out).2.2 x11_6)
               (try rw [← Nbq44.out] at hx575_0)
               (try rw [← Nbq50.out] at hx575_0)
               cases e575
               obtain ⟨p576, q576, ad576, e576, hx576_0⟩ := ri_ (Kd.at_bool (Kd.R_reads' HO_6.out).2.2 (ji47))
               (try rw [← Nbq44.out] at hx576_0)
               (try rw [← Nbq50.out] at hx576_0)
               obtain rfl : ad575 = ad576 := (by injection e576)
               have p53 : 0 ≤ ((ji47) : Int) := od_
               have q53 : ((ji47) : Int) < ((x6_6.length : Int) : Int) := od_
               obtain ⟨go53, co53, eo53, gb53, gl53, cl53, HG53⟩ := Kd.R_form HO_6.out (by omega)
               (first | cases eo53 | (injection eo53 with ea_ en_ ec_; (first | subst ea_ | (injection ea_ with ea_; subst ea_)); subst ec_; clear en_))
               have GB53 := am_ gb53
               have GG53 := am_ HG53
               clear gb53 gl53 HG53
               (first | simp only [add_plain] at hx575_0 | skip)
               (first | simp only [add_plain] at hx576_0 | skip)
               obtain ⟨hx53_0, hf53_0⟩ := Kd.R_celln false HO_6.out ((ji47) : Int) p53 q53
               replace p53 := eq_true p53
               replace q53 := eq_true q53
               have HP55 := Kd.R_putg HO_6.out ((ji47) : Int) true
               go_wp2_with (first | ((with_reducible refine gate_store (t := 4) (p := 91) rfl ?_); refine store_event (t := 4) (p := 91) (v := ?vo_w56) (w1 := (wc.setCell ⟨go53, ((ji47) : Int).toNat, none⟩ (.bool true))) ?hg ?ho ?hn ?hr ?_; (case ho => rfl); (case hg => rfl); (case hn => rfl); (case hr => first | (go_simp; done) | (go_simp; rfl)); intro w56 hw; have hg : wc.grownBy w56 (some go53) := (by rw [hw]; exact HP55.2); have hp_ : Kd.R Kd.bool 4 w56 w.heap.size (fun _ => True) (.slice (some ⟨go53, 0, none⟩) x6_6.length co54) y577 := (by rw [hw, Ny577.out]; exact HP55.1); clear HP55; replace BK561 := am_ (blk_grown (g := gb561) (o := .cells #[.slice A0_0 l0_0.length c0_0] 29 (0, 0)) (bk_ BK561.out) hg (Kd.R_ne HO_6.out BK561.out (by decide))); replace BK562 := am_ (blk_grown (g := gb562) (o := .cells #[.slice none 0 0] 29 (0, 0)) (bk_ BK562.out) hg (Kd.R_ne HO_6.out BK562.out (by decide))); replace HO_6 := am_ (hp_); replace HB := am_ ((by rw [hw]; exact below_set (HB.out) GB53.out : Below w.heap.size w w56)); clear hg hw hp_))
               go_roundg kj35
               case measure => have := HK1.out; have := HK2.out; have := HK3.out; have := HK4.out; have := HJ29.out; have := HK6.out; have := HJ35.out; omega
               case rel => exact ⟨(y577), (true), (wrap64 (x11_6 + 1)), sd_, sd_, H', ⟨by have := HK1.out; have := HK2.out; have := HK3.out; have := HK4.out; have := HJ29.out; have := HK6.out; have := HJ35.out; omega⟩, ⟨kr_ HO_6.out⟩, ⟨bk_ BK561.out⟩, ⟨bk_ BK562.out⟩, ⟨bl_ HB.out⟩⟩
def spec_DrawIsArf.f (k : Nat) (l0 : List Int) : Option (List Int) := (spec_l1New.f k l0).bind fun bt591 => ((spec_l3Bent.f k bt591.1 bt591.2.1 bt591.2.2).bind fun bt595 => ((spec_l1Once.f bt591.1 bt595.2.1 bt595.2.2 2).bind fun bt601 => (if bt601.1 = true then ((spec_ArfClosure.f k bt595.1).bind fun bt604 => (if bt604.2 = true then (some bt604.1) else (some bt595.1))) else (some bt595.1))))
theorem spec_DrawIsArf.calls (k : Nat) (A0 : Option Addr) (c0 : Nat) (l0 : List Int) (r : List Int) (w : World) (hr0 : Kd.C (Kd.int .u8) w A0 l0.length l0) (hc0 : l0.length ≤ c0) (h : spec_DrawIsArf.f k l0 = some r) :
 Calls Try.prog 20 #[.slice A0 l0.length c0] w fun e w' => ∃ v0_ : Value, e = .returned (.agg #[v0_]) ∧ Kd.Q (Kd.int .i64) 3 w' w.heap.size (fun _ => True) v0_ r ∧ Below w.heap.size w w' := by
 have hu29 := Try.underlying29
 have HR0 := am_ hr0
 have HC0 := am_ hc0
 clear hr0 hc0
 have HB := am_ (Below.refl w.heap.size w)
 have H := h
 clear h
 unfold spec_DrawIsArf.f at H
 replace H := Option.bind_eq_some_iff.mp H
 obtain ⟨⟨t591, t592, t593⟩, A20, H⟩ := H
 (try dsimp only at H)
 have A2 := am_ A20
 clear A20
 replace H := Option.bind_eq_some_iff.mp H
 obtain ⟨⟨t595, t598, t599⟩, A30, H⟩ := H
 (try dsimp only at H)
 have A3 := am_ A30
 clear A30
 replace H := Option.bind_eq_some_iff.mp H
 obtain ⟨⟨t601, t602, t603⟩, A40, H⟩ := H
 (try dsimp only at H)
 have A4 := am_ A40
 clear A40
 by_cases c5 : t601 = true
 rotate_left
 ·obtain rfl := Bool.eq_false_iff.mpr c5
  rw [if_neg nf_] at H
  obtain rfl := Option.some.inj H
  go_enter Try.func20, Try.ntmps20
  go_wp2_with (first | ((with_reducible refine gate_dst (N := 2) rfl ?_); refine be_ 2 #[.slice none 0 0] 29 fun gb590 hg w47 hbox hb => ?_; have BK590 := am_ (hbox); have GW590 := ge_ hg HB; have GE590 := ge_ hg HB; replace HB := bs_ HB hb; clear hb hbox hg) | ((with_reducible refine gate_callee (f := 48) rfl ?_); refine gl_ 8 Try.func48 #[.slice A0 l0.length c0] ?_; (with_reducible refine (spec_l1New.calls k _ _ l0 t591 t592 t593 w _ ?side1 ?side2 ?side3 A2.out).mono ?_); (case side1 => exact bl_ HB.out); (case side2 => exact HR0.out); (case side3 => exact HC0.out); rintro e w48 ⟨g594, rfl, hi, hb, hb2⟩; refine ⟨_, rfl, ?_⟩; replace HB := am_ (hb); have HI594 := am_ (hi); have NB594_590 := am_ (IsS72.ne_blk hi (blk_below (bk_ BK590.out) hb2) (by decide)); have NB590_594 := am_ (Ne.symm (IsS72.ne_blk hi (blk_below (bk_ BK590.out) hb2) (by decide))); replace BK590 := am_ (blk_below (bk_ BK590.out) hb2); (try clear hb); (try clear hb2); (try clear hk); (try clear hi)) | ((with_reducible refine gate_callee (f := 47) rfl ?_); refine gl_ 10 Try.func47 #[.pointer (some ⟨g594, 0, none⟩)] ?_; (with_reducible refine (spec_l3Bent.calls k g594 t591 t592 t593 t595 t598 t599 w _ ?side1 ?side2 A3.out).mono ?_); (case side1 => exact hi_ HI594.out); (case side2 => exact bl_ HB.out); rintro e w49 ⟨v596, rfl, ho0, hi, hb, hk⟩; refine ⟨_, rfl, ?_⟩; replace BK590 := am_ (KeepBut.blk hk (g' := gb590) (o := .cells #[.slice none 0 0] 29 (0, 0)) (bk_ BK590.out) NB590_594.out (by simp)); have HO597 := am_ (Kd.Q_lower ho0 (below_size (bl_ HB.out))); replace HB := am_ (hb); replace HI594 := am_ (hi); (try clear hb); (try clear hb2); (try clear hk); (try clear hi); (try clear ho0)) | ((with_reducible refine gate_dst (N := 4) rfl ?_); refine be_ 4 #[.slice none 0 0] 29 fun gb600 hg w50 hbox hb => ?_; replace HO597 := qb_ HO597 hb; have BK600 := am_ (hbox); have GW600 := ge_ hg HB; have GE600 := ge_ hg HB; replace HB := bs_ HB hb; have NB590_600 := nl_ hg BK590; have NB600_590 := ng_ hg BK590; replace BK590 := bb_ BK590 hb; have NB594_600 := am_ ((by rw [hg]; exact Nat.ne_of_lt (IsS72.lt (show IsS72 w _ g594 t591 t598 t599 from hi_ HI594.out)) : g594 ≠ gb600)); have NB600_594 := am_ ((by rw [hg]; exact Nat.ne_of_gt (IsS72.lt (show IsS72 w _ g594 t591 t598 t599 from hi_ HI594.out)) : gb600 ≠ g594)); replace HI594 := am_ (IsS72.below (hi_ HI594.out) hb); clear hb hbox hg; obtain ⟨Ao51, co51, eo51, _⟩ := Kd.Q_slice HO597.out; subst eo51; have hnb52 := NB600_590.out; have hnc52 := NB590_600.out; have hnb53 := NB600_594.out; have hnc53 := NB594_600.out; have hcz54_0 := bc_ BK600; have hfz54_0 := blk_frozen BK600.out 0) | ((with_reducible refine gate_callee (f := 57) rfl ?_); refine gl_ 12 Try.func57 #[.pointer (some ⟨g594, 0, none⟩), .int .i64 2] ?_; (with_reducible refine (spec_l1Once.calls g594 t591 t598 t599 2 false t602 t603 w _ ?side1 ?side2 A4.out).mono ?_); (case side1 => exact hi_ HI594.out); (case side2 => exact bl_ HB.out); rintro e w55 ⟨rfl, hi, hb, hk⟩; refine ⟨_, rfl, ?_⟩; replace BK590 := am_ (KeepBut.blk hk (g' := gb590) (o := .cells #[.slice none 0 0] 29 (0, 0)) (bf_ BK590.out) NB590_594.out (by simp)); replace HO597 := am_ (Kd.Q_mono (Kd.Q_keep (IsS72.apartQ (show IsS72 w _ g594 t591 t598 t599 from hi_ HI594.out) (kq_ ((Kd.Q_mono (Kd.Q_far (p := ⟨gb600, 0, none⟩) (Kd.Q_types HO597.out BK600.out (by decide)) (fun _ hk => hk.2) (.slice Ao51 t595.length co51)) (fun _ h_ => h_.1)))) (by decide)) hk (fun _ h => h.2)) (fun _ h => h.1)); replace BK600 := am_ (KeepBut.blk hk (g' := gb600) (o := .cells #[.slice Ao51 t595.length co51] 29 (0, 0)) (by (with_reducible repeat (first | refine blk_drewN ?_ _ | refine blk_drew ?_ | refine blk_alloc ?_ _)); refine blk_put (cs := #[.slice none 0 0]) ?_ 0 _ rfl; (with_reducible repeat (first | refine blk_drewN ?_ _ | refine blk_drew ?_ | refine blk_alloc ?_ _)); exact BK600.out) NB600_594.out (by simp)); replace HB := am_ (hb); replace HI594 := am_ (hi); (try clear hb); (try clear hb2); (try clear hk); (try clear hi); have hcz56_0 := bc_ BK600; have hfz56_0 := blk_frozen BK600.out 0; have hnb57 := NB590_594.out; have hnc57 := NB594_590.out; have hcz58_0 := bc_ BK590; have hfz58_0 := blk_frozen BK590.out 0))
  refine bodyPost_ret (results_cell_row rfl _ _ gb590 29 #[.slice Ao51 t595.length co51] (0, 0) _ rfl (by (with_reducible repeat (first | refine blk_drewN ?_ _ | refine blk_drew ?_ | refine blk_alloc ?_ _)); refine blk_put (cs := #[.slice none 0 0]) ?_ 0 _ rfl; (with_reducible repeat (first | refine blk_drewN ?_ _ | refine blk_drew ?_ | refine blk_alloc ?_ _)); exact BK590.out) Try.underlying29 rfl (by kernel_rfl)) rfl ?_
  exact ⟨_, er_, kq_ (Kd.Q_mono (Kd.Q_far (p := ⟨gb590, 0, none⟩) (Kd.Q_types HO597.out BK590.out (by decide)) (fun _ hk => hk.2) (.slice Ao51 t595.length co51)) (fun _ hk => trivial)), bl_ HB.out⟩
 subst c5
 rw [if_pos rfl] at H
 replace H := Option.bind_eq_some_iff.mp H
 obtain ⟨⟨t604, t607⟩, A60, H⟩ := H
 (try dsimp only at H)
 have A6 := am_ A60
 clear A60
 by_cases c7 : t607 = true
 ·subst c7
  rw [if_pos rfl] at H
  obtain rfl := Option.some.inj H
  go_enter Try.func20, Try.ntmps20
  go_wp2_with (first | ((with_reducible refine gate_dst (N := 2) rfl ?_); refine be_ 2 #[.slice none 0 0] 29 fun gb590 hg w8 hbox hb => ?_; have BK590 := am_ (hbox); have GW590 := ge_ hg HB; have GE590 := ge_ hg HB; replace HB := bs_ HB hb; clear hb hbox hg) | ((with_reducible refine gate_callee (f := 48) rfl ?_); refine gl_ 8 Try.func48 #[.slice A0 l0.length c0] ?_; (with_reducible refine (spec_l1New.calls k _ _ l0 t591 t592 t593 w _ ?side1 ?side2 ?side3 A2.out).mono ?_); (case side1 => exact bl_ HB.out); (case side2 => exact HR0.out); (case side3 => exact HC0.out); rintro e w9 ⟨g594, rfl, hi, hb, hb2⟩; refine ⟨_, rfl, ?_⟩; replace HB := am_ (hb); have HI594 := am_ (hi); have NB594_590 := am_ (IsS72.ne_blk hi (blk_below (bk_ BK590.out) hb2) (by decide)); have NB590_594 := am_ (Ne.symm (IsS72.ne_blk hi (blk_below (bk_ BK590.out) hb2) (by decide))); replace BK590 := am_ (blk_below (bk_ BK590.out) hb2); (try clear hb); (try clear hb2); (try clear hk); (try clear hi)) | ((with_reducible refine gate_callee (f := 47) rfl ?_); refine gl_ 10 Try.func47 #[.pointer (some ⟨g594, 0, none⟩)] ?_; (with_reducible refine (spec_l3Bent.calls k g594 t591 t592 t593 t595 t598 t599 w _ ?side1 ?side2 A3.out).mono ?_); (case side1 => exact hi_ HI594.out); (case side2 => exact bl_ HB.out); rintro e w10 ⟨v596, rfl, ho0, hi, hb, hk⟩; refine ⟨_, rfl, ?_⟩; replace BK590 := am_ (KeepBut.blk hk (g' := gb590) (o := .cells #[.slice none 0 0] 29 (0, 0)) (bk_ BK590.out) NB590_594.out (by simp)); have HO597 := am_ (Kd.Q_lower ho0 (below_size (bl_ HB.out))); replace HB := am_ (hb); replace HI594 := am_ (hi); (try clear hb); (try clear hb2); (try clear hk); (try clear hi); (try clear ho0)) | ((with_reducible refine gate_dst (N := 4) rfl ?_); refine be_ 4 #[.slice none 0 0] 29 fun gb600 hg w11 hbox hb => ?_; replace HO597 := qb_ HO597 hb; have BK600 := am_ (hbox); have GW600 := ge_ hg HB; have GE600 := ge_ hg HB; replace HB := bs_ HB hb; have NB590_600 := nl_ hg BK590; have NB600_590 := ng_ hg BK590; replace BK590 := bb_ BK590 hb; have NB594_600 := am_ ((by rw [hg]; exact Nat.ne_of_lt (IsS72.lt (show IsS72 w _ g594 t591 t598 t599 from hi_ HI594.out)) : g594 ≠ gb600)); have NB600_594 := am_ ((by rw [hg]; exact Nat.ne_of_gt (IsS72.lt (show IsS72 w _ g594 t591 t598 t599 from hi_ HI594.out)) : gb600 ≠ g594)); replace HI594 := am_ (IsS72.below (hi_ HI594.out) hb); clear hb hbox hg; obtain ⟨Ao12, co12, eo12, _⟩ := Kd.Q_slice HO597.out; subst eo12; have hnb13 := NB600_590.out; have hnc13 := NB590_600.out; have hnb14 := NB600_594.out; have hnc14 := NB594_600.out; have hcz15_0 := bc_ BK600; have hfz15_0 := blk_frozen BK600.out 0) | ((with_reducible refine gate_callee (f := 57) rfl ?_); refine gl_ 12 Try.func57 #[.pointer (some ⟨g594, 0, none⟩), .int .i64 2] ?_; (with_reducible refine (spec_l1Once.calls g594 t591 t598 t599 2 true t602 t603 w _ ?side1 ?side2 A4.out).mono ?_); (case side1 => exact hi_ HI594.out); (case side2 => exact bl_ HB.out); rintro e w16 ⟨rfl, hi, hb, hk⟩; refine ⟨_, rfl, ?_⟩; replace BK590 := am_ (KeepBut.blk hk (g' := gb590) (o := .cells #[.slice none 0 0] 29 (0, 0)) (bf_ BK590.out) NB590_594.out (by simp)); replace HO597 := am_ (Kd.Q_mono (Kd.Q_keep (IsS72.apartQ (show IsS72 w _ g594 t591 t598 t599 from hi_ HI594.out) (kq_ ((Kd.Q_mono (Kd.Q_far (p := ⟨gb600, 0, none⟩) (Kd.Q_types HO597.out BK600.out (by decide)) (fun _ hk => hk.2) (.slice Ao12 t595.length co12)) (fun _ h_ => h_.1)))) (by decide)) hk (fun _ h => h.2)) (fun _ h => h.1)); replace BK600 := am_ (KeepBut.blk hk (g' := gb600) (o := .cells #[.slice Ao12 t595.length co12] 29 (0, 0)) (by (with_reducible repeat (first | refine blk_drewN ?_ _ | refine blk_drew ?_ | refine blk_alloc ?_ _)); refine blk_put (cs := #[.slice none 0 0]) ?_ 0 _ rfl; (with_reducible repeat (first | refine blk_drewN ?_ _ | refine blk_drew ?_ | refine blk_alloc ?_ _)); exact BK600.out) NB600_594.out (by simp)); replace HB := am_ (hb); replace HI594 := am_ (hi); (try clear hb); (try clear hb2); (try clear hk); (try clear hi); have hcz17_0 := bc_ BK600; have hfz17_0 := blk_frozen BK600.out 0) | ((with_reducible refine gate_callee (f := 19) rfl ?_); refine gl_ 15 Try.func19 #[.agg #[.slice Ao12 t595.length co12]] ?_; (with_reducible refine (spec_ArfClosure.calls k _ _ t595 t604 true _ ?side1 ?side2 A6.out).mono ?_); (case side1 => exact qs_ HO597); (case side2 => exact (Kd.Q_reads' HO597.out).2.1); rintro e w18 ⟨v605, rfl, ho0, hb⟩; refine ⟨_, rfl, ?_⟩; have HO606 := am_ (Kd.R_lower (Kd.R_new' ho0 (Kd.Q_lt (kq_ HO597.out))) (below_size (bl_ HB.out))); replace HO597 := am_ (Kd.Q_elder' (kq_ HO597.out) (Kd.R_base ho0) hb); replace BK590 := bb_ BK590 hb; replace HI594 := am_ (IsS72.below (hi_ HI594.out) hb); replace BK600 := bb_ BK600 hb; replace HB := bs_ HB hb; (try clear hb); (try clear hb2); (try clear hk); (try clear hi); (try clear ho0)) | ((with_reducible refine gate_dst (N := 5) rfl ?_); refine be_ 5 #[.slice none 0 0] 29 fun gb608 hg w19 hbox hb => ?_; replace HO597 := qb_ HO597 hb; replace HO606 := rb_ HO606 hb; have BK608 := am_ (hbox); have GW608 := ge_ hg HB; have GE608 := ge_ hg HB; replace HB := bs_ HB hb; have NB590_608 := nl_ hg BK590; have NB608_590 := ng_ hg BK590; replace BK590 := bb_ BK590 hb; have NB600_608 := nl_ hg BK600; have NB608_600 := ng_ hg BK600; replace BK600 := bb_ BK600 hb; have NB594_608 := am_ ((by rw [hg]; exact Nat.ne_of_lt (IsS72.lt (show IsS72 w _ g594 t591 t602 t603 from hi_ HI594.out)) : g594 ≠ gb608)); have NB608_594 := am_ ((by rw [hg]; exact Nat.ne_of_gt (IsS72.lt (show IsS72 w _ g594 t591 t602 t603 from hi_ HI594.out)) : gb608 ≠ g594)); replace HI594 := am_ (IsS72.below (hi_ HI594.out) hb); clear hb hbox hg; obtain ⟨Ao20, co20, eo20⟩ := Kd.R_slice HO606.out; subst eo20; have hnb21 := NB608_590.out; have hnc21 := NB590_608.out; have hnb22 := NB608_600.out; have hnc22 := NB600_608.out; have hnb23 := NB608_594.out; have hnc23 := NB594_608.out; have hcz24_0 := bc_ BK608; have hfz24_0 := blk_frozen BK608.out 0; have hnb25 := NB590_594.out; have hnc25 := NB594_590.out; have hcz26_0 := bc_ BK590; have hfz26_0 := blk_frozen BK590.out 0))
  refine bodyPost_ret (results_cell_row rfl _ _ gb590 29 #[.slice Ao20 t604.length co20] (0, 0) _ rfl (by (with_reducible repeat (first | refine blk_drewN ?_ _ | refine blk_drew ?_ | refine blk_alloc ?_ _)); refine blk_put (cs := #[.slice none 0 0]) ?_ 0 _ rfl; (with_reducible repeat (first | refine blk_drewN ?_ _ | refine blk_drew ?_ | refine blk_alloc ?_ _)); refine blk_far ?_ NB590_608.out _; (with_reducible repeat (first | refine blk_drewN ?_ _ | refine blk_drew ?_ | refine blk_alloc ?_ _)); exact BK590.out) Try.underlying29 rfl (by kernel_rfl)) rfl ?_
  exact ⟨_, er_, Kd.Q_of_R (kr_ (Kd.R_mono (Kd.R_far (p := ⟨gb590, 0, none⟩) (Kd.R_far (p := ⟨gb608, 0, none⟩) (Kd.R_types (Kd.R_types HO606.out BK608.out (by decide)) BK590.out (by decide)) (fun _ hk => hk.1.2) (.slice Ao20 t604.length co20)) (fun _ hk => hk.2) (.slice Ao20 t604.length co20)) (fun _ hk => trivial))), bl_ HB.out⟩
 obtain rfl := Bool.eq_false_iff.mpr c7
 rw [if_neg nf_] at H
 obtain rfl := Option.some.inj H
 go_enter Try.func20, Try.ntmps20
 go_wp2_with (first | ((with_reducible refine gate_dst (N := 2) rfl ?_); refine be_ 2 #[.slice none 0 0] 29 fun gb590 hg w27 hbox hb => ?_; have BK590 := am_ (hbox); have GW590 := ge_ hg HB; have GE590 := ge_ hg HB; replace HB := bs_ HB hb; clear hb hbox hg) | ((with_reducible refine gate_callee (f := 48) rfl ?_); refine gl_ 8 Try.func48 #[.slice A0 l0.length c0] ?_; (with_reducible refine (spec_l1New.calls k _ _ l0 t591 t592 t593 w _ ?side1 ?side2 ?side3 A2.out).mono ?_); (case side1 => exact bl_ HB.out); (case side2 => exact HR0.out); (case side3 => exact HC0.out); rintro e w28 ⟨g594, rfl, hi, hb, hb2⟩; refine ⟨_, rfl, ?_⟩; replace HB := am_ (hb); have HI594 := am_ (hi); have NB594_590 := am_ (IsS72.ne_blk hi (blk_below (bk_ BK590.out) hb2) (by decide)); have NB590_594 := am_ (Ne.symm (IsS72.ne_blk hi (blk_below (bk_ BK590.out) hb2) (by decide))); replace BK590 := am_ (blk_below (bk_ BK590.out) hb2); (try clear hb); (try clear hb2); (try clear hk); (try clear hi)) | ((with_reducible refine gate_callee (f := 47) rfl ?_); refine gl_ 10 Try.func47 #[.pointer (some ⟨g594, 0, none⟩)] ?_; (with_reducible refine (spec_l3Bent.calls k g594 t591 t592 t593 t595 t598 t599 w _ ?side1 ?side2 A3.out).mono ?_); (case side1 => exact hi_ HI594.out); (case side2 => exact bl_ HB.out); rintro e w29 ⟨v596, rfl, ho0, hi, hb, hk⟩; refine ⟨_, rfl, ?_⟩; replace BK590 := am_ (KeepBut.blk hk (g' := gb590) (o := .cells #[.slice none 0 0] 29 (0, 0)) (bk_ BK590.out) NB590_594.out (by simp)); have HO597 := am_ (Kd.Q_lower ho0 (below_size (bl_ HB.out))); replace HB := am_ (hb); replace HI594 := am_ (hi); (try clear hb); (try clear hb2); (try clear hk); (try clear hi); (try clear ho0)) | ((with_reducible refine gate_dst (N := 4) rfl ?_); refine be_ 4 #[.slice none 0 0] 29 fun gb600 hg w30 hbox hb => ?_; replace HO597 := qb_ HO597 hb; have BK600 := am_ (hbox); have GW600 := ge_ hg HB; have GE600 := ge_ hg HB; replace HB := bs_ HB hb; have NB590_600 := nl_ hg BK590; have NB600_590 := ng_ hg BK590; replace BK590 := bb_ BK590 hb; have NB594_600 := am_ ((by rw [hg]; exact Nat.ne_of_lt (IsS72.lt (show IsS72 w _ g594 t591 t598 t599 from hi_ HI594.out)) : g594 ≠ gb600)); have NB600_594 := am_ ((by rw [hg]; exact Nat.ne_of_gt (IsS72.lt (show IsS72 w _ g594 t591 t598 t599 from hi_ HI594.out)) : gb600 ≠ g594)); replace HI594 := am_ (IsS72.below (hi_ HI594.out) hb); clear hb hbox hg; obtain ⟨Ao31, co31, eo31, _⟩ := Kd.Q_slice HO597.out; subst eo31; have hnb32 := NB600_590.out; have hnc32 := NB590_600.out; have hnb33 := NB600_594.out; have hnc33 := NB594_600.out; have hcz34_0 := bc_ BK600; have hfz34_0 := blk_frozen BK600.out 0) | ((with_reducible refine gate_callee (f := 57) rfl ?_); refine gl_ 12 Try.func57 #[.pointer (some ⟨g594, 0, none⟩), .int .i64 2] ?_; (with_reducible refine (spec_l1Once.calls g594 t591 t598 t599 2 true t602 t603 w _ ?side1 ?side2 A4.out).mono ?_); (case side1 => exact hi_ HI594.out); (case side2 => exact bl_ HB.out); rintro e w35 ⟨rfl, hi, hb, hk⟩; refine ⟨_, rfl, ?_⟩; replace BK590 := am_ (KeepBut.blk hk (g' := gb590) (o := .cells #[.slice none 0 0] 29 (0, 0)) (bf_ BK590.out) NB590_594.out (by simp)); replace HO597 := am_ (Kd.Q_mono (Kd.Q_keep (IsS72.apartQ (show IsS72 w _ g594 t591 t598 t599 from hi_ HI594.out) (kq_ ((Kd.Q_mono (Kd.Q_far (p := ⟨gb600, 0, none⟩) (Kd.Q_types HO597.out BK600.out (by decide)) (fun _ hk => hk.2) (.slice Ao31 t595.length co31)) (fun _ h_ => h_.1)))) (by decide)) hk (fun _ h => h.2)) (fun _ h => h.1)); replace BK600 := am_ (KeepBut.blk hk (g' := gb600) (o := .cells #[.slice Ao31 t595.length co31] 29 (0, 0)) (by (with_reducible repeat (first | refine blk_drewN ?_ _ | refine blk_drew ?_ | refine blk_alloc ?_ _)); refine blk_put (cs := #[.slice none 0 0]) ?_ 0 _ rfl; (with_reducible repeat (first | refine blk_drewN ?_ _ | refine blk_drew ?_ | refine blk_alloc ?_ _)); exact BK600.out) NB600_594.out (by simp)); replace HB := am_ (hb); replace HI594 := am_ (hi); (try clear hb); (try clear hb2); (try clear hk); (try clear hi); have hcz36_0 := bc_ BK600; have hfz36_0 := blk_frozen BK600.out 0) | ((with_reducible refine gate_callee (f := 19) rfl ?_); refine gl_ 15 Try.func19 #[.agg #[.slice Ao31 t595.length co31]] ?_; (with_reducible refine (spec_ArfClosure.calls k _ _ t595 t604 false _ ?side1 ?side2 A6.out).mono ?_); (case side1 => exact qs_ HO597); (case side2 => exact (Kd.Q_reads' HO597.out).2.1); rintro e w37 ⟨v605, rfl, ho0, hb⟩; refine ⟨_, rfl, ?_⟩; have HO606 := am_ (Kd.R_lower (Kd.R_new' ho0 (Kd.Q_lt (kq_ HO597.out))) (below_size (bl_ HB.out))); replace HO597 := am_ (Kd.Q_elder' (kq_ HO597.out) (Kd.R_base ho0) hb); replace BK590 := bb_ BK590 hb; replace HI594 := am_ (IsS72.below (hi_ HI594.out) hb); replace BK600 := bb_ BK600 hb; replace HB := bs_ HB hb; (try clear hb); (try clear hb2); (try clear hk); (try clear hi); (try clear ho0)) | ((with_reducible refine gate_dst (N := 5) rfl ?_); refine be_ 5 #[.slice none 0 0] 29 fun gb608 hg w38 hbox hb => ?_; replace HO597 := qb_ HO597 hb; replace HO606 := rb_ HO606 hb; have BK608 := am_ (hbox); have GW608 := ge_ hg HB; have GE608 := ge_ hg HB; replace HB := bs_ HB hb; have NB590_608 := nl_ hg BK590; have NB608_590 := ng_ hg BK590; replace BK590 := bb_ BK590 hb; have NB600_608 := nl_ hg BK600; have NB608_600 := ng_ hg BK600; replace BK600 := bb_ BK600 hb; have NB594_608 := am_ ((by rw [hg]; exact Nat.ne_of_lt (IsS72.lt (show IsS72 w _ g594 t591 t602 t603 from hi_ HI594.out)) : g594 ≠ gb608)); have NB608_594 := am_ ((by rw [hg]; exact Nat.ne_of_gt (IsS72.lt (show IsS72 w _ g594 t591 t602 t603 from hi_ HI594.out)) : gb608 ≠ g594)); replace HI594 := am_ (IsS72.below (hi_ HI594.out) hb); clear hb hbox hg; obtain ⟨Ao39, co39, eo39⟩ := Kd.R_slice HO606.out; subst eo39; have hnb40 := NB608_590.out; have hnc40 := NB590_608.out; have hnb41 := NB608_600.out; have hnc41 := NB600_608.out; have hnb42 := NB608_594.out; have hnc42 := NB594_608.out; have hcz43_0 := bc_ BK608; have hfz43_0 := blk_frozen BK608.out 0; have hcz44_0 := bc_ BK600; have hfz44_0 := blk_frozen BK600.out 0; have hnb45 := NB590_594.out; have hnc45 := NB594_590.out; have hcz46_0 := bc_ BK590; have hfz46_0 := blk_frozen BK590.out 0))
 refine bodyPost_ret (results_cell_row rfl _ _ gb590 29 #[.slice Ao31 t595.length co31] (0, 0) _ rfl (by (with_reducible repeat (first | refine blk_drewN ?_ _ | refine blk_drew ?_ | refine blk_alloc ?_ _)); refine blk_put (cs := #[.slice none 0 0]) ?_ 0 _ rfl; (with_reducible repeat (first | refine blk_drewN ?_ _ | refine blk_drew ?_ | refine blk_alloc ?_ _)); refine blk_far ?_ NB590_608.out _; (with_reducible repeat (first | refine blk_drewN ?_ _ | refine blk_drew ?_ | refine blk_alloc ?_ _)); exact BK590.out) Try.underlying29 rfl (by kernel_rfl)) rfl ?_
 exact ⟨_, er_, kq_ (Kd.Q_mono (Kd.Q_far (p := ⟨gb590, 0, none⟩) (Kd.Q_far (p := ⟨gb608, 0, none⟩) (Kd.Q_types (Kd.Q_types HO597.out BK608.out (by decide)) BK590.out (by decide)) (fun _ hk => hk.1.2) (.slice Ao39 t604.length co39)) (fun _ hk => hk.2) (.slice Ao31 t595.length co31)) (fun _ hk => trivial)), bl_ HB.out⟩
def impl_FrobeniusOf.f (k : Nat) (l0_0 : List Int) : Option (Int) := (impl_Gaps.f k l0_0).bind fun t610 => (if (t610.length : Int) = 0 then (some (-1)) else (if 0 ≤ (wrap64 ((t610.length : Int) - 1)) then (if (wrap64 ((t610.length : Int) - 1)) < (t610.length : Int) then (some (rd t610 (wrap64 ((t610.length : Int) - 1)))) else (none)) else (none)))
theorem impl_FrobeniusOf.calls (k : Nat) (A0_0 : Option Addr) (c0_0 : Nat) (l0_0 : List Int) (r : Int) (w : World) (hr0_0 : Kd.C (Kd.int .i64) w A0_0 l0_0.length l0_0) (hc0_0 : l0_0.length ≤ c0_0) (h : impl_FrobeniusOf.f k l0_0 = some r) :
 Calls Try.prog 111 #[.agg #[.slice A0_0 l0_0.length c0_0]] w fun e w' => e = .returned (.int .i64 r) ∧ Below w.heap.size w w' := by
 have hu29 := Try.underlying29
 have HR0_0 := am_ hr0_0
 have HC0_0 := am_ hc0_0
 clear hr0_0 hc0_0
 have HB := am_ (Below.refl w.heap.size w)
 have H := h
 clear h
 unfold impl_FrobeniusOf.f at H
 obtain ⟨t610, A2, H⟩ := ob_ H
 (try dsimp only at H)
 by_cases c3 : (t610.length : Int) = 0
 ·rw [if_pos c3] at H
  have c3b0 : ((t610.length : Int) == 0) = true := beq_iff_eq.mpr c3
  have c3b1 : ((t610.length : Int) != 0) = false := bne_eq_false_iff_eq.mpr c3
  clear c3
  obtain rfl := Option.some.inj H
  go_enter Try.func111, Try.ntmps111
  go_wp2_with (first | ((with_reducible refine gate_dst (N := 1) rfl ?_); refine be_ 1 #[.slice A0_0 l0_0.length c0_0] 29 fun gb609 hg w4 hbox hb => ?_; have BK609 := am_ (hbox); have GW609 := ge_ hg HB; have GE609 := ge_ hg HB; replace HB := bs_ HB hb; clear hb hbox hg; have hcz5_0 := bc_ BK609; have hfz5_0 := blk_frozen BK609.out 0) | ((with_reducible refine gate_callee (f := 80) rfl ?_); refine gl_ 5 Try.func80 #[.agg #[.slice A0_0 l0_0.length c0_0]] ?_; (with_reducible refine (impl_Gaps.calls k _ _ l0_0 t610 _ ?side1 ?side2 A2.out).mono ?_); (case side1 => exact cs_ HR0_0 HB); (case side2 => exact HC0_0.out); rintro e w6 ⟨v611, rfl, ho0, hb⟩; refine ⟨_, rfl, ?_⟩; have HO612 := rl_ ho0 HB; replace BK609 := bb_ BK609 hb; replace HB := bs_ HB hb; (try clear hb); (try clear hb2); (try clear hk); (try clear hi); (try clear ho0); obtain ⟨Ao7, co7, eo7⟩ := Kd.R_slice HO612.out; subst eo7))
  go_ret
  exact ⟨er_, bl_ HB.out⟩
 rw [if_neg c3] at H
 have c3b0 : ((t610.length : Int) == 0) = false := beq_eq_false_iff_ne.mpr c3
 have c3b1 : ((t610.length : Int) != 0) = true := bne_iff_ne.mpr c3
 have c3b2 : ¬ (t610 = []) := fun h_ => c3 (by rw [h_]; rfl)
 obtain ⟨ji8, hji8⟩ : ∃ j_ : Int, (wrap64 ((t610.length : Int) - 1)) = j_ := ⟨_, rfl⟩
 replace H : (if 0 ≤ (ji8) then (if (ji8) < (t610.length : Int) then (some (rd t610 (ji8))) else (none)) else (none)) = some r := by first | (rw [hji8] at H; exact H) | (simp only [hji8] at H ⊢; exact H)
 (try rw [hji8] at A2)
 have hji8w : (IntKind.i64.wrap ((t610.length : Int) - 1)) = ji8 := (i64_w _).trans hji8
 by_cases c9 : 0 ≤ (ji8)
 ·rw [if_pos c9] at H
  have c9b0 := decide_eq_true c9
  clear c9
  by_cases c10 : (ji8) < (t610.length : Int)
  ·rw [if_pos c10] at H
   have c10b0 := decide_eq_true c10
   clear c10
   obtain rfl := Option.some.inj H
   go_enter Try.func111, Try.ntmps111
   go_wp2_with (first | ((with_reducible refine gate_dst (N := 1) rfl ?_); refine be_ 1 #[.slice A0_0 l0_0.length c0_0] 29 fun gb609 hg w11 hbox hb => ?_; have BK609 := am_ (hbox); have GW609 := ge_ hg HB; have GE609 := ge_ hg HB; replace HB := bs_ HB hb; clear hb hbox hg; have hcz12_0 := bc_ BK609; have hfz12_0 := blk_frozen BK609.out 0) | ((with_reducible refine gate_callee (f := 80) rfl ?_); refine gl_ 5 Try.func80 #[.agg #[.slice A0_0 l0_0.length c0_0]] ?_; (with_reducible refine (impl_Gaps.calls k _ _ l0_0 t610 _ ?side1 ?side2 A2.out).mono ?_); (case side1 => exact cs_ HR0_0 HB); (case side2 => exact HC0_0.out); rintro e w13 ⟨v611, rfl, ho0, hb⟩; refine ⟨_, rfl, ?_⟩; have HO612 := rl_ ho0 HB; replace BK609 := bb_ BK609 hb; replace HB := bs_ HB hb; (try clear hb); (try clear hb2); (try clear hk); (try clear hi); (try clear ho0); obtain ⟨Ao14, co14, eo14⟩ := Kd.R_slice HO612.out; subst eo14; obtain ⟨p613, q613, ad613, e613, hx613_0⟩ := ri_ (Kd.at_int (Kd.R_reads' HO612.out).2.2 (ji8)); cases e613))
   go_ret
   exact ⟨by first | rfl | (simp [errW_none, errW_some] <;> rfl) | (simp only [← hji8]; first | rfl | (simp [errW_none, errW_some] <;> rfl)) | (simp [*, errW_none, errW_some] <;> rfl), bl_ HB.out⟩
  rw [if_neg c10] at H
  exact absurd H (by simp)
 rw [if_neg c9] at H
 exact absurd H (by simp)
def impl_ConductorOf.f (k : Nat) (l0_0 : List Int) : Option (Int) := (impl_FrobeniusOf.f k l0_0).bind fun t615 => (some (wrap64 (t615 + 1)))
theorem impl_ConductorOf.calls (k : Nat) (A0_0 : Option Addr) (c0_0 : Nat) (l0_0 : List Int) (r : Int) (w : World) (hr0_0 : Kd.C (Kd.int .i64) w A0_0 l0_0.length l0_0) (hc0_0 : l0_0.length ≤ c0_0) (h : impl_ConductorOf.f k l0_0 = some r) :
 Calls Try.prog 103 #[.agg #[.slice A0_0 l0_0.length c0_0]] w fun e w' => e = .returned (.int .i64 r) ∧ Below w.heap.size w w' := by
 have hu29 := Try.underlying29
 have HR0_0 := am_ hr0_0
 have HC0_0 := am_ hc0_0
 clear hr0_0 hc0_0
 have HB := am_ (Below.refl w.heap.size w)
 have H := h
 clear h
 unfold impl_ConductorOf.f at H
 obtain ⟨t615, A2, H⟩ := ob_ H
 (try dsimp only at H)
 obtain rfl := Option.some.inj H
 go_enter Try.func103, Try.ntmps103
 go_wp2_with (first | ((with_reducible refine gate_dst (N := 1) rfl ?_); refine be_ 1 #[.slice A0_0 l0_0.length c0_0] 29 fun gb614 hg w3 hbox hb => ?_; have BK614 := am_ (hbox); have GW614 := ge_ hg HB; have GE614 := ge_ hg HB; replace HB := bs_ HB hb; clear hb hbox hg; have hcz4_0 := bc_ BK614; have hfz4_0 := blk_frozen BK614.out 0) | ((with_reducible refine gate_callee (f := 111) rfl ?_); refine gl_ 4 Try.func111 #[.agg #[.slice A0_0 l0_0.length c0_0]] ?_; (with_reducible refine (impl_FrobeniusOf.calls k _ _ l0_0 t615 _ ?side1 ?side2 A2.out).mono ?_); (case side1 => exact cs_ HR0_0 HB); (case side2 => exact HC0_0.out); rintro e w5 ⟨rfl, hb⟩; refine ⟨_, rfl, ?_⟩; replace BK614 := bb_ BK614 hb; replace HB := bs_ HB hb; (try clear hb); (try clear hb2); (try clear hk); (try clear hi)))
 go_ret
 exact ⟨er_, bl_ HB.out⟩
def impl_SmallElements.l0 : Nat → List Int → List Bool → Int → Int → Option (List Int)
 | 0, _, _, _, _ => none
 | k + 1, x3, x4, x13, x14 => if x14 < x13 then (if 0 ≤ x14 then (if x14 < (x4.length : Int) then (if rdOf false x4 x14 = true then (if x3.length < 17592186044416 then (impl_SmallElements.l0 k (x3 ++ [x14]) x4 x13 (wrap64 (x14 + 1))) else (none)) else (impl_SmallElements.l0 k x3 x4 x13 (wrap64 (x14 + 1)))) else (none)) else (none)) else (some x3)
def impl_SmallElements.f (k : Nat) (l0_0 : List Int) : Option (List Int) := (impl_IsSemigroup.f k l0_0).bind fun t617 => (if t617 = true then ((impl_table.f k l0_0 200).bind fun t621 => ((impl_ConductorOf.f k l0_0).bind fun t624 => (impl_SmallElements.l0 k (([] : List Int)) t621 t624 0))) else (some ([] : List Int)))
theorem impl_SmallElements.calls (k : Nat) (A0_0 : Option Addr) (c0_0 : Nat) (l0_0 : List Int) (r : List Int) (w : World) (hr0_0 : Kd.C (Kd.int .i64) w A0_0 l0_0.length l0_0) (hc0_0 : l0_0.length ≤ c0_0) (h : impl_SmallElements.f k l0_0 = some r) :
 Calls Try.prog 58 #[.agg #[.slice A0_0 l0_0.length c0_0]] w fun e w' => ∃ v0_ : Value, e = .returned (v0_) ∧ Kd.R (Kd.int .i64) 3 w' w.heap.size (fun _ => True) v0_ r ∧ Below w.heap.size w w' := by
 have hu29 := Try.underlying29
 have HR0_0 := am_ hr0_0
 have HC0_0 := am_ hc0_0
 clear hr0_0 hc0_0
 have HB := am_ (Below.refl w.heap.size w)
 have H := h
 clear h
 unfold impl_SmallElements.f at H
 obtain ⟨t617, A2, H⟩ := ob_ H
 (try dsimp only at H)
 by_cases c3 : t617 = true
 rotate_left
 ·obtain rfl := Bool.eq_false_iff.mpr c3
  rw [if_neg nf_] at H
  obtain rfl := Option.some.inj H
  go_enter Try.func58, Try.ntmps58
  go_wp2_with (first | ((with_reducible refine gate_dst (N := 1) rfl ?_); refine be_ 1 #[.slice A0_0 l0_0.length c0_0] 29 fun gb616 hg w24 hbox hb => ?_; have BK616 := am_ (hbox); have GW616 := ge_ hg HB; have GE616 := ge_ hg HB; replace HB := bs_ HB hb; clear hb hbox hg; have hcz25_0 := bc_ BK616; have hfz25_0 := blk_frozen BK616.out 0) | ((with_reducible refine gate_callee (f := 49) rfl ?_); refine gl_ 7 Try.func49 #[.agg #[.slice A0_0 l0_0.length c0_0]] ?_; (with_reducible refine (impl_IsSemigroup.calls k _ _ l0_0 false _ ?side1 ?side2 A2.out).mono ?_); (case side1 => exact cs_ HR0_0 HB); (case side2 => exact HC0_0.out); rintro e w26 ⟨rfl, hb⟩; refine ⟨_, rfl, ?_⟩; replace BK616 := bb_ BK616 hb; replace HB := bs_ HB hb; (try clear hb); (try clear hb2); (try clear hk); (try clear hi)))
  go_ret
  exact ⟨_, er_, by first | exact Kd.R_nil _ _ _ _ _ | exact Kd.N_nil _ _ _ _ _ | exact Kd.V_nil _ _ _ _ _ | exact Kd.Q_nil _ _ _ _ _ | exact Kd.S_nil _ _ _ _ _, bl_ HB.out⟩
 subst c3
 rw [if_pos rfl] at H
 obtain ⟨y618, hy618⟩ : ∃ y_ : List Int, y_ = (([] : List Int)) := ⟨_, rfl⟩
 replace H : ((impl_table.f k l0_0 200).bind fun t621 => ((impl_ConductorOf.f k l0_0).bind fun t624 => (impl_SmallElements.l0 k y618 t621 t624 0))) = some r := hr_ hy618 H
 have Ny618 := am_ hy618
 clear hy618
 obtain ⟨t621, A4, H⟩ := ob_ H
 (try dsimp only at H)
 obtain ⟨t624, A5, H⟩ := ob_ H
 (try dsimp only at H)
 have H' := am_ H
 clear H
 go_enter Try.func58, Try.ntmps58
 go_wp2_with (first | ((with_reducible refine gate_dst (N := 1) rfl ?_); refine be_ 1 #[.slice A0_0 l0_0.length c0_0] 29 fun gb616 hg w6 hbox hb => ?_; have BK616 := am_ (hbox); have GW616 := ge_ hg HB; have GE616 := ge_ hg HB; replace HB := bs_ HB hb; clear hb hbox hg; have hcz7_0 := bc_ BK616; have hfz7_0 := blk_frozen BK616.out 0) | ((with_reducible refine gate_callee (f := 49) rfl ?_); refine gl_ 7 Try.func49 #[.agg #[.slice A0_0 l0_0.length c0_0]] ?_; (with_reducible refine (impl_IsSemigroup.calls k _ _ l0_0 true _ ?side1 ?side2 A2.out).mono ?_); (case side1 => exact cs_ HR0_0 HB); (case side2 => exact HC0_0.out); rintro e w8 ⟨rfl, hb⟩; refine ⟨_, rfl, ?_⟩; replace BK616 := bb_ BK616 hb; replace HB := bs_ HB hb; (try clear hb); (try clear hb2); (try clear hk); (try clear hi)) | ((with_reducible refine gate_dst (N := 9) rfl ?_); refine Kd.R_lit (Kd.int .i64) _ 3 ?hg (N := 9) ?hd (xs := ([] : List Int)) (inner := []) (ok := fun _ => True) (okp := fun _ => True) ?hr ?hp (fun _ hk => hk) trivial (Below.refl _ _) (Nat.le_refl _) (by simp) ?_; (case hd => rfl); (case hg => rfl); (case hr => first | (go_simp; done) | (go_simp; rfl)); (case hp => exact (Reps.none _ _)); intro v619 w9 ho10 hb hg_ hnew_; clear hg_ hnew_; (first | rw [← Ny618.out] at ho10 | (simp only [Int.reduceToNat] at ho10; rw [← Ny618.out] at ho10)); have HO620 := rl_ ho10 HB; replace BK616 := bb_ BK616 hb; replace HB := bs_ HB hb; clear hb ho10; have hcz11_0 := bc_ BK616; have hfz11_0 := blk_frozen BK616.out 0) | ((with_reducible refine gate_callee (f := 50) rfl ?_); refine gl_ 11 Try.func50 #[.agg #[.slice A0_0 l0_0.length c0_0], .int .i64 200] ?_; (with_reducible refine (impl_table.calls k _ _ l0_0 200 t621 _ ?side1 ?side2 A4.out).mono ?_); (case side1 => exact cs_ HR0_0 HB); (case side2 => exact HC0_0.out); rintro e w12 ⟨v622, rfl, ho0, hb⟩; refine ⟨_, rfl, ?_⟩; replace HO620 := rb_ HO620 hb; have HO623 := rl_ ho0 HB; replace BK616 := bb_ BK616 hb; replace HB := bs_ HB hb; (try clear hb); (try clear hb2); (try clear hk); (try clear hi); (try clear ho0); have hcz13_0 := bc_ BK616; have hfz13_0 := blk_frozen BK616.out 0) | ((with_reducible refine gate_callee (f := 103) rfl ?_); refine gl_ 13 Try.func103 #[.agg #[.slice A0_0 l0_0.length c0_0]] ?_; (with_reducible refine (impl_ConductorOf.calls k _ _ l0_0 t624 _ ?side1 ?side2 A5.out).mono ?_); (case side1 => exact cs_ HR0_0 HB); (case side2 => exact HC0_0.out); rintro e w14 ⟨rfl, hb⟩; refine ⟨_, rfl, ?_⟩; replace HO620 := rb_ HO620 hb; replace HO623 := rb_ HO623 hb; replace BK616 := bb_ BK616 hb; replace HB := bs_ HB hb; (try clear hb); (try clear hb2); (try clear hk); (try clear hi)))
 go_loopg [3, 14] k (fun kq v3 v14 w' => ∃ (x3_1 : List Int) (x14_1 : Int), v14 = .int .i64 x14_1 ∧ Aside0 (impl_SmallElements.l0 kq x3_1 t621 t624 x14_1 = some r) ∧ Aside0 (kq ≤ k) ∧ Aside0 (Kd.R (Kd.int .i64) 3 w' w.heap.size (fun _ => True) v3 x3_1) ∧ Aside0 (Kd.R Kd.bool 4 w' w.heap.size (fun _ => True) v622 t621) ∧ Aside0 (w'.heap[gb616]? = some (.cells #[(.slice A0_0 l0_0.length c0_0)] 29 (0, 0))) ∧ Aside0 (Below w.heap.size w w'))
 case atStart => exact ⟨(y618), (0), sd_, H', ⟨Nat.le_refl _⟩, ⟨kr_ HO620.out⟩, ⟨kr_ HO623.out⟩, ⟨bk_ BK616.out⟩, ⟨bl_ HB.out⟩⟩
 case round =>
  clear H'
  try clear c1
  try clear p2
  try clear c3
  try clear c4
  try clear c5
  try clear c10
  try clear hcz11_0
  try clear hcz13_0
  try clear hcz7_0
  try clear hfz11_0
  try clear hfz13_0
  try clear hfz7_0
  obtain ⟨x3_1, x14_1, rfl, HA, HK1, HO_3, HO_4, BK616, HB⟩ := hrel
  cases gk with
  | zero => exact absurd HA.out (by simp [impl_SmallElements.l0])
  | succ k1 =>
   have H := HA.out
   clear HA
   simp only [impl_SmallElements.l0] at H
   by_cases c15 : x14_1 < t624
   rotate_left
   ·rw [if_neg c15] at H
    have c15b0 : decide (x14_1 < t624) = false := decide_eq_false c15
    clear c15
    obtain rfl := Option.some.inj H
    go_wp2
    go_ret
    exact ⟨_, er_, kr_ HO_3.out, bl_ HB.out⟩
   rw [if_pos c15] at H
   have c15b0 := decide_eq_true c15
   clear c15
   obtain ⟨c16, H⟩ := in_ H
   have c16b0 := decide_eq_true c16
   clear c16
   obtain ⟨c17, H⟩ := in_ H
   have c17b0 := decide_eq_true c17
   clear c17
   obtain ⟨bq18, hbq18⟩ : ∃ b_ : Bool, b_ = (rdOf false t621 x14_1) := ⟨_, rfl⟩
   replace H : (if bq18 = true then (if x3_1.length < 17592186044416 then (impl_SmallElements.l0 k1 (x3_1 ++ [x14_1]) t621 t624 (wrap64 (x14_1 + 1))) else (none)) else (impl_SmallElements.l0 k1 x3_1 t621 t624 (wrap64 (x14_1 + 1)))) = some r := by rw [← hbq18] at H; exact H
   have Nbq18 := am_ hbq18
   clear hbq18
   by_cases c19 : bq18 = true
   ·subst c19
    rw [if_pos rfl] at H
    obtain ⟨c20, H⟩ := in_ H
    have LMc20 := am_ c20
    clear c20
    obtain ⟨y626, hy626⟩ : ∃ y_ : List Int, y_ = (x3_1 ++ [x14_1]) := ⟨_, rfl⟩
    replace H : (impl_SmallElements.l0 k1 y626 t621 t624 (wrap64 (x14_1 + 1))) = some r := hr_ hy626 H
    have Ny626 := am_ hy626
    clear hy626
    have H' := am_ H
    clear H
    obtain ⟨Ao21, co21, eo21⟩ := Kd.R_slice HO_4.out
    subst eo21
    obtain ⟨p625, q625, ad625, e625, hx625_0⟩ := ri_ (Kd.at_bool (Kd.R_reads' HO_4.out).2.2 x14_1)
    (try rw [← Nbq18.out] at hx625_0)
    cases e625
    go_wp2_with (first | ((with_reducible refine gate_builtin (b := .append) (xs := #[.tmp 21, .tmp 23]) rfl ?_); at_builtin; refine Kd.R_append (Kd.int .i64) (w0 := w) w.heap.size rfl (.tmp 21) (.tmp 23) 22 3 (.int .i64 0) 8 rfl Try.underlying22 info3 rfl (by decide) (by omega) u3 x3_1 x14_1 [.int .i64 x14_1] (fun _ => True) (fun _ => False) rfl rfl ?aP (fun _ hk => hk.elim) ?aF ?aO ?aB ?aS ?aL ?_; (case aP => exact rfl); (case aB => exact (bl_ HB.out)); (case aF => exact (fun _ _ => trivial)); (case aO => exact (kr_ HO_3.out)); (case aS => exact (below_size (bl_ HB.out))); (case aL => have := LMc20.out; omega); intro v627 w22 ho hb hg hat; rw [← Ny626.out] at ho; have n0_ := am_ (Kd.R_over' (kr_ HO_4.out) (Kd.R_typed (kr_ HO_3.out)) (by decide) hg); have n1_ := am_ (blk_grown (g := gb616) (o := .cells #[.slice A0_0 l0_0.length c0_0] 29 (0, 0)) (bk_ BK616.out) hg (Kd.R_ne HO_3.out BK616.out (by decide))); have n2_ := am_ (hb); have n3_ := am_ (ho); clear HO_4; clear BK616; clear HB; clear HO_3; have HO_4 := n0_; have BK616 := n1_; have HB := n2_; have HO628 := n3_; clear n0_ n1_ n2_ n3_; clear ho hb hg hat))
    go_roundg k1
    case measure => have := HK1.out; omega
    case rel => exact ⟨(y626), (wrap64 (x14_1 + 1)), sd_, H', ⟨by have := HK1.out; omega⟩, ⟨kr_ HO628.out⟩, ⟨kr_ HO_4.out⟩, ⟨bk_ BK616.out⟩, ⟨bl_ HB.out⟩⟩
   obtain rfl := Bool.eq_false_iff.mpr c19
   rw [if_neg nf_] at H
   have H' := am_ H
   clear H
   obtain ⟨Ao23, co23, eo23⟩ := Kd.R_slice HO_4.out
   subst eo23
   obtain ⟨p625, q625, ad625, e625, hx625_0⟩ := ri_ (Kd.at_bool (Kd.R_reads' HO_4.out).2.2 x14_1)
   (try rw [← Nbq18.out] at hx625_0)
   cases e625
   go_wp2
   go_roundg k1
   case measure => have := HK1.out; omega
   case rel => exact ⟨(x3_1), (wrap64 (x14_1 + 1)), sd_, H', ⟨by have := HK1.out; omega⟩, ⟨kr_ HO_3.out⟩, ⟨kr_ HO_4.out⟩, ⟨bk_ BK616.out⟩, ⟨bl_ HB.out⟩⟩
end Go.Proofs.Ytddgegejeoihaaa.PFnArf
end
