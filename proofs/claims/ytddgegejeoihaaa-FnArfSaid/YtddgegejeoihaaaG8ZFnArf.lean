/- Part 8 of the claim for FnArf, of the chain from the printed contracts and the plain laws to the row. It has no condition of its own. -/
import Derived.Test.YtddgegejeoihaaaG1ZFnArf
import Derived.Test.YtddgegejeoihaaaG2ZFnArf
import Derived.Test.YtddgegejeoihaaaG3ZFnArf
section
namespace Go.Proofs.Ytddgegejeoihaaa.PFnArf
open Go.RowKit Go.Proofs.YtddgegejeoihaaaW.PrintWords Go.Proofs.YtddgegejeoihaaaW.PrintLast Go.Proofs.YtddgegejeoihaaaW.PrintMore
open Go.Proofs.Ytddgegejeoihaaa.SortW (bk_ kr_ t_ f_)
open Go.Proofs.Ytddgegejeoihaaa.SqW
attribute [local go_sem] max2_int min2_int max_two min_two max_three min_three max_four min_four
set_option maxHeartbeats 8000000
set_option maxRecDepth 100000
set_option linter.unusedVariables false
set_option linter.unusedSimpArgs false
def spec_l4Gaps.l0 : Nat → List Int → List Bool → Int → Option (List Int)
 | 0, _, _, _ => none
 | k + 1, x3, x4, x5 => if x5 < 200 then (if 0 ≤ x5 then (if x5 < (x4.length : Int) then (if rdOf false x4 x5 = true then (spec_l4Gaps.l0 k x3 x4 (wrap64 (x5 + 1))) else (if x3.length < 17592186044416 then (spec_l4Gaps.l0 k (x3 ++ [x5]) x4 (wrap64 (x5 + 1))) else (none))) else (none)) else (none)) else (some x3)
def spec_l4Gaps.f (k : Nat) (l0_0 : List Int) : Option (List Int) := (spec_l3Table.f k l0_0 200).bind fun t501 => (spec_l4Gaps.l0 k (([] : List Int)) t501 1)
theorem spec_l4Gaps.calls (k : Nat) (A0_0 : Option Addr) (c0_0 : Nat) (l0_0 : List Int) (r : List Int) (w : World) (hr0_0 : Kd.C (Kd.int .i64) w A0_0 l0_0.length l0_0) (hc0_0 : l0_0.length ≤ c0_0) (h : spec_l4Gaps.f k l0_0 = some r) :
 Calls Try.prog 53 #[.agg #[.slice A0_0 l0_0.length c0_0]] w fun e w' => ∃ v0_ : Value, e = .returned (v0_) ∧ Kd.R (Kd.int .i64) 3 w' w.heap.size (fun _ => True) v0_ r ∧ Below w.heap.size w w' := by
 have hu29 := Try.underlying29
 have HR0_0 := am_ hr0_0
 have HC0_0 := am_ hc0_0
 clear hr0_0 hc0_0
 have HB := am_ (Below.refl w.heap.size w)
 have H := h
 clear h
 unfold spec_l4Gaps.f at H
 obtain ⟨y498, hy498⟩ : ∃ y_ : List Int, y_ = (([] : List Int)) := ⟨_, rfl⟩
 replace H : ((spec_l3Table.f k l0_0 200).bind fun t501 => (spec_l4Gaps.l0 k y498 t501 1)) = some r := hr_ hy498 H
 have Ny498 := am_ hy498
 clear hy498
 obtain ⟨t501, A2, H⟩ := ob_ H
 (try dsimp only at H)
 have H' := am_ H
 clear H
 go_enter Try.func53, Try.ntmps53
 go_wp2_with (first | ((with_reducible refine gate_dst (N := 1) rfl ?_); refine be_ 1 #[.slice A0_0 l0_0.length c0_0] 29 fun gb497 hg w3 hbox hb => ?_; have BK497 := am_ (hbox); have GW497 := ge_ hg HB; have GE497 := ge_ hg HB; replace HB := bs_ HB hb; clear hb hbox hg) | ((with_reducible refine gate_dst (N := 6) rfl ?_); refine Kd.R_lit (Kd.int .i64) _ 3 ?hg (N := 6) ?hd (xs := ([] : List Int)) (inner := []) (ok := fun _ => True) (okp := fun _ => True) ?hr ?hp (fun _ hk => hk) trivial (Below.refl _ _) (Nat.le_refl _) (by simp) ?_; (case hd => rfl); (case hg => rfl); (case hr => first | (go_simp; done) | (go_simp; rfl)); (case hp => exact (Reps.none _ _)); intro v499 w4 ho5 hb hg_ hnew_; clear hg_ hnew_; (first | rw [← Ny498.out] at ho5 | (simp only [Int.reduceToNat] at ho5; rw [← Ny498.out] at ho5)); have HO500 := rl_ ho5 HB; replace BK497 := bb_ BK497 hb; replace HB := bs_ HB hb; clear hb ho5; have hcz6_0 := bc_ BK497; have hfz6_0 := blk_frozen BK497.out 0) | ((with_reducible refine gate_callee (f := 99) rfl ?_); refine gl_ 9 Try.func99 #[.slice A0_0 l0_0.length c0_0, .int .i64 200] ?_; (with_reducible refine (spec_l3Table.calls k _ _ l0_0 200 t501 _ ?side1 ?side2 A2.out).mono ?_); (case side1 => exact cs_ HR0_0 HB); (case side2 => exact HC0_0.out); rintro e w7 ⟨v502, rfl, ho0, hb⟩; refine ⟨_, rfl, ?_⟩; replace HO500 := rb_ HO500 hb; have HO503 := rl_ ho0 HB; replace BK497 := bb_ BK497 hb; replace HB := bs_ HB hb; (try clear hb); (try clear hb2); (try clear hk); (try clear hi); (try clear ho0)))
 go_loopg [3, 5] k (fun kq v3 v5 w' => ∃ (x3_1 : List Int) (x5_1 : Int), v5 = .int .i64 x5_1 ∧ Aside0 (spec_l4Gaps.l0 kq x3_1 t501 x5_1 = some r) ∧ Aside0 (kq ≤ k) ∧ Aside0 (Kd.R (Kd.int .i64) 3 w' w.heap.size (fun _ => True) v3 x3_1) ∧ Aside0 (Kd.R Kd.bool 4 w' w.heap.size (fun _ => True) v502 t501) ∧ Aside0 (w'.heap[gb497]? = some (.cells #[(.slice A0_0 l0_0.length c0_0)] 29 (0, 0))) ∧ Aside0 (Below w.heap.size w w'))
 case atStart => exact ⟨(y498), (1), sd_, H', ⟨Nat.le_refl _⟩, ⟨kr_ HO500.out⟩, ⟨kr_ HO503.out⟩, ⟨bk_ BK497.out⟩, ⟨bl_ HB.out⟩⟩
 case round =>
  clear H'
  try clear p2
  try clear c5
  try clear hcz6_0
  try clear hfz6_0
  obtain ⟨x3_1, x5_1, rfl, HA, HK1, HO_3, HO_4, BK497, HB⟩ := hrel
  cases gk with
  | zero => exact absurd HA.out (by simp [spec_l4Gaps.l0])
  | succ k1 =>
   have H := HA.out
   clear HA
   simp only [spec_l4Gaps.l0] at H
   by_cases c8 : x5_1 < 200
   rotate_left
   ·rw [if_neg c8] at H
    have c8b0 : decide (x5_1 < 200) = false := decide_eq_false c8
    clear c8
    obtain rfl := Option.some.inj H
    go_wp2
    go_ret
    exact ⟨_, er_, kr_ HO_3.out, bl_ HB.out⟩
   rw [if_pos c8] at H
   have c8b0 := decide_eq_true c8
   clear c8
   obtain ⟨c9, H⟩ := in_ H
   have c9b0 := decide_eq_true c9
   clear c9
   obtain ⟨c10, H⟩ := in_ H
   have c10b0 := decide_eq_true c10
   clear c10
   obtain ⟨bq11, hbq11⟩ : ∃ b_ : Bool, b_ = (rdOf false t501 x5_1) := ⟨_, rfl⟩
   replace H : (if bq11 = true then (spec_l4Gaps.l0 k1 x3_1 t501 (wrap64 (x5_1 + 1))) else (if x3_1.length < 17592186044416 then (spec_l4Gaps.l0 k1 (x3_1 ++ [x5_1]) t501 (wrap64 (x5_1 + 1))) else (none))) = some r := by rw [← hbq11] at H; exact H
   have Nbq11 := am_ hbq11
   clear hbq11
   by_cases c12 : bq11 = true
   ·subst c12
    rw [if_pos rfl] at H
    have H' := am_ H
    clear H
    obtain ⟨Ao13, co13, eo13⟩ := Kd.R_slice HO_4.out
    subst eo13
    obtain ⟨p504, q504, ad504, e504, hx504_0⟩ := ri_ (Kd.at_bool (Kd.R_reads' HO_4.out).2.2 x5_1)
    (try rw [← Nbq11.out] at hx504_0)
    cases e504
    go_wp2
    go_roundg k1
    case measure => have := HK1.out; omega
    case rel => exact ⟨(x3_1), (wrap64 (x5_1 + 1)), sd_, H', ⟨by have := HK1.out; omega⟩, ⟨kr_ HO_3.out⟩, ⟨kr_ HO_4.out⟩, ⟨bk_ BK497.out⟩, ⟨bl_ HB.out⟩⟩
   obtain rfl := Bool.eq_false_iff.mpr c12
   rw [if_neg nf_] at H
   obtain ⟨c14, H⟩ := in_ H
   have LMc14 := am_ c14
   clear c14
   obtain ⟨y505, hy505⟩ : ∃ y_ : List Int, y_ = (x3_1 ++ [x5_1]) := ⟨_, rfl⟩
   replace H : (spec_l4Gaps.l0 k1 y505 t501 (wrap64 (x5_1 + 1))) = some r := hr_ hy505 H
   have Ny505 := am_ hy505
   clear hy505
   have H' := am_ H
   clear H
   obtain ⟨Ao15, co15, eo15⟩ := Kd.R_slice HO_4.out
   subst eo15
   obtain ⟨p504, q504, ad504, e504, hx504_0⟩ := ri_ (Kd.at_bool (Kd.R_reads' HO_4.out).2.2 x5_1)
   (try rw [← Nbq11.out] at hx504_0)
   cases e504
   go_wp2_with (first | ((with_reducible refine gate_builtin (b := .append) (xs := #[.tmp 19, .tmp 21]) rfl ?_); at_builtin; refine Kd.R_append (Kd.int .i64) (w0 := w) w.heap.size rfl (.tmp 19) (.tmp 21) 22 3 (.int .i64 0) 8 rfl Try.underlying22 info3 rfl (by decide) (by omega) u3 x3_1 x5_1 [.int .i64 x5_1] (fun _ => True) (fun _ => False) rfl rfl ?aP (fun _ hk => hk.elim) ?aF ?aO ?aB ?aS ?aL ?_; (case aP => exact rfl); (case aB => exact (bl_ HB.out)); (case aF => exact (fun _ _ => trivial)); (case aO => exact (kr_ HO_3.out)); (case aS => exact (below_size (bl_ HB.out))); (case aL => have := LMc14.out; omega); intro v506 w16 ho hb hg hat; rw [← Ny505.out] at ho; have n0_ := am_ (Kd.R_over' (kr_ HO_4.out) (Kd.R_typed (kr_ HO_3.out)) (by decide) hg); have n1_ := am_ (blk_grown (g := gb497) (o := .cells #[.slice A0_0 l0_0.length c0_0] 29 (0, 0)) (bk_ BK497.out) hg (Kd.R_ne HO_3.out BK497.out (by decide))); have n2_ := am_ (hb); have n3_ := am_ (ho); clear HO_4; clear BK497; clear HB; clear HO_3; have HO_4 := n0_; have BK497 := n1_; have HB := n2_; have HO507 := n3_; clear n0_ n1_ n2_ n3_; clear ho hb hg hat))
   go_roundg k1
   case measure => have := HK1.out; omega
   case rel => exact ⟨(y505), (wrap64 (x5_1 + 1)), sd_, H', ⟨by have := HK1.out; omega⟩, ⟨kr_ HO507.out⟩, ⟨kr_ HO_4.out⟩, ⟨bk_ BK497.out⟩, ⟨bl_ HB.out⟩⟩
def spec_Gaps.f (k : Nat) (l0_0 : List Int) : Option (List Int) := (spec_IsSemigroup.f k l0_0).bind fun t509 => (if t509 = true then ((spec_l4Gaps.f k l0_0).bind fun t510 => (some t510)) else (some (([] : List Int))))
theorem spec_Gaps.calls (k : Nat) (A0_0 : Option Addr) (c0_0 : Nat) (l0_0 : List Int) (r : List Int) (w : World) (hr0_0 : Kd.C (Kd.int .i64) w A0_0 l0_0.length l0_0) (hc0_0 : l0_0.length ≤ c0_0) (h : spec_Gaps.f k l0_0 = some r) :
 Calls Try.prog 125 #[.agg #[.slice A0_0 l0_0.length c0_0]] w fun e w' => ∃ v0_ : Value, e = .returned (v0_) ∧ Kd.R (Kd.int .i64) 3 w' w.heap.size (fun _ => True) v0_ r ∧ Below w.heap.size w w' := by
 have hu29 := Try.underlying29
 have HR0_0 := am_ hr0_0
 have HC0_0 := am_ hc0_0
 clear hr0_0 hc0_0
 have HB := am_ (Below.refl w.heap.size w)
 have H := h
 clear h
 unfold spec_Gaps.f at H
 obtain ⟨t509, A2, H⟩ := ob_ H
 (try dsimp only at H)
 by_cases c3 : t509 = true
 ·subst c3
  rw [if_pos rfl] at H
  obtain ⟨t510, A4, H⟩ := ob_ H
  (try dsimp only at H)
  obtain rfl := Option.some.inj H
  go_enter Try.func125, Try.ntmps125
  go_wp2_with (first | ((with_reducible refine gate_dst (N := 1) rfl ?_); refine be_ 1 #[.slice A0_0 l0_0.length c0_0] 29 fun gb508 hg w5 hbox hb => ?_; have BK508 := am_ (hbox); have GW508 := ge_ hg HB; have GE508 := ge_ hg HB; replace HB := bs_ HB hb; clear hb hbox hg; have hcz6_0 := bc_ BK508; have hfz6_0 := blk_frozen BK508.out 0) | ((with_reducible refine gate_callee (f := 52) rfl ?_); refine gl_ 4 Try.func52 #[.agg #[.slice A0_0 l0_0.length c0_0]] ?_; (with_reducible refine (spec_IsSemigroup.calls k _ _ l0_0 true _ ?side1 ?side2 A2.out).mono ?_); (case side1 => exact cs_ HR0_0 HB); (case side2 => exact HC0_0.out); rintro e w7 ⟨rfl, hb⟩; refine ⟨_, rfl, ?_⟩; replace BK508 := bb_ BK508 hb; replace HB := bs_ HB hb; (try clear hb); (try clear hb2); (try clear hk); (try clear hi); have hcz8_0 := bc_ BK508; have hfz8_0 := blk_frozen BK508.out 0) | ((with_reducible refine gate_callee (f := 53) rfl ?_); refine gl_ 8 Try.func53 #[.agg #[.slice A0_0 l0_0.length c0_0]] ?_; (with_reducible refine (spec_l4Gaps.calls k _ _ l0_0 t510 _ ?side1 ?side2 A4.out).mono ?_); (case side1 => exact cs_ HR0_0 HB); (case side2 => exact HC0_0.out); rintro e w9 ⟨v511, rfl, ho0, hb⟩; refine ⟨_, rfl, ?_⟩; have HO512 := rl_ ho0 HB; replace BK508 := bb_ BK508 hb; replace HB := bs_ HB hb; (try clear hb); (try clear hb2); (try clear hk); (try clear hi); (try clear ho0)))
  go_ret
  exact ⟨_, er_, kr_ HO512.out, bl_ HB.out⟩
 obtain rfl := Bool.eq_false_iff.mpr c3
 rw [if_neg nf_] at H
 obtain ⟨y513, hy513⟩ : ∃ y_ : List Int, y_ = (([] : List Int)) := ⟨_, rfl⟩
 replace H : (some y513) = some r := hr_ hy513 H
 have Ny513 := am_ hy513
 clear hy513
 obtain rfl := Option.some.inj H
 go_enter Try.func125, Try.ntmps125
 go_wp2_with (first | ((with_reducible refine gate_dst (N := 1) rfl ?_); refine be_ 1 #[.slice A0_0 l0_0.length c0_0] 29 fun gb508 hg w10 hbox hb => ?_; have BK508 := am_ (hbox); have GW508 := ge_ hg HB; have GE508 := ge_ hg HB; replace HB := bs_ HB hb; clear hb hbox hg; have hcz11_0 := bc_ BK508; have hfz11_0 := blk_frozen BK508.out 0) | ((with_reducible refine gate_callee (f := 52) rfl ?_); refine gl_ 4 Try.func52 #[.agg #[.slice A0_0 l0_0.length c0_0]] ?_; (with_reducible refine (spec_IsSemigroup.calls k _ _ l0_0 false _ ?side1 ?side2 A2.out).mono ?_); (case side1 => exact cs_ HR0_0 HB); (case side2 => exact HC0_0.out); rintro e w12 ⟨rfl, hb⟩; refine ⟨_, rfl, ?_⟩; replace BK508 := bb_ BK508 hb; replace HB := bs_ HB hb; (try clear hb); (try clear hb2); (try clear hk); (try clear hi)) | ((with_reducible refine gate_dst (N := 6) rfl ?_); refine Kd.R_lit (Kd.int .i64) _ 3 ?hg (N := 6) ?hd (xs := ([] : List Int)) (inner := []) (ok := fun _ => True) (okp := fun _ => True) ?hr ?hp (fun _ hk => hk) trivial (Below.refl _ _) (Nat.le_refl _) (by simp) ?_; (case hd => rfl); (case hg => rfl); (case hr => first | (go_simp; done) | (go_simp; rfl)); (case hp => exact (Reps.none _ _)); intro v514 w13 ho14 hb hg_ hnew_; clear hg_ hnew_; (first | rw [← Ny513.out] at ho14 | (simp only [Int.reduceToNat] at ho14; rw [← Ny513.out] at ho14)); have HO515 := rl_ ho14 HB; replace BK508 := bb_ BK508 hb; replace HB := bs_ HB hb; clear hb ho14))
 go_ret
 exact ⟨_, er_, kr_ HO515.out, bl_ HB.out⟩
def spec_FrobeniusOf.f (k : Nat) (l0_0 : List Int) : Option (Int) := (spec_Gaps.f k l0_0).bind fun t517 => (if (t517.length : Int) = 0 then (some (-1)) else (if 0 ≤ (wrap64 ((t517.length : Int) - 1)) then (if (wrap64 ((t517.length : Int) - 1)) < (t517.length : Int) then (some (rd t517 (wrap64 ((t517.length : Int) - 1)))) else (none)) else (none)))
theorem spec_FrobeniusOf.calls (k : Nat) (A0_0 : Option Addr) (c0_0 : Nat) (l0_0 : List Int) (r : Int) (w : World) (hr0_0 : Kd.C (Kd.int .i64) w A0_0 l0_0.length l0_0) (hc0_0 : l0_0.length ≤ c0_0) (h : spec_FrobeniusOf.f k l0_0 = some r) :
 Calls Try.prog 100 #[.agg #[.slice A0_0 l0_0.length c0_0]] w fun e w' => e = .returned (.int .i64 r) ∧ Below w.heap.size w w' := by
 have hu29 := Try.underlying29
 have HR0_0 := am_ hr0_0
 have HC0_0 := am_ hc0_0
 clear hr0_0 hc0_0
 have HB := am_ (Below.refl w.heap.size w)
 have H := h
 clear h
 unfold spec_FrobeniusOf.f at H
 obtain ⟨t517, A2, H⟩ := ob_ H
 (try dsimp only at H)
 by_cases c3 : (t517.length : Int) = 0
 ·rw [if_pos c3] at H
  have c3b0 : ((t517.length : Int) == 0) = true := beq_iff_eq.mpr c3
  have c3b1 : ((t517.length : Int) != 0) = false := bne_eq_false_iff_eq.mpr c3
  clear c3
  obtain rfl := Option.some.inj H
  go_enter Try.func100, Try.ntmps100
  go_wp2_with (first | ((with_reducible refine gate_dst (N := 1) rfl ?_); refine be_ 1 #[.slice A0_0 l0_0.length c0_0] 29 fun gb516 hg w4 hbox hb => ?_; have BK516 := am_ (hbox); have GW516 := ge_ hg HB; have GE516 := ge_ hg HB; replace HB := bs_ HB hb; clear hb hbox hg; have hcz5_0 := bc_ BK516; have hfz5_0 := blk_frozen BK516.out 0) | ((with_reducible refine gate_callee (f := 125) rfl ?_); refine gl_ 5 Try.func125 #[.agg #[.slice A0_0 l0_0.length c0_0]] ?_; (with_reducible refine (spec_Gaps.calls k _ _ l0_0 t517 _ ?side1 ?side2 A2.out).mono ?_); (case side1 => exact cs_ HR0_0 HB); (case side2 => exact HC0_0.out); rintro e w6 ⟨v518, rfl, ho0, hb⟩; refine ⟨_, rfl, ?_⟩; have HO519 := rl_ ho0 HB; replace BK516 := bb_ BK516 hb; replace HB := bs_ HB hb; (try clear hb); (try clear hb2); (try clear hk); (try clear hi); (try clear ho0); obtain ⟨Ao7, co7, eo7⟩ := Kd.R_slice HO519.out; subst eo7))
  go_ret
  exact ⟨er_, bl_ HB.out⟩
 rw [if_neg c3] at H
 have c3b0 : ((t517.length : Int) == 0) = false := beq_eq_false_iff_ne.mpr c3
 have c3b1 : ((t517.length : Int) != 0) = true := bne_iff_ne.mpr c3
 have c3b2 : ¬ (t517 = []) := fun h_ => c3 (by rw [h_]; rfl)
 obtain ⟨ji8, hji8⟩ : ∃ j_ : Int, (wrap64 ((t517.length : Int) - 1)) = j_ := ⟨_, rfl⟩
 replace H : (if 0 ≤ (ji8) then (if (ji8) < (t517.length : Int) then (some (rd t517 (ji8))) else (none)) else (none)) = some r := by first | (rw [hji8] at H; exact H) | (simp only [hji8] at H ⊢; exact H)
 (try rw [hji8] at A2)
 have hji8w : (IntKind.i64.wrap ((t517.length : Int) - 1)) = ji8 := (i64_w _).trans hji8
 by_cases c9 : 0 ≤ (ji8)
 ·rw [if_pos c9] at H
  have c9b0 := decide_eq_true c9
  clear c9
  by_cases c10 : (ji8) < (t517.length : Int)
  ·rw [if_pos c10] at H
   have c10b0 := decide_eq_true c10
   clear c10
   obtain rfl := Option.some.inj H
   go_enter Try.func100, Try.ntmps100
   go_wp2_with (first | ((with_reducible refine gate_dst (N := 1) rfl ?_); refine be_ 1 #[.slice A0_0 l0_0.length c0_0] 29 fun gb516 hg w11 hbox hb => ?_; have BK516 := am_ (hbox); have GW516 := ge_ hg HB; have GE516 := ge_ hg HB; replace HB := bs_ HB hb; clear hb hbox hg; have hcz12_0 := bc_ BK516; have hfz12_0 := blk_frozen BK516.out 0) | ((with_reducible refine gate_callee (f := 125) rfl ?_); refine gl_ 5 Try.func125 #[.agg #[.slice A0_0 l0_0.length c0_0]] ?_; (with_reducible refine (spec_Gaps.calls k _ _ l0_0 t517 _ ?side1 ?side2 A2.out).mono ?_); (case side1 => exact cs_ HR0_0 HB); (case side2 => exact HC0_0.out); rintro e w13 ⟨v518, rfl, ho0, hb⟩; refine ⟨_, rfl, ?_⟩; have HO519 := rl_ ho0 HB; replace BK516 := bb_ BK516 hb; replace HB := bs_ HB hb; (try clear hb); (try clear hb2); (try clear hk); (try clear hi); (try clear ho0); obtain ⟨Ao14, co14, eo14⟩ := Kd.R_slice HO519.out; subst eo14; obtain ⟨p520, q520, ad520, e520, hx520_0⟩ := ri_ (Kd.at_int (Kd.R_reads' HO519.out).2.2 (ji8)); cases e520))
   go_ret
   exact ⟨by first | rfl | (simp [errW_none, errW_some] <;> rfl) | (simp only [← hji8]; first | rfl | (simp [errW_none, errW_some] <;> rfl)) | (simp [*, errW_none, errW_some] <;> rfl), bl_ HB.out⟩
  rw [if_neg c10] at H
  exact absurd H (by simp)
 rw [if_neg c9] at H
 exact absurd H (by simp)
def spec_ConductorOf.f (k : Nat) (l0_0 : List Int) : Option (Int) := (spec_FrobeniusOf.f k l0_0).bind fun t522 => (some (wrap64 (t522 + 1)))
theorem spec_ConductorOf.calls (k : Nat) (A0_0 : Option Addr) (c0_0 : Nat) (l0_0 : List Int) (r : Int) (w : World) (hr0_0 : Kd.C (Kd.int .i64) w A0_0 l0_0.length l0_0) (hc0_0 : l0_0.length ≤ c0_0) (h : spec_ConductorOf.f k l0_0 = some r) :
 Calls Try.prog 54 #[.agg #[.slice A0_0 l0_0.length c0_0]] w fun e w' => e = .returned (.int .i64 r) ∧ Below w.heap.size w w' := by
 have hu29 := Try.underlying29
 have HR0_0 := am_ hr0_0
 have HC0_0 := am_ hc0_0
 clear hr0_0 hc0_0
 have HB := am_ (Below.refl w.heap.size w)
 have H := h
 clear h
 unfold spec_ConductorOf.f at H
 obtain ⟨t522, A2, H⟩ := ob_ H
 (try dsimp only at H)
 obtain rfl := Option.some.inj H
 go_enter Try.func54, Try.ntmps54
 go_wp2_with (first | ((with_reducible refine gate_dst (N := 1) rfl ?_); refine be_ 1 #[.slice A0_0 l0_0.length c0_0] 29 fun gb521 hg w3 hbox hb => ?_; have BK521 := am_ (hbox); have GW521 := ge_ hg HB; have GE521 := ge_ hg HB; replace HB := bs_ HB hb; clear hb hbox hg; have hcz4_0 := bc_ BK521; have hfz4_0 := blk_frozen BK521.out 0) | ((with_reducible refine gate_callee (f := 100) rfl ?_); refine gl_ 4 Try.func100 #[.agg #[.slice A0_0 l0_0.length c0_0]] ?_; (with_reducible refine (spec_FrobeniusOf.calls k _ _ l0_0 t522 _ ?side1 ?side2 A2.out).mono ?_); (case side1 => exact cs_ HR0_0 HB); (case side2 => exact HC0_0.out); rintro e w5 ⟨rfl, hb⟩; refine ⟨_, rfl, ?_⟩; replace BK521 := bb_ BK521 hb; replace HB := bs_ HB hb; (try clear hb); (try clear hb2); (try clear hk); (try clear hi)))
 go_ret
 exact ⟨er_, bl_ HB.out⟩
def spec_HasNumber.l0 : Nat → List Int → Int → Int → Option (Bool)
 | 0, _, _, _ => none
 | k + 1, x0, x1, x5 => if x5 < (x0.length : Int) then (if 0 ≤ x5 then (if (rd x0 x5) = x1 then (some true) else (spec_HasNumber.l0 k x0 x1 (wrap64 (x5 + 1)))) else (none)) else (some false)
def spec_HasNumber.f (k : Nat) (l0 : List Int) (a1 : Int) : Option (Bool) := spec_HasNumber.l0 k l0 a1 0
theorem spec_HasNumber.calls (k : Nat) (A0 : Option Addr) (c0 : Nat) (l0 : List Int) (a1 : Int) (r : Bool) (w : World) (hr0 : Kd.C (Kd.int .i64) w A0 l0.length l0) (hc0 : l0.length ≤ c0) (h : spec_HasNumber.f k l0 a1 = some r) :
 Calls Try.prog 55 #[.slice A0 l0.length c0, .int .i64 a1] w fun e w' => e = .returned (.bool r) ∧ Drawn0 w w' := by
 have HR0 := am_ hr0
 have HC0 := am_ hc0
 clear hr0 hc0
 have H := h
 clear h
 unfold spec_HasNumber.f at H
 have H' := am_ H
 clear H
 go_enter Try.func55, Try.ntmps55
 go_wp2
 go_loopg [5] k (fun kq v5 w' => ∃ (x5_1 : Int), v5 = .int .i64 x5_1 ∧ Aside0 (spec_HasNumber.l0 kq l0 a1 x5_1 = some r) ∧ Aside0 (kq ≤ k) ∧ Drawn0 w w')
 case atStart => exact ⟨(0), sd_, H', ⟨Nat.le_refl _⟩, dr_⟩
 case round =>
  clear H'
  try clear p2
  obtain ⟨x5_1, rfl, HA, HK1, ⟨m1, rfl⟩⟩ := hrel
  cases gk with
  | zero => exact absurd HA.out (by simp [spec_HasNumber.l0])
  | succ k1 =>
   have H := HA.out
   clear HA
   simp only [spec_HasNumber.l0] at H
   by_cases c3 : x5_1 < (l0.length : Int)
   rotate_left
   ·rw [if_neg c3] at H
    have c3b0 : decide (x5_1 < (l0.length : Int)) = false := decide_eq_false c3
    clear c3
    obtain rfl := Option.some.inj H
    go_wp2
    go_ret
    exact ⟨sd_, dr_⟩
   rw [if_pos c3] at H
   have c3b0 := decide_eq_true c3
   clear c3
   obtain ⟨c4, H⟩ := in_ H
   have c4b0 := decide_eq_true c4
   clear c4
   by_cases c5 : (rd l0 x5_1) = a1
   ·rw [if_pos c5] at H
    have c5b0 : ((rd l0 x5_1) == a1) = true := beq_iff_eq.mpr c5
    have c5b1 : ((rd l0 x5_1) != a1) = false := bne_eq_false_iff_eq.mpr c5
    clear c5
    obtain rfl := Option.some.inj H
    obtain ⟨p523, q523, ad523, e523, hx523_0⟩ := ri_ (Kd.at_int HR0.out x5_1)
    cases e523
    go_wp2
    go_ret
    exact ⟨sd_, dr_⟩
   rw [if_neg c5] at H
   have c5b0 : ((rd l0 x5_1) == a1) = false := beq_eq_false_iff_ne.mpr c5
   have c5b1 : ((rd l0 x5_1) != a1) = true := bne_iff_ne.mpr c5
   have H' := am_ H
   clear H
   obtain ⟨p523, q523, ad523, e523, hx523_0⟩ := ri_ (Kd.at_int HR0.out x5_1)
   cases e523
   go_wp2
   go_roundg k1
   case measure => have := HK1.out; omega
   case rel => exact ⟨(wrap64 (x5_1 + 1)), sd_, H', ⟨by have := HK1.out; omega⟩, dr_⟩
def spec_l8Gaps.l0 : Nat → List Int → Int → Option (Bool)
 | 0, _, _ => none
 | k + 1, x0, x3 => if x3 < (x0.length : Int) then (if 0 ≤ x3 then ((spec_l1In.f (rd x0 x3) 1 199).bind fun t525 => (if t525 = true then (spec_l8Gaps.l0 k x0 (wrap64 (x3 + 1))) else (some false))) else (none)) else ((spec_IsAscending.f k x0).bind fun t526 => (some t526))
def spec_l8Gaps.f (k : Nat) (l0 : List Int) : Option (Bool) := spec_l8Gaps.l0 k l0 0
theorem spec_l8Gaps.calls (k : Nat) (A0 : Option Addr) (c0 : Nat) (l0 : List Int) (r : Bool) (w : World) (hr0 : Kd.C (Kd.int .i64) w A0 l0.length l0) (hc0 : l0.length ≤ c0) (h : spec_l8Gaps.f k l0 = some r) :
 Calls Try.prog 102 #[.slice A0 l0.length c0] w fun e w' => e = .returned (.bool r) ∧ Drawn0 w w' := by
 have HR0 := am_ hr0
 have HC0 := am_ hc0
 clear hr0 hc0
 have H := h
 clear h
 unfold spec_l8Gaps.f at H
 have H' := am_ H
 clear H
 go_enter Try.func102, Try.ntmps102
 go_wp2
 go_loopg [3] k (fun kq v3 w' => ∃ (x3_1 : Int), v3 = .int .i64 x3_1 ∧ Aside0 (spec_l8Gaps.l0 kq l0 x3_1 = some r) ∧ Aside0 (kq ≤ k) ∧ Drawn0 w w')
 case atStart => exact ⟨(0), sd_, H', ⟨Nat.le_refl _⟩, dr_⟩
 case round =>
  clear H'
  try clear c1
  obtain ⟨x3_1, rfl, HA, HK1, ⟨m1, rfl⟩⟩ := hrel
  cases gk with
  | zero => exact absurd HA.out (by simp [spec_l8Gaps.l0])
  | succ k1 =>
   have H := HA.out
   clear HA
   simp only [spec_l8Gaps.l0] at H
   by_cases c2 : x3_1 < (l0.length : Int)
   rotate_left
   ·rw [if_neg c2] at H
    have c2b0 : decide (x3_1 < (l0.length : Int)) = false := decide_eq_false c2
    clear c2
    obtain ⟨t526, A6, H⟩ := ob_ H
    (try dsimp only at H)
    obtain rfl := Option.some.inj H
    go_wp2_with (first | ((with_reducible refine gate_callee (f := 95) rfl ?_); refine gl_ 17 Try.func95 #[.slice A0 l0.length c0] ?_; (with_reducible refine (spec_IsAscending.calls k1 _ _ l0 t526 _ ?side1 ?side2 A6.out).mono ?_); (case side1 => repeat (first | exact HR0.out | (with_reducible refine Kd.C_alloc ?_ _) | (with_reducible refine Kd.C_drewN ?_ _) | (with_reducible refine Kd.C_drew ?_))); (case side2 => exact HC0.out); rintro e w' ⟨rfl, ⟨nd, rfl⟩⟩; refine ⟨_, rfl, ?_⟩))
    go_ret
    exact ⟨sd_, dr_⟩
   rw [if_pos c2] at H
   have c2b0 := decide_eq_true c2
   clear c2
   obtain ⟨c3, H⟩ := in_ H
   have c3b0 := decide_eq_true c3
   clear c3
   obtain ⟨t525, A4, H⟩ := ob_ H
   (try dsimp only at H)
   by_cases c5 : t525 = true
   ·subst c5
    rw [if_pos rfl] at H
    have H' := am_ H
    clear H
    obtain ⟨p524, q524, ad524, e524, hx524_0⟩ := ri_ (Kd.at_int HR0.out x3_1)
    cases e524
    go_wp2_with (first | ((with_reducible refine gate_callee (f := 68) rfl ?_); refine gl_ 14 Try.func68 #[.int .i64 (rd l0 x3_1), .int .i64 1, .int .i64 199] ?_; (with_reducible refine (spec_l1In.calls (rd l0 x3_1) 1 199 true _ A4.out).mono ?_); rintro e w' ⟨rfl, ⟨nd, rfl⟩⟩; refine ⟨_, rfl, ?_⟩))
    go_roundg k1
    case measure => have := HK1.out; omega
    case rel => exact ⟨(wrap64 (x3_1 + 1)), sd_, H', ⟨by have := HK1.out; omega⟩, dr_⟩
   obtain rfl := Bool.eq_false_iff.mpr c5
   rw [if_neg nf_] at H
   obtain rfl := Option.some.inj H
   obtain ⟨p524, q524, ad524, e524, hx524_0⟩ := ri_ (Kd.at_int HR0.out x3_1)
   cases e524
   go_wp2_with (first | ((with_reducible refine gate_callee (f := 68) rfl ?_); refine gl_ 14 Try.func68 #[.int .i64 (rd l0 x3_1), .int .i64 1, .int .i64 199] ?_; (with_reducible refine (spec_l1In.calls (rd l0 x3_1) 1 199 false _ A4.out).mono ?_); rintro e w' ⟨rfl, ⟨nd, rfl⟩⟩; refine ⟨_, rfl, ?_⟩))
   go_ret
   exact ⟨sd_, dr_⟩
mutual
def spec_GapClash.j0 : Nat → List Int → Bool → Option (Int × Int × Bool)
 | 0, _, _ => none
 | k + 1, x0, x16 => if x16 = true then (some (0, 0, false)) else (if 0 ≤ (wrap64 ((x0.length : Int) - 1)) then (if (wrap64 ((x0.length : Int) - 1)) < (x0.length : Int) then (if 0 ≤ (wrap64 ((wrap64 (2 * (rd x0 (wrap64 ((x0.length : Int) - 1))))) + 1)) then (if (wrap64 ((wrap64 (2 * (rd x0 (wrap64 ((x0.length : Int) - 1))))) + 1) : Int).toNat ≤ 281474976710656 then (spec_GapClash.l0 k x0 (rd x0 (wrap64 ((x0.length : Int) - 1))) (List.replicate (wrap64 ((wrap64 (2 * (rd x0 (wrap64 ((x0.length : Int) - 1))))) + 1) : Int).toNat false) 0) else (none)) else (none)) else (none)) else (none))
def spec_GapClash.l0 : Nat → List Int → Int → List Bool → Int → Option (Int × Int × Bool)
 | 0, _, _, _, _ => none
 | k + 1, x0, x4, x5, x6 => if x6 < (x0.length : Int) then (if 0 ≤ x6 then (if 0 ≤ (rd x0 x6) then (if (rd x0 x6) < (x5.length : Int) then (spec_GapClash.l0 k x0 x4 (x5.set ((rd x0 x6) : Int).toNat true) (wrap64 (x6 + 1))) else (none)) else (none)) else (none)) else (spec_GapClash.l1 k x4 x5 1)
def spec_GapClash.l1 : Nat → Int → List Bool → Int → Option (Int × Int × Bool)
 | 0, _, _, _ => none
 | k + 1, x4, x5, x7 => if x7 ≤ x4 then (spec_GapClash.l2 k x4 x5 x7 x7) else (some (0, 0, false))
def spec_GapClash.l2 : Nat → Int → List Bool → Int → Int → Option (Int × Int × Bool)
 | 0, _, _, _, _ => none
 | k + 1, x4, x5, x7, x8 => if (wrap64 (x7 + x8)) ≤ x4 then (if 0 ≤ x7 then (if x7 < (x5.length : Int) then (spec_GapClash.j4 k x4 x5 x7 x8 (!(rdOf false x5 x7))) else (none)) else (none)) else (spec_GapClash.j4 k x4 x5 x7 x8 false)
def spec_GapClash.j4 : Nat → Int → List Bool → Int → Int → Bool → Option (Int × Int × Bool)
 | 0, _, _, _, _, _ => none
 | k + 1, x4, x5, x7, x8, x57 => if x57 = true then (if 0 ≤ x8 then (if x8 < (x5.length : Int) then (if rdOf false x5 x8 = true then (spec_GapClash.l2 k x4 x5 x7 (wrap64 (x8 + 1))) else (if 0 ≤ (wrap64 (x7 + x8)) then (if (wrap64 (x7 + x8)) < (x5.length : Int) then (if rdOf false x5 (wrap64 (x7 + x8)) = true then (some (x7, x8, true)) else (spec_GapClash.l2 k x4 x5 x7 (wrap64 (x8 + 1)))) else (none)) else (none))) else (none)) else (none)) else (spec_GapClash.l1 k x4 x5 (wrap64 (x7 + 1)))
end
def spec_GapClash.f (k : Nat) (l0 : List Int) : Option (Int × Int × Bool) := (spec_l8Gaps.f k l0).bind fun t528 => (if t528 = true then (spec_GapClash.j0 k l0 ((l0.length : Int) == 0)) else (spec_GapClash.j0 k l0 true))
theorem spec_GapClash.calls (k : Nat) (A0 : Option Addr) (c0 : Nat) (l0 : List Int) (r1 : Int) (r2 : Int) (r3 : Bool) (w : World) (hr0 : Kd.C (Kd.int .i64) w A0 l0.length l0) (hc0 : l0.length ≤ c0) (h : spec_GapClash.f k l0 = some (r1, r2, r3)) :
 Calls Try.prog 101 #[.slice A0 l0.length c0] w fun e w' => e = .returned (.tuple #[.agg #[.int .i64 r1, .int .i64 r2], .bool r3]) ∧ Below w.heap.size w w' := by
 have hu78 := Try.underlying78
 have HR0 := am_ hr0
 have HC0 := am_ hc0
 clear hr0 hc0
 have HB := am_ (Below.refl w.heap.size w)
 have H := h
 clear h
 unfold spec_GapClash.f at H
 have HC2 := am_ H
 clear H
 go_enter Try.func101, Try.ntmps101
 go_upto_region 1 with (first | ((with_reducible refine gate_dst (N := 2) rfl ?_); (try (refine gate_guard (by rfl) ?_; dsimp only)); refine be_ 2 #[.int .i64 0, .int .i64 0] 78 fun gb527 hg w3 hbox hb => ?_; have BK527 := am_ (hbox); have GW527 := ge_ hg HB; have GE527 := ge_ hg HB; replace HB := bs_ HB hb; clear hb hbox hg))
 (try simp only [Act.put, List.setIfInBounds_toArray, List.set_cons_zero, List.set_cons_succ])
 go_cut [16] (fun v16 wc => ∃ (kq : Nat) (x16_1 : Bool), v16 = .bool x16_1 ∧ Aside0 (spec_GapClash.j0 kq l0 x16_1 = some (r1, r2, r3)) ∧ Aside0 (kq ≤ k) ∧ Aside0 (wc.heap[gb527]? = some (.cells #[.int .i64 0, .int .i64 0] 78 (0, 0))) ∧ Aside0 (Below w.heap.size w wc))
 case first =>
  have H := HC2.out
  clear HC2
  obtain ⟨t528, A4, H⟩ := ob_ H
  (try dsimp only at H)
  by_cases c5 : t528 = true
  ·subst c5
   rw [if_pos rfl] at H
   have H' := am_ H
   clear H
   go_wp2_with (first | ((with_reducible refine gate_callee (f := 102) rfl ?_); refine gl_ 10 Try.func102 #[.slice A0 l0.length c0] ?_; (with_reducible refine (spec_l8Gaps.calls k _ _ l0 true _ ?side1 ?side2 A4.out).mono ?_); (case side1 => exact cs_ HR0 HB); (case side2 => exact HC0.out); rintro e w' ⟨rfl, ⟨nd, rfl⟩⟩; refine ⟨_, rfl, ?_⟩))
   go_meet
   case rel => exact ⟨_, (((l0.length : Int) == 0)), sd_, H', ⟨le_⟩, ⟨bk_ BK527.out⟩, ⟨bl_ HB.out⟩⟩
  obtain rfl := Bool.eq_false_iff.mpr c5
  rw [if_neg nf_] at H
  have H' := am_ H
  clear H
  go_wp2_with (first | ((with_reducible refine gate_callee (f := 102) rfl ?_); refine gl_ 10 Try.func102 #[.slice A0 l0.length c0] ?_; (with_reducible refine (spec_l8Gaps.calls k _ _ l0 false _ ?side1 ?side2 A4.out).mono ?_); (case side1 => exact cs_ HR0 HB); (case side2 => exact HC0.out); rintro e w' ⟨rfl, ⟨nd, rfl⟩⟩; refine ⟨_, rfl, ?_⟩))
  go_meet
  case rel => exact ⟨_, (true), sd_, H', ⟨le_⟩, ⟨bk_ BK527.out⟩, ⟨bl_ HB.out⟩⟩
 case rest =>
  clear HC2
  try clear c1
  try clear p2
  try clear c5
  obtain ⟨kq, x16_1, rfl, HA, HJ1, BK527, HB⟩ := hcut
  cases kq with
  | zero => exact absurd HA.out (by simp [spec_GapClash.j0])
  | succ kj1 =>
   have H := HA.out
   clear HA
   simp only [spec_GapClash.j0] at H
   by_cases c6 : x16_1 = true
   ·subst c6
    rw [if_pos rfl] at H
    simp only [Option.some.injEq, Prod.mk.injEq] at H
    obtain ⟨rfl, rfl, rfl⟩ := H
    have hcz7_0 : wc.cell? ⟨gb527, 0, none⟩ = some (.int .i64 0) := (blk_cell BK527.out 0).trans rfl
    have hcz7_1 : wc.cell? ⟨gb527, 1, none⟩ = some (.int .i64 0) := (blk_cell BK527.out 1).trans rfl
    have hfz7_0 := blk_frozen BK527.out 0
    have hfz7_1 := blk_frozen BK527.out 1
    go_wp2
    refine bodyPost_ret (results_ct rfl _ _ gb527 78 #[.int .i64 0, .int .i64 0] (0, 0) _ rfl (by (with_reducible repeat (first | refine blk_drewN ?_ _ | refine blk_drew ?_ | refine blk_alloc ?_ _)); refine blk_put (cs := #[.int .i64 0, .int .i64 0]) ?_ 1 _ rfl; (with_reducible repeat (first | refine blk_drewN ?_ _ | refine blk_drew ?_ | refine blk_alloc ?_ _)); refine blk_put (cs := #[.int .i64 0, .int .i64 0]) ?_ 0 _ rfl; (with_reducible repeat (first | refine blk_drewN ?_ _ | refine blk_drew ?_ | refine blk_alloc ?_ _)); exact BK527.out) Try.underlying78 rfl (by kernel_rfl)) rfl ?_
    exact ⟨er_, bl_ HB.out⟩
   obtain rfl := Bool.eq_false_iff.mpr c6
   rw [if_neg nf_] at H
   obtain ⟨ji8, hji8⟩ : ∃ j_ : Int, (wrap64 ((l0.length : Int) - 1)) = j_ := ⟨_, rfl⟩
   replace H : (if 0 ≤ (ji8) then (if (ji8) < (l0.length : Int) then (if 0 ≤ (wrap64 ((wrap64 (2 * (rd l0 (ji8)))) + 1)) then (if (wrap64 ((wrap64 (2 * (rd l0 (ji8)))) + 1) : Int).toNat ≤ 281474976710656 then (spec_GapClash.l0 kj1 l0 (rd l0 (ji8)) (List.replicate (wrap64 ((wrap64 (2 * (rd l0 (ji8)))) + 1) : Int).toNat false) 0) else (none)) else (none)) else (none)) else (none)) = some (r1, r2, r3) := by first | (rw [hji8] at H; exact H) | (simp only [hji8] at H ⊢; exact H)
   have hji8w : (IntKind.i64.wrap ((l0.length : Int) - 1)) = ji8 := (i64_w _).trans hji8
   obtain ⟨c9, H⟩ := in_ H
   have c9b0 := decide_eq_true c9
   clear c9
   obtain ⟨c10, H⟩ := in_ H
   have c10b0 := decide_eq_true c10
   clear c10
   obtain ⟨ji11, hji11⟩ : ∃ j_ : Int, (wrap64 ((wrap64 (2 * (rd l0 (ji8)))) + 1)) = j_ := ⟨_, rfl⟩
   replace H : (if 0 ≤ (ji11) then (if (ji11 : Int).toNat ≤ 281474976710656 then (spec_GapClash.l0 kj1 l0 (rd l0 (ji8)) (List.replicate (ji11 : Int).toNat false) 0) else (none)) else (none)) = some (r1, r2, r3) := by first | (rw [hji11] at H; exact H) | (simp only [hji11] at H ⊢; exact H)
   have hji11w : (IntKind.i64.wrap ((wrap64 (2 * (rd l0 (ji8)))) + 1)) = ji11 := (i64_w _).trans hji11
   obtain ⟨c12, H⟩ := in_ H
   have c12b0 := eq_true c12
   have c12b1 := decide_eq_true c12
   clear c12
   obtain ⟨c13, H⟩ := in_ H
   have c13b0 := eq_true c13
   have c13b1 := decide_eq_true c13
   clear c13
   obtain ⟨y530, hy530⟩ : ∃ y_ : List Bool, y_ = (List.replicate (ji11 : Int).toNat false) := ⟨_, rfl⟩
   replace H : (spec_GapClash.l0 kj1 l0 (rd l0 (ji8)) y530 0) = some (r1, r2, r3) := hr_ hy530 H
   have Ny530 := am_ hy530
   clear hy530
   have H' := am_ H
   clear H
   obtain ⟨p529, q529, ad529, e529, hx529_0⟩ := ri_ (Kd.at_int HR0.out (ji8))
   cases e529
   replace hx529_0 := (HB.out.cell (World.block_lt_of_cell? w _ hx529_0)).trans hx529_0
   go_wp2_with (first | ((with_reducible refine gate_dst (N := 27) rfl ?_); (try (refine gate_guard (by rfl) ?_; dsimp only)); refine Kd.R_make Kd.bool _ 4 rfl (N := 27) rfl 56 _ _ rfl ji11 rfl rfl Try.underlying56 (.bool false) 1 info4 rfl (by decide) (by omega) false (ok := fun _ => True) (okp := fun _ => True) rfl (fun _ hk => hk) trivial (od_) (Nat.le_trans (Nat.mul_le_mul_right _ (od_ : ji11.toNat ≤ 281474976710656)) (by omega)) (Below.refl _ _) (Nat.le_refl _) ?_; intro v531 w14 ho15 hb hg_ hnew_; clear hg_ hnew_; (first | rw [← Ny530.out] at ho15 | (simp only [Int.reduceToNat] at ho15; rw [← Ny530.out] at ho15)); have HO532 := rl_ ho15 HB; replace BK527 := bb_ BK527 hb; replace HB := bs_ HB hb; clear hb ho15))
   go_loopg [6] kj1 (fun kq v6 w' => ∃ (x5_2 : List Bool) (x6_2 : Int), v6 = .int .i64 x6_2 ∧ Aside0 (spec_GapClash.l0 kq l0 (rd l0 (ji8)) x5_2 x6_2 = some (r1, r2, r3)) ∧ Aside0 (kq ≤ kj1) ∧ Aside0 (Kd.R Kd.bool 4 w' w.heap.size (fun _ => True) v531 x5_2) ∧ Aside0 (w'.heap[gb527]? = some (.cells #[.int .i64 0, .int .i64 0] 78 (0, 0))) ∧ Aside0 (Below w.heap.size w w'))
   case atStart => exact ⟨(y530), (0), sd_, H', ⟨Nat.le_refl _⟩, ⟨kr_ HO532.out⟩, ⟨bk_ BK527.out⟩, ⟨bl_ HB.out⟩⟩
   case round =>
    clear H'
    try clear c1
    try clear p2
    try clear c5
    try clear p5
    try clear q5
    try clear hx5
    try clear c6
    try clear p6
    try clear hcz7_0
    try clear hcz7_1
    try clear hfz7_0
    try clear hfz7_1
    try clear hx529_0
    try clear p529
    try clear q529
    obtain ⟨x5_2, x6_2, rfl, HA, HK2, HO_5, BK527, HB⟩ := hrel
    cases gk with
    | zero => exact absurd HA.out (by simp [spec_GapClash.l0])
    | succ k2 =>
     have H := HA.out
     clear HA
     simp only [spec_GapClash.l0] at H
     by_cases c16 : x6_2 < (l0.length : Int)
     ·rw [if_pos c16] at H
      have c16b0 := decide_eq_true c16
      clear c16
      obtain ⟨c17, H⟩ := in_ H
      have c17b0 := decide_eq_true c17
      clear c17
      obtain ⟨c18, H⟩ := in_ H
      have c18b0 := decide_eq_true c18
      clear c18
      obtain ⟨c19, H⟩ := in_ H
      have c19b0 := decide_eq_true c19
      clear c19
      obtain ⟨y534, hy534⟩ : ∃ y_ : List Bool, y_ = (x5_2.set ((rd l0 x6_2) : Int).toNat true) := ⟨_, rfl⟩
      replace H : (spec_GapClash.l0 k2 l0 (rd l0 (ji8)) y534 (wrap64 (x6_2 + 1))) = some (r1, r2, r3) := hr_ hy534 H
      have Ny534 := am_ hy534
      clear hy534
      have H' := am_ H
      clear H
      obtain ⟨p533, q533, ad533, e533, hx533_0⟩ := ri_ (Kd.at_int HR0.out x6_2)
      obtain rfl : ad529 = ad533 := (by injection e533)
      replace hx533_0 := (HB.out.cell (World.block_lt_of_cell? w _ hx533_0)).trans hx533_0
      have p20 : 0 ≤ ((rd l0 x6_2) : Int) := od_
      have q20 : ((rd l0 x6_2) : Int) < ((x5_2.length : Int) : Int) := od_
      obtain ⟨go20, co20, eo20, gb20, gl20, cl20, HG20⟩ := Kd.R_form HO_5.out (by omega)
      (first | cases eo20 | (injection eo20 with ea_ en_ ec_; (first | subst ea_ | (injection ea_ with ea_; subst ea_)); subst ec_; clear en_))
      have GB20 := am_ gb20
      have GG20 := am_ HG20
      clear gb20 gl20 HG20
      obtain ⟨hx20_0, hf20_0⟩ := Kd.R_celln false HO_5.out ((rd l0 x6_2) : Int) p20 q20
      replace p20 := eq_true p20
      replace q20 := eq_true q20
      have HP21 := Kd.R_putg HO_5.out ((rd l0 x6_2) : Int) true
      go_wp2_with (first | ((with_reducible refine gate_store (t := 4) (p := 39) rfl ?_); refine store_event (t := 4) (p := 39) (v := ?vo_w22) (w1 := (wr.setCell ⟨go20, ((rd l0 x6_2) : Int).toNat, none⟩ (.bool true))) ?hg ?ho ?hn ?hr ?_; (case ho => rfl); (case hg => rfl); (case hn => rfl); (case hr => first | (go_simp; done) | (go_simp; rfl)); intro w22 hw; have hg : wr.grownBy w22 (some go20) := (by rw [hw]; exact HP21.2); have hp_ : Kd.R Kd.bool 4 w22 w.heap.size (fun _ => True) (.slice (some ⟨go20, 0, none⟩) x5_2.length co20) y534 := (by rw [hw, Ny534.out]; exact HP21.1); clear HP21; replace BK527 := am_ (blk_grown (g := gb527) (o := .cells #[.int .i64 0, .int .i64 0] 78 (0, 0)) (bk_ BK527.out) hg (Kd.R_ne HO_5.out BK527.out (by decide))); replace HO_5 := am_ (hp_); replace HB := am_ ((by rw [hw]; exact below_set (HB.out) GB20.out : Below w.heap.size w w22)); clear hg hw hp_))
      go_roundg k2
      case measure => have := HJ1.out; have := HK2.out; omega
      case rel => exact ⟨(y534), (wrap64 (x6_2 + 1)), sd_, H', ⟨by have := HJ1.out; have := HK2.out; omega⟩, ⟨kr_ HO_5.out⟩, ⟨bk_ BK527.out⟩, ⟨bl_ HB.out⟩⟩
     rw [if_neg c16] at H
     have c16b0 : decide (x6_2 < (l0.length : Int)) = false := decide_eq_false c16
     clear c16
     have H' := am_ H
     clear H
     go_wp2
     go_loopg [7] k2 (fun kq v7 w' => ∃ (x7_3 : Int) (x528000_3 : Int) (x528001_3 : Int), v7 = .int .i64 x7_3 ∧ Aside0 (spec_GapClash.l1 kq (rd l0 (ji8)) x5_2 x7_3 = some (r1, r2, r3)) ∧ Aside0 (kq ≤ k2) ∧ Aside0 (Kd.R Kd.bool 4 w' w.heap.size (fun _ => True) v531 x5_2) ∧ Aside0 (w'.heap[gb527]? = some (.cells #[.int .i64 x528000_3, .int .i64 x528001_3] 78 (0, 0))) ∧ Aside0 (Below w.heap.size w w'))
     case atStart => exact ⟨(1), (0), (0), sd_, H', ⟨Nat.le_refl _⟩, ⟨kr_ HO_5.out⟩, ⟨bk_ BK527.out⟩, ⟨bl_ HB.out⟩⟩
     case round =>
      clear H'
      try clear c1
      try clear p2
      try clear q2
      try clear hx2
      try clear hf2
      try clear c5
      try clear p5
      try clear q5
      try clear hx5
      try clear c6
      try clear p6
      try clear p20
      try clear q20
      try clear hx20
      try clear hf20
      try clear hcz7_0
      try clear hcz7_1
      try clear hfz7_0
      try clear hfz7_1
      try clear hx20_0
      try clear hx529_0
      try clear hx533_0
      try clear p529
      try clear p533
      try clear q529
      try clear q533
      obtain ⟨x7_3, x528000_3, x528001_3, rfl, HA, HK3, HO_5, BK527, HB⟩ := hrel
      cases gk with
      | zero => exact absurd HA.out (by simp [spec_GapClash.l1])
      | succ k3 =>
       have H := HA.out
       clear HA
       simp only [spec_GapClash.l1] at H
       by_cases c23 : x7_3 ≤ (rd l0 (ji8))
       rotate_left
       ·rw [if_neg c23] at H
        have c23b0 : decide (x7_3 ≤ (rd l0 (ji8))) = false := decide_eq_false c23
        clear c23
        simp only [Option.some.injEq, Prod.mk.injEq] at H
        obtain ⟨rfl, rfl, rfl⟩ := H
        have hcz43_0 : wr.cell? ⟨gb527, 0, none⟩ = some (.int .i64 x528000_3) := (blk_cell BK527.out 0).trans rfl
        have hcz43_1 : wr.cell? ⟨gb527, 1, none⟩ = some (.int .i64 x528001_3) := (blk_cell BK527.out 1).trans rfl
        have hfz43_0 := blk_frozen BK527.out 0
        have hfz43_1 := blk_frozen BK527.out 1
        go_wp2
        refine bodyPost_ret (results_ct rfl _ _ gb527 78 #[.int .i64 0, .int .i64 0] (0, 0) _ rfl (by (with_reducible repeat (first | refine blk_drewN ?_ _ | refine blk_drew ?_ | refine blk_alloc ?_ _)); refine blk_put (cs := #[.int .i64 0, .int .i64 x528001_3]) ?_ 1 _ rfl; (with_reducible repeat (first | refine blk_drewN ?_ _ | refine blk_drew ?_ | refine blk_alloc ?_ _)); refine blk_put (cs := #[.int .i64 x528000_3, .int .i64 x528001_3]) ?_ 0 _ rfl; (with_reducible repeat (first | refine blk_drewN ?_ _ | refine blk_drew ?_ | refine blk_alloc ?_ _)); exact BK527.out) Try.underlying78 rfl (by kernel_rfl)) rfl ?_
        exact ⟨by first | rfl | (simp [errW_none, errW_some] <;> rfl) | (simp only [← hji8, ← hji11]; first | rfl | (simp [errW_none, errW_some] <;> rfl)) | (simp [*, errW_none, errW_some] <;> rfl), bl_ HB.out⟩
       rw [if_pos c23] at H
       have c23b0 := decide_eq_true c23
       clear c23
       have H' := am_ H
       clear H
       go_wp2
       go_loopg [8] k3 (fun kq v8 w' => ∃ (x8_4 : Int) (x528000_4 : Int) (x528001_4 : Int), v8 = .int .i64 x8_4 ∧ Aside0 (spec_GapClash.l2 kq (rd l0 (ji8)) x5_2 x7_3 x8_4 = some (r1, r2, r3)) ∧ Aside0 (kq ≤ k3) ∧ Aside0 (Kd.R Kd.bool 4 w' w.heap.size (fun _ => True) v531 x5_2) ∧ Aside0 (w'.heap[gb527]? = some (.cells #[.int .i64 x528000_4, .int .i64 x528001_4] 78 (0, 0))) ∧ Aside0 (Below w.heap.size w w'))
       case atStart => exact ⟨(x7_3), (x528000_3), (x528001_3), sd_, H', ⟨Nat.le_refl _⟩, ⟨kr_ HO_5.out⟩, ⟨bk_ BK527.out⟩, ⟨bl_ HB.out⟩⟩
       case round =>
        clear H'
        try clear c1
        try clear c2
        try clear p2
        try clear q2
        try clear hx2
        try clear hf2
        try clear c5
        try clear p5
        try clear q5
        try clear hx5
        try clear c6
        try clear p6
        try clear p20
        try clear q20
        try clear hx20
        try clear hf20
        try clear hcz7_0
        try clear hcz7_1
        try clear hfz7_0
        try clear hfz7_1
        try clear hx20_0
        try clear hx529_0
        try clear hx533_0
        try clear p529
        try clear p533
        try clear q529
        try clear q533
        obtain ⟨x8_4, x528000_4, x528001_4, rfl, HA, HK4, HO_5, BK527, HB⟩ := hrel
        cases gk with
        | zero => exact absurd HA.out (by simp [spec_GapClash.l2])
        | succ k4 =>
         have H := HA.out
         clear HA
         simp only [spec_GapClash.l2] at H
         have HC24 := am_ H
         clear H
         go_upto_region 13 with (fail)
         go_cut [57] (fun v57 wc => ∃ (kq : Nat) (x57_23 : Bool), v57 = .bool x57_23 ∧ Aside0 (spec_GapClash.j4 kq (rd l0 (ji8)) x5_2 x7_3 x8_4 x57_23 = some (r1, r2, r3)) ∧ Aside0 (kq ≤ k4) ∧ Aside0 (Kd.R Kd.bool 4 wc w.heap.size (fun _ => True) v531 x5_2) ∧ Aside0 (wc.heap[gb527]? = some (.cells #[.int .i64 x528000_4, .int .i64 x528001_4] 78 (0, 0))) ∧ Aside0 (Below w.heap.size w wc))
         case first =>
          have H := HC24.out
          clear HC24
          by_cases c25 : (wrap64 (x7_3 + x8_4)) ≤ (rd l0 (ji8))
          rotate_left
          ·rw [if_neg c25] at H
           have c25b0 : decide ((wrap64 (x7_3 + x8_4)) ≤ (rd l0 (ji8))) = false := decide_eq_false c25
           clear c25
           (first | rw [c25b0] | (simp only [i64_w, i32_w]; rw [c25b0]) | skip)
           have H' := am_ H
           clear H
           go_wp2
           go_meet
           case rel => exact ⟨_, (false), sd_, H', ⟨by have := HJ1.out; have := HK2.out; have := HK3.out; have := HK4.out; first | omega | exact Nat.le_refl _⟩, ⟨kr_ HO_5.out⟩, ⟨bk_ BK527.out⟩, ⟨bl_ HB.out⟩⟩
          rw [if_pos c25] at H
          have c25b0 := decide_eq_true c25
          clear c25
          (first | rw [c25b0] | (simp only [i64_w, i32_w]; rw [c25b0]) | skip)
          obtain ⟨c26, H⟩ := in_ H
          have c26b0 := decide_eq_true c26
          clear c26
          obtain ⟨c27, H⟩ := in_ H
          have c27b0 := decide_eq_true c27
          clear c27
          have H' := am_ H
          clear H
          obtain ⟨Ao28, co28, eo28⟩ := Kd.R_slice HO_5.out
          subst eo28
          obtain ⟨p535, q535, ad535, e535, hx535_0⟩ := ri_ (Kd.at_bool (Kd.R_reads' HO_5.out).2.2 x7_3)
          cases e535
          go_wp2
          go_meet
          case rel => exact ⟨_, (!(rdOf false x5_2 x7_3)), sd_, H', ⟨by have := HJ1.out; have := HK2.out; have := HK3.out; have := HK4.out; first | omega | exact Nat.le_refl _⟩, ⟨kr_ HO_5.out⟩, ⟨bk_ BK527.out⟩, ⟨bl_ HB.out⟩⟩
         case rest =>
          clear HC24
          try clear c1
          try clear c2
          try clear p2
          try clear q2
          try clear hx2
          try clear hf2
          try clear c5
          try clear p5
          try clear q5
          try clear hx5
          try clear c6
          try clear p6
          try clear p20
          try clear q20
          try clear hx20
          try clear hf20
          try clear hcz7_0
          try clear hcz7_1
          try clear hfz7_0
          try clear hfz7_1
          try clear hx20_0
          try clear hx529_0
          try clear hx533_0
          try clear hx535_0
          try clear p529
          try clear p533
          try clear p535
          try clear q529
          try clear q533
          try clear q535
          obtain ⟨kq, x57_23, rfl, HA, HJ23, HO_5, BK527, HB⟩ := hcut
          cases kq with
          | zero => exact absurd HA.out (by simp [spec_GapClash.j4])
          | succ kj23 =>
           have H := HA.out
           clear HA
           simp only [spec_GapClash.j4] at H
           by_cases c29 : x57_23 = true
           rotate_left
           ·obtain rfl := Bool.eq_false_iff.mpr c29
            rw [if_neg nf_] at H
            have H' := am_ H
            clear H
            go_wp2
            go_roundg kj23
            case measure => have := HJ1.out; have := HK2.out; have := HK3.out; have := HK4.out; have := HJ23.out; omega
            case rel => exact ⟨(wrap64 (x7_3 + 1)), (x528000_4), (x528001_4), sd_, H', ⟨by have := HJ1.out; have := HK2.out; have := HK3.out; have := HK4.out; have := HJ23.out; omega⟩, ⟨kr_ HO_5.out⟩, ⟨bk_ BK527.out⟩, ⟨bl_ HB.out⟩⟩
           subst c29
           rw [if_pos rfl] at H
           obtain ⟨c30, H⟩ := in_ H
           have c30b0 := decide_eq_true c30
           clear c30
           obtain ⟨c31, H⟩ := in_ H
           have c31b0 := decide_eq_true c31
           clear c31
           obtain ⟨bq32, hbq32⟩ : ∃ b_ : Bool, b_ = (rdOf false x5_2 x8_4) := ⟨_, rfl⟩
           replace H : (if bq32 = true then (spec_GapClash.l2 kj23 (rd l0 (ji8)) x5_2 x7_3 (wrap64 (x8_4 + 1))) else (if 0 ≤ (wrap64 (x7_3 + x8_4)) then (if (wrap64 (x7_3 + x8_4)) < (x5_2.length : Int) then (if rdOf false x5_2 (wrap64 (x7_3 + x8_4)) = true then (some (x7_3, x8_4, true)) else (spec_GapClash.l2 kj23 (rd l0 (ji8)) x5_2 x7_3 (wrap64 (x8_4 + 1)))) else (none)) else (none))) = some (r1, r2, r3) := by rw [← hbq32] at H; exact H
           have Nbq32 := am_ hbq32
           clear hbq32
           by_cases c33 : bq32 = true
           ·subst c33
            rw [if_pos rfl] at H
            have H' := am_ H
            clear H
            obtain ⟨Ao34, co34, eo34⟩ := Kd.R_slice HO_5.out
            subst eo34
            obtain ⟨p536, q536, ad536, e536, hx536_0⟩ := ri_ (Kd.at_bool (Kd.R_reads' HO_5.out).2.2 x8_4)
            (try rw [← Nbq32.out] at hx536_0)
            cases e536
            go_wp2
            go_roundg kj23
            case measure => have := HJ1.out; have := HK2.out; have := HK3.out; have := HK4.out; have := HJ23.out; omega
            case rel => exact ⟨(wrap64 (x8_4 + 1)), (x528000_4), (x528001_4), sd_, H', ⟨by have := HJ1.out; have := HK2.out; have := HK3.out; have := HK4.out; have := HJ23.out; omega⟩, ⟨kr_ HO_5.out⟩, ⟨bk_ BK527.out⟩, ⟨bl_ HB.out⟩⟩
           obtain rfl := Bool.eq_false_iff.mpr c33
           rw [if_neg nf_] at H
           obtain ⟨ji35, hji35⟩ : ∃ j_ : Int, (wrap64 (x7_3 + x8_4)) = j_ := ⟨_, rfl⟩
           replace H : (if 0 ≤ (ji35) then (if (ji35) < (x5_2.length : Int) then (if rdOf false x5_2 (ji35) = true then (some (x7_3, x8_4, true)) else (spec_GapClash.l2 kj23 (rd l0 (ji8)) x5_2 x7_3 (wrap64 (x8_4 + 1)))) else (none)) else (none)) = some (r1, r2, r3) := by first | (rw [hji35] at H; exact H) | (simp only [hji35] at H ⊢; exact H)
           have hji35w : (IntKind.i64.wrap (x7_3 + x8_4)) = ji35 := (i64_w _).trans hji35
           obtain ⟨c36, H⟩ := in_ H
           have c36b0 := decide_eq_true c36
           clear c36
           obtain ⟨c37, H⟩ := in_ H
           have c37b0 := decide_eq_true c37
           clear c37
           obtain ⟨bq38, hbq38⟩ : ∃ b_ : Bool, b_ = (rdOf false x5_2 (ji35)) := ⟨_, rfl⟩
           replace H : (if bq38 = true then (some (x7_3, x8_4, true)) else (spec_GapClash.l2 kj23 (rd l0 (ji8)) x5_2 x7_3 (wrap64 (x8_4 + 1)))) = some (r1, r2, r3) := by rw [← hbq38] at H; exact H
           have Nbq38 := am_ hbq38
           clear hbq38
           by_cases c39 : bq38 = true
           ·subst c39
            rw [if_pos rfl] at H
            simp only [Option.some.injEq, Prod.mk.injEq] at H
            obtain ⟨rfl, rfl, rfl⟩ := H
            obtain ⟨Ao40, co40, eo40⟩ := Kd.R_slice HO_5.out
            subst eo40
            obtain ⟨p536, q536, ad536, e536, hx536_0⟩ := ri_ (Kd.at_bool (Kd.R_reads' HO_5.out).2.2 x8_4)
            (try rw [← Nbq32.out] at hx536_0)
            (try rw [← Nbq38.out] at hx536_0)
            cases e536
            obtain ⟨p537, q537, ad537, e537, hx537_0⟩ := ri_ (Kd.at_bool (Kd.R_reads' HO_5.out).2.2 (ji35))
            (try rw [← Nbq32.out] at hx537_0)
            (try rw [← Nbq38.out] at hx537_0)
            obtain rfl : ad536 = ad537 := (by injection e537)
            have hcz41_0 : wc.cell? ⟨gb527, 0, none⟩ = some (.int .i64 x528000_4) := (blk_cell BK527.out 0).trans rfl
            have hcz41_1 : wc.cell? ⟨gb527, 1, none⟩ = some (.int .i64 x528001_4) := (blk_cell BK527.out 1).trans rfl
            have hfz41_0 := blk_frozen BK527.out 0
            have hfz41_1 := blk_frozen BK527.out 1
            go_wp2
            refine bodyPost_ret (results_ct rfl _ _ gb527 78 #[.int .i64 x7_3, .int .i64 x8_4] (0, 0) _ rfl (by (with_reducible repeat (first | refine blk_drewN ?_ _ | refine blk_drew ?_ | refine blk_alloc ?_ _)); refine blk_put (cs := #[.int .i64 x7_3, .int .i64 x528001_4]) ?_ 1 _ rfl; (with_reducible repeat (first | refine blk_drewN ?_ _ | refine blk_drew ?_ | refine blk_alloc ?_ _)); refine blk_put (cs := #[.int .i64 x528000_4, .int .i64 x528001_4]) ?_ 0 _ rfl; (with_reducible repeat (first | refine blk_drewN ?_ _ | refine blk_drew ?_ | refine blk_alloc ?_ _)); exact BK527.out) Try.underlying78 rfl (by kernel_rfl)) rfl ?_
            exact ⟨by first | rfl | (simp [errW_none, errW_some] <;> rfl) | (simp only [← hji8, ← hji11, ← hji35]; first | rfl | (simp [errW_none, errW_some] <;> rfl)) | (simp [*, errW_none, errW_some] <;> rfl), bl_ HB.out⟩
           obtain rfl := Bool.eq_false_iff.mpr c39
           rw [if_neg nf_] at H
           have H' := am_ H
           clear H
           obtain ⟨Ao42, co42, eo42⟩ := Kd.R_slice HO_5.out
           subst eo42
           obtain ⟨p536, q536, ad536, e536, hx536_0⟩ := ri_ (Kd.at_bool (Kd.R_reads' HO_5.out).2.2 x8_4)
           (try rw [← Nbq32.out] at hx536_0)
           (try rw [← Nbq38.out] at hx536_0)
           cases e536
           obtain ⟨p537, q537, ad537, e537, hx537_0⟩ := ri_ (Kd.at_bool (Kd.R_reads' HO_5.out).2.2 (ji35))
           (try rw [← Nbq32.out] at hx537_0)
           (try rw [← Nbq38.out] at hx537_0)
           obtain rfl : ad536 = ad537 := (by injection e537)
           go_wp2
           go_roundg kj23
           case measure => have := HJ1.out; have := HK2.out; have := HK3.out; have := HK4.out; have := HJ23.out; omega
           case rel => exact ⟨(wrap64 (x8_4 + 1)), (x528000_4), (x528001_4), sd_, H', ⟨by have := HJ1.out; have := HK2.out; have := HK3.out; have := HK4.out; have := HJ23.out; omega⟩, ⟨kr_ HO_5.out⟩, ⟨bk_ BK527.out⟩, ⟨bl_ HB.out⟩⟩
mutual
def spec_FromGaps.j0 : Nat → List Int → Bool → Option (List Int × Bool)
 | 0, _, _ => none
 | k + 1, x0, x20 => if x20 = true then (some (([] : List Int), false)) else ((some (([] : List Int) : List Int)).bind fun y544 => (if (x0.length : Int) > 0 then (if 0 ≤ (wrap64 ((x0.length : Int) - 1)) then (if (wrap64 ((x0.length : Int) - 1)) < (x0.length : Int) then (spec_FromGaps.j1 k x0 y544 (rd x0 (wrap64 ((x0.length : Int) - 1)))) else (none)) else (none)) else (spec_FromGaps.j1 k x0 y544 0)))
def spec_FromGaps.j1 : Nat → List Int → List Int → Int → Option (List Int × Bool)
 | 0, _, _, _ => none
 | k + 1, x0, x6, x7 => spec_FromGaps.l0 k x0 x6 x7 1
def spec_FromGaps.l0 : Nat → List Int → List Int → Int → Int → Option (List Int × Bool)
 | 0, _, _, _, _ => none
 | k + 1, x0, x6, x7, x8 => if x8 ≤ (wrap64 ((wrap64 (2 * x7)) + 2)) then ((spec_HasNumber.f k x0 x8).bind fun t550 => (if t550 = true then (spec_FromGaps.l0 k x0 x6 x7 (wrap64 (x8 + 1))) else (if (x6.length : Int) > 0 then ((spec_l3Table.f k x6 x8).bind fun t551 => (if 0 ≤ x8 then (if x8 < (t551.length : Int) then (if rdOf false t551 x8 = true then (spec_FromGaps.l0 k x0 x6 x7 (wrap64 (x8 + 1))) else (if x6.length < 17592186044416 then (spec_FromGaps.l0 k x0 (x6 ++ [x8]) x7 (wrap64 (x8 + 1))) else (none))) else (none)) else (none))) else (if x6.length < 17592186044416 then (spec_FromGaps.l0 k x0 (x6 ++ [x8]) x7 (wrap64 (x8 + 1))) else (none))))) else ((spec_IsSemigroup.f k x6).bind fun t549 => (if t549 = true then (some (x6, true)) else (some (([] : List Int), false))))
end
def spec_FromGaps.f (k : Nat) (l0 : List Int) : Option (List Int × Bool) := (spec_GapClash.f k l0).bind fun bt539 => ((spec_l8Gaps.f k l0).bind fun t543 => (if t543 = true then (spec_FromGaps.j0 k l0 bt539.2.2) else (spec_FromGaps.j0 k l0 true)))
theorem spec_FromGaps.calls (k : Nat) (A0 : Option Addr) (c0 : Nat) (l0 : List Int) (r1 : List Int) (r2 : Bool) (w : World) (hr0 : Kd.C (Kd.int .i64) w A0 l0.length l0) (hc0 : l0.length ≤ c0) (h : spec_FromGaps.f k l0 = some (r1, r2)) :
 Calls Try.prog 56 #[.slice A0 l0.length c0] w fun e w' => ∃ v0_ : Value, e = .returned (.tuple #[.agg #[v0_], .bool r2]) ∧ Kd.R (Kd.int .i64) 3 w' w.heap.size (fun _ => True) v0_ r1 ∧ Below w.heap.size w w' := by
 have hu29 := Try.underlying29
 have hu78 := Try.underlying78
 have HR0 := am_ hr0
 have HC0 := am_ hc0
 clear hr0 hc0
 have HB := am_ (Below.refl w.heap.size w)
 have H := h
 clear h
 unfold spec_FromGaps.f at H
 replace H := Option.bind_eq_some_iff.mp H
 obtain ⟨⟨t539, t540, t541⟩, A20, H⟩ := H
 (try dsimp only at H)
 have A2 := am_ A20
 clear A20
 have HC3 := am_ H
 clear H
 go_enter Try.func56, Try.ntmps56
 go_upto_region 2 with (first | ((with_reducible refine gate_dst (N := 2) rfl ?_); (try (refine gate_guard (by rfl) ?_; dsimp only)); refine be_ 2 #[.slice none 0 0] 29 fun gb538 hg w4 hbox hb => ?_; have BK538 := am_ (hbox); have GW538 := ge_ hg HB; have GE538 := ge_ hg HB; replace HB := bs_ HB hb; clear hb hbox hg) | ((with_reducible refine gate_callee (f := 101) rfl ?_); refine gl_ 12 Try.func101 #[.slice A0 l0.length c0] ?_; (with_reducible refine (spec_GapClash.calls k _ _ l0 t539 t540 t541 _ ?side1 ?side2 A2.out).mono ?_); (case side1 => exact cs_ HR0 HB); (case side2 => exact HC0.out); rintro e w5 ⟨rfl, hb⟩; refine ⟨_, rfl, ?_⟩; replace BK538 := bb_ BK538 hb; replace HB := bs_ HB hb; (try clear hb); (try clear hb2); (try clear hk); (try clear hi)) | ((with_reducible refine gate_dst (N := 4) rfl ?_); (try (refine gate_guard (by rfl) ?_; dsimp only)); refine be_ 4 #[.int .i64 0, .int .i64 0] 78 fun gb542 hg w6 hbox hb => ?_; have BK542 := am_ (hbox); have GW542 := ge_ hg HB; have GE542 := ge_ hg HB; replace HB := bs_ HB hb; have NB538_542 := nl_ hg BK538; have NB542_538 := ng_ hg BK538; replace BK538 := bb_ BK538 hb; clear hb hbox hg; have hnb7 := NB542_538.out; have hnc7 := NB538_542.out; have hcz8_0 : w6.cell? ⟨gb542, 0, none⟩ = some (.int .i64 0) := (blk_cell BK542.out 0).trans rfl; have hcz8_1 : w6.cell? ⟨gb542, 1, none⟩ = some (.int .i64 0) := (blk_cell BK542.out 1).trans rfl; have hfz8_0 := blk_frozen BK542.out 0; have hfz8_1 := blk_frozen BK542.out 1))
 (try simp only [Act.put, List.setIfInBounds_toArray, List.set_cons_zero, List.set_cons_succ])
 go_cut [20] (fun v20 wc => ∃ (kq : Nat) (x20_2 : Bool), v20 = .bool x20_2 ∧ Aside0 (spec_FromGaps.j0 kq l0 x20_2 = some (r1, r2)) ∧ Aside0 (kq ≤ k) ∧ Aside0 (wc.heap[gb538]? = some (.cells #[(.slice none 0 0)] 29 (0, 0))) ∧ Aside0 (wc.heap[gb542]? = some (.cells #[.int .i64 t539, .int .i64 t540] 78 (0, 0))) ∧ Aside0 (Below w.heap.size w wc))
 case first =>
  have H := HC3.out
  clear HC3
  obtain ⟨t543, A9, H⟩ := ob_ H
  (try dsimp only at H)
  by_cases c10 : t543 = true
  ·subst c10
   rw [if_pos rfl] at H
   have H' := am_ H
   clear H
   go_wp2_with (first | ((with_reducible refine gate_callee (f := 102) rfl ?_); refine gl_ 16 Try.func102 #[.slice A0 l0.length c0] ?_; (with_reducible refine (spec_l8Gaps.calls k _ _ l0 true _ ?side1 ?side2 A9.out).mono ?_); (case side1 => exact Kd.C_below HR0.out (bl_ HB.out)); (case side2 => exact HC0.out); rintro e w' ⟨rfl, ⟨nd, rfl⟩⟩; refine ⟨_, rfl, ?_⟩))
   go_meet
   case rel => exact ⟨_, (t541), sd_, H', ⟨le_⟩, ⟨bf_ BK538.out⟩, ⟨by (with_reducible repeat (first | refine blk_drewN ?_ _ | refine blk_drew ?_ | refine blk_alloc ?_ _)); refine blk_put (cs := #[.int .i64 t539, .int .i64 0]) ?_ 1 _ rfl; (with_reducible repeat (first | refine blk_drewN ?_ _ | refine blk_drew ?_ | refine blk_alloc ?_ _)); refine blk_put (cs := #[.int .i64 0, .int .i64 0]) ?_ 0 _ rfl; (with_reducible repeat (first | refine blk_drewN ?_ _ | refine blk_drew ?_ | refine blk_alloc ?_ _)); exact BK542.out⟩, ⟨bl_ HB.out⟩⟩
  obtain rfl := Bool.eq_false_iff.mpr c10
  rw [if_neg nf_] at H
  have H' := am_ H
  clear H
  go_wp2_with (first | ((with_reducible refine gate_callee (f := 102) rfl ?_); refine gl_ 16 Try.func102 #[.slice A0 l0.length c0] ?_; (with_reducible refine (spec_l8Gaps.calls k _ _ l0 false _ ?side1 ?side2 A9.out).mono ?_); (case side1 => exact Kd.C_below HR0.out (bl_ HB.out)); (case side2 => exact HC0.out); rintro e w' ⟨rfl, ⟨nd, rfl⟩⟩; refine ⟨_, rfl, ?_⟩))
  go_meet
  case rel => exact ⟨_, (true), sd_, H', ⟨le_⟩, ⟨bf_ BK538.out⟩, ⟨by (with_reducible repeat (first | refine blk_drewN ?_ _ | refine blk_drew ?_ | refine blk_alloc ?_ _)); refine blk_put (cs := #[.int .i64 t539, .int .i64 0]) ?_ 1 _ rfl; (with_reducible repeat (first | refine blk_drewN ?_ _ | refine blk_drew ?_ | refine blk_alloc ?_ _)); refine blk_put (cs := #[.int .i64 0, .int .i64 0]) ?_ 0 _ rfl; (with_reducible repeat (first | refine blk_drewN ?_ _ | refine blk_drew ?_ | refine blk_alloc ?_ _)); exact BK542.out⟩, ⟨bl_ HB.out⟩⟩
 case rest =>
  clear HC3
  try clear c1
  try clear p2
  try clear c5
  try clear c7
  try clear c10
  try clear hcz8_0
  try clear hcz8_1
  try clear hfz8_0
  try clear hfz8_1
  obtain ⟨kq, x20_2, rfl, HA, HJ2, BK538, BK542, HB⟩ := hcut
  cases kq with
  | zero => exact absurd HA.out (by simp [spec_FromGaps.j0])
  | succ kj2 =>
   have H := HA.out
   clear HA
   simp only [spec_FromGaps.j0] at H
   by_cases c11 : x20_2 = true
   ·subst c11
    rw [if_pos rfl] at H
    simp only [Option.some.injEq, Prod.mk.injEq] at H
    obtain ⟨rfl, rfl⟩ := H
    have hnb12 := NB538_542.out
    have hnc12 := NB542_538.out
    have hcz13_0 := bc_ BK538
    have hfz13_0 := blk_frozen BK538.out 0
    go_wp2
    refine bodyPost_ret (results_ct rfl _ _ gb538 29 #[.slice none 0 0] (0, 0) _ rfl (by (with_reducible repeat (first | refine blk_drewN ?_ _ | refine blk_drew ?_ | refine blk_alloc ?_ _)); refine blk_put (cs := #[.slice none 0 0]) ?_ 0 _ rfl; (with_reducible repeat (first | refine blk_drewN ?_ _ | refine blk_drew ?_ | refine blk_alloc ?_ _)); exact BK538.out) Try.underlying29 rfl (by kernel_rfl)) rfl ?_
    exact ⟨_, er_, by first | exact Kd.R_nil _ _ _ _ _ | exact Kd.N_nil _ _ _ _ _ | exact Kd.V_nil _ _ _ _ _ | exact Kd.Q_nil _ _ _ _ _ | exact Kd.S_nil _ _ _ _ _, bl_ HB.out⟩
   obtain rfl := Bool.eq_false_iff.mpr c11
   rw [if_neg nf_] at H
   obtain ⟨y544, hy544⟩ : ∃ y_ : List Int, y_ = (([] : List Int)) := ⟨_, rfl⟩
   replace H : (if (l0.length : Int) > 0 then (if 0 ≤ (wrap64 ((l0.length : Int) - 1)) then (if (wrap64 ((l0.length : Int) - 1)) < (l0.length : Int) then (spec_FromGaps.j1 kj2 l0 y544 (rd l0 (wrap64 ((l0.length : Int) - 1)))) else (none)) else (none)) else (spec_FromGaps.j1 kj2 l0 y544 0)) = some (r1, r2) := hr_ hy544 H
   have Ny544 := am_ hy544
   clear hy544
   have HC14 := am_ H
   clear H
   go_upto_if 25 with (first | ((with_reducible refine gate_dst (N := 22) rfl ?_); (try (refine gate_guard (by rfl) ?_; dsimp only)); refine Kd.R_lit (Kd.int .i64) _ 3 ?hg (N := 22) ?hd (xs := ([] : List Int)) (inner := []) (ok := fun _ => True) (okp := fun _ => True) ?hr ?hp (fun _ hk => hk) trivial (Below.refl _ _) (Nat.le_refl _) (by simp) ?_; (case hd => rfl); (case hg => rfl); (case hr => first | (go_simp; done) | (go_simp; rfl)); (case hp => exact (Reps.none _ _)); intro v545 w15 ho16 hb hg_ hnew_; clear hg_ hnew_; (first | rw [← Ny544.out] at ho16 | (simp only [Int.reduceToNat] at ho16; rw [← Ny544.out] at ho16)); have HO546 := rl_ ho16 HB; replace BK538 := bb_ BK538 hb; replace BK542 := bb_ BK542 hb; replace HB := bs_ HB hb; clear hb ho16))
   (try simp only [Act.put, List.setIfInBounds_toArray, List.set_cons_zero, List.set_cons_succ])
   go_cut [7] (fun v7 wc => ∃ (kq : Nat) (x7_13 : Int), v7 = .int .i64 x7_13 ∧ Aside0 (spec_FromGaps.j1 kq l0 y544 x7_13 = some (r1, r2)) ∧ Aside0 (kq ≤ kj2) ∧ Aside0 (Kd.R (Kd.int .i64) 3 wc w.heap.size (fun _ => True) v545 y544) ∧ Aside0 (wc.heap[gb538]? = some (.cells #[(.slice none 0 0)] 29 (0, 0))) ∧ Aside0 (wc.heap[gb542]? = some (.cells #[.int .i64 t539, .int .i64 t540] 78 (0, 0))) ∧ Aside0 (Below w.heap.size w wc))
   case first =>
    have H := HC14.out
    clear HC14
    by_cases c17 : (l0.length : Int) > 0
    rotate_left
    ·rw [if_neg c17] at H
     have c17b0 : decide (0 < (l0.length : Int)) = false := decide_eq_false c17
     have c17b1 : decide (0 < l0.length) = false := decide_eq_false (by omega)
     (try have c17b1t := of_decide_eq_false c17b1)
     clear c17
     (first | rw [c17b0] | (simp only [i64_w, i32_w]; rw [c17b0]) | skip)
     have H' := am_ H
     clear H
     go_wp2
     go_meet
     case rel => exact ⟨_, (0), sd_, H', ⟨by have := HJ2.out; first | omega | exact Nat.le_refl _⟩, ⟨kr_ HO546.out⟩, ⟨bk_ BK538.out⟩, ⟨bk_ BK542.out⟩, ⟨bl_ HB.out⟩⟩
    rw [if_pos c17] at H
    have c17b0 : decide (0 < (l0.length : Int)) = true := decide_eq_true c17
    have c17b1 : decide (0 < l0.length) = true := decide_eq_true (by omega)
    (try have c17b1t := of_decide_eq_true c17b1)
    clear c17
    (first | rw [c17b0] | (simp only [i64_w, i32_w]; rw [c17b0]) | skip)
    obtain ⟨ji18, hji18⟩ : ∃ j_ : Int, (wrap64 ((l0.length : Int) - 1)) = j_ := ⟨_, rfl⟩
    replace H : (if 0 ≤ (ji18) then (if (ji18) < (l0.length : Int) then (spec_FromGaps.j1 kj2 l0 y544 (rd l0 (ji18))) else (none)) else (none)) = some (r1, r2) := by first | (rw [hji18] at H; exact H) | (simp only [hji18] at H ⊢; exact H)
    have hji18w : (IntKind.i64.wrap ((l0.length : Int) - 1)) = ji18 := (i64_w _).trans hji18
    obtain ⟨c19, H⟩ := in_ H
    have c19b0 := decide_eq_true c19
    clear c19
    obtain ⟨c20, H⟩ := in_ H
    have c20b0 := decide_eq_true c20
    clear c20
    have H' := am_ H
    clear H
    obtain ⟨p547, q547, ad547, e547, hx547_0⟩ := ri_ (Kd.at_int HR0.out (ji18))
    cases e547
    replace hx547_0 := (HB.out.cell (World.block_lt_of_cell? w _ hx547_0)).trans hx547_0
    go_wp2
    go_meet
    case rel => exact ⟨_, (rd l0 (ji18)), (by first | rfl | (simp; done) | (simp only [← hji18] <;> (first | rfl | simp)) | (simp [*]; done)), H', ⟨by have := HJ2.out; first | omega | exact Nat.le_refl _⟩, ⟨kr_ HO546.out⟩, ⟨bk_ BK538.out⟩, ⟨bk_ BK542.out⟩, ⟨bl_ HB.out⟩⟩
   case rest =>
    clear HC14
    try clear c1
    try clear c2
    try clear p2
    try clear c5
    try clear p5
    try clear q5
    try clear hx5
    try clear p6
    try clear c7
    try clear c10
    try clear c11
    try clear c12
    try clear hcz13_0
    try clear hcz8_0
    try clear hcz8_1
    try clear hfz13_0
    try clear hfz8_0
    try clear hfz8_1
    try clear hx547_0
    try clear p547
    try clear q547
    obtain ⟨kq, x7_13, rfl, HA, HJ13, HO_6, BK538, BK542, HB⟩ := hcut
    cases kq with
    | zero => exact absurd HA.out (by simp [spec_FromGaps.j1])
    | succ kj13 =>
     have H := HA.out
     clear HA
     simp only [spec_FromGaps.j1] at H
     have H' := am_ H
     clear H
     go_wp2
     go_loopg [6, 8] kj13 (fun kq v6 v8 w' => ∃ (x6_3 : List Int) (x8_3 : Int), v8 = .int .i64 x8_3 ∧ Aside0 (spec_FromGaps.l0 kq l0 x6_3 x7_13 x8_3 = some (r1, r2)) ∧ Aside0 (kq ≤ kj13) ∧ Aside0 (Kd.R (Kd.int .i64) 3 w' w.heap.size (fun _ => True) v6 x6_3) ∧ Aside0 (w'.heap[gb538]? = some (.cells #[(.slice none 0 0)] 29 (0, 0))) ∧ Aside0 (w'.heap[gb542]? = some (.cells #[.int .i64 t539, .int .i64 t540] 78 (0, 0))) ∧ Aside0 (Below w.heap.size w w'))
     case atStart => exact ⟨(y544), (1), sd_, H', ⟨Nat.le_refl _⟩, ⟨kr_ HO_6.out⟩, ⟨bk_ BK538.out⟩, ⟨bk_ BK542.out⟩, ⟨bl_ HB.out⟩⟩
     case round =>
      clear H'
      try clear c1
      try clear c2
      try clear p2
      try clear c5
      try clear p5
      try clear q5
      try clear hx5
      try clear p6
      try clear c7
      try clear c10
      try clear c11
      try clear c12
      try clear hcz13_0
      try clear hcz8_0
      try clear hcz8_1
      try clear hfz13_0
      try clear hfz8_0
      try clear hfz8_1
      try clear hx547_0
      try clear p547
      try clear q547
      obtain ⟨x6_3, x8_3, rfl, HA, HK3, HO_6, BK538, BK542, HB⟩ := hrel
      cases gk with
      | zero => exact absurd HA.out (by simp [spec_FromGaps.l0])
      | succ k3 =>
       have H := HA.out
       clear HA
       simp only [spec_FromGaps.l0] at H
       by_cases c21 : x8_3 ≤ (wrap64 ((wrap64 (2 * x7_13)) + 2))
       rotate_left
       ·rw [if_neg c21] at H
        have c21b0 : decide (x8_3 ≤ (wrap64 ((wrap64 (2 * x7_13)) + 2))) = false := decide_eq_false c21
        clear c21
        obtain ⟨t549, A41, H⟩ := ob_ H
        (try dsimp only at H)
        by_cases c42 : t549 = true
        ·subst c42
         rw [if_pos rfl] at H
         simp only [Option.some.injEq, Prod.mk.injEq] at H
         obtain ⟨rfl, rfl⟩ := H
         obtain ⟨Ao43, co43, eo43⟩ := Kd.R_slice HO_6.out
         subst eo43
         go_wp2_with (first | ((with_reducible refine gate_dst (N := 9) rfl ?_); (try (refine gate_guard (by rfl) ?_; dsimp only)); refine be_ 9 #[.slice none 0 0] 29 fun gb548 hg w44 hbox hb => ?_; replace HO_6 := rb_ HO_6 hb; have BK548 := am_ (hbox); have GW548 := ge_ hg HB; have GE548 := ge_ hg HB; replace HB := bs_ HB hb; have NB538_548 := nl_ hg BK538; have NB548_538 := ng_ hg BK538; replace BK538 := bb_ BK538 hb; have NB542_548 := nl_ hg BK542; have NB548_542 := ng_ hg BK542; replace BK542 := bb_ BK542 hb; clear hb hbox hg; have hnb45 := NB548_538.out; have hnc45 := NB538_548.out; have hnb46 := NB548_542.out; have hnc46 := NB542_548.out; have hcz47_0 := bc_ BK548; have hfz47_0 := blk_frozen BK548.out 0) | ((with_reducible refine gate_callee (f := 52) rfl ?_); refine gl_ 62 Try.func52 #[.agg #[.slice Ao43 x6_3.length co43]] ?_; (with_reducible refine (spec_IsSemigroup.calls k3 _ _ x6_3 true _ ?side1 ?side2 A41.out).mono ?_); (case side1 => refine (Kd.R_reads' (e := 3) (base := w.heap.size) (ok := fun k_ => True) (n := x6_3.length) (c := co43) ?_).2.2; exact (kr_ ((Kd.R_mono (Kd.R_far (p := ⟨gb548, 0, none⟩) (Kd.R_types HO_6.out BK548.out (by decide)) (fun _ hk => hk.2) (.slice Ao43 x6_3.length co43)) (fun _ h_ => h_.1))))); (case side2 => exact (Kd.R_reads' HO_6.out).2.1); rintro e w48 ⟨rfl, hb⟩; refine ⟨_, rfl, ?_⟩; replace HO_6 := am_ (Kd.R_below (kr_ ((Kd.R_mono (Kd.R_far (p := ⟨gb548, 0, none⟩) (Kd.R_types HO_6.out BK548.out (by decide)) (fun _ hk => hk.2) (.slice Ao43 x6_3.length co43)) (fun _ h_ => h_.1)))) hb); replace BK538 := am_ (blk_below (g := gb538) (o := .cells #[.slice none 0 0] 29 (0, 0)) (bf_ BK538.out) hb); replace BK542 := am_ (blk_below (g := gb542) (o := .cells #[.int .i64 t539, .int .i64 t540] 78 (0, 0)) (bf_ BK542.out) hb); replace BK548 := am_ (blk_below (g := gb548) (o := .cells #[.slice Ao43 x6_3.length co43] 29 (0, 0)) (by (with_reducible repeat (first | refine blk_drewN ?_ _ | refine blk_drew ?_ | refine blk_alloc ?_ _)); refine blk_put (cs := #[.slice none 0 0]) ?_ 0 _ rfl; (with_reducible repeat (first | refine blk_drewN ?_ _ | refine blk_drew ?_ | refine blk_alloc ?_ _)); exact BK548.out) hb); replace HB := bs_ HB hb; (try clear hb); (try clear hb2); (try clear hk); (try clear hi); have hcz49_0 := bc_ BK548; have hfz49_0 := blk_frozen BK548.out 0; have hnb50 := NB538_542.out; have hnc50 := NB542_538.out; have hcz51_0 := bc_ BK538; have hfz51_0 := blk_frozen BK538.out 0))
         refine bodyPost_ret (results_ct rfl _ _ gb538 29 #[.slice Ao43 x6_3.length co43] (0, 0) _ rfl (by (with_reducible repeat (first | refine blk_drewN ?_ _ | refine blk_drew ?_ | refine blk_alloc ?_ _)); refine blk_put (cs := #[.slice none 0 0]) ?_ 0 _ rfl; (with_reducible repeat (first | refine blk_drewN ?_ _ | refine blk_drew ?_ | refine blk_alloc ?_ _)); exact BK538.out) Try.underlying29 rfl (by kernel_rfl)) rfl ?_
         exact ⟨_, er_, kr_ (Kd.R_mono (Kd.R_far (p := ⟨gb538, 0, none⟩) (Kd.R_types HO_6.out BK538.out (by decide)) (fun _ hk => hk.2) (.slice Ao43 x6_3.length co43)) (fun _ hk => trivial)), bl_ HB.out⟩
        obtain rfl := Bool.eq_false_iff.mpr c42
        rw [if_neg nf_] at H
        simp only [Option.some.injEq, Prod.mk.injEq] at H
        obtain ⟨rfl, rfl⟩ := H
        obtain ⟨Ao52, co52, eo52⟩ := Kd.R_slice HO_6.out
        subst eo52
        go_wp2_with (first | ((with_reducible refine gate_dst (N := 9) rfl ?_); (try (refine gate_guard (by rfl) ?_; dsimp only)); refine be_ 9 #[.slice none 0 0] 29 fun gb548 hg w53 hbox hb => ?_; replace HO_6 := rb_ HO_6 hb; have BK548 := am_ (hbox); have GW548 := ge_ hg HB; have GE548 := ge_ hg HB; replace HB := bs_ HB hb; have NB538_548 := nl_ hg BK538; have NB548_538 := ng_ hg BK538; replace BK538 := bb_ BK538 hb; have NB542_548 := nl_ hg BK542; have NB548_542 := ng_ hg BK542; replace BK542 := bb_ BK542 hb; clear hb hbox hg; have hnb54 := NB548_538.out; have hnc54 := NB538_548.out; have hnb55 := NB548_542.out; have hnc55 := NB542_548.out; have hcz56_0 := bc_ BK548; have hfz56_0 := blk_frozen BK548.out 0) | ((with_reducible refine gate_callee (f := 52) rfl ?_); refine gl_ 62 Try.func52 #[.agg #[.slice Ao52 x6_3.length co52]] ?_; (with_reducible refine (spec_IsSemigroup.calls k3 _ _ x6_3 false _ ?side1 ?side2 A41.out).mono ?_); (case side1 => refine (Kd.R_reads' (e := 3) (base := w.heap.size) (ok := fun k_ => True) (n := x6_3.length) (c := co52) ?_).2.2; exact (kr_ ((Kd.R_mono (Kd.R_far (p := ⟨gb548, 0, none⟩) (Kd.R_types HO_6.out BK548.out (by decide)) (fun _ hk => hk.2) (.slice Ao52 x6_3.length co52)) (fun _ h_ => h_.1))))); (case side2 => exact (Kd.R_reads' HO_6.out).2.1); rintro e w57 ⟨rfl, hb⟩; refine ⟨_, rfl, ?_⟩; replace HO_6 := am_ (Kd.R_below (kr_ ((Kd.R_mono (Kd.R_far (p := ⟨gb548, 0, none⟩) (Kd.R_types HO_6.out BK548.out (by decide)) (fun _ hk => hk.2) (.slice Ao52 x6_3.length co52)) (fun _ h_ => h_.1)))) hb); replace BK538 := am_ (blk_below (g := gb538) (o := .cells #[.slice none 0 0] 29 (0, 0)) (bf_ BK538.out) hb); replace BK542 := am_ (blk_below (g := gb542) (o := .cells #[.int .i64 t539, .int .i64 t540] 78 (0, 0)) (bf_ BK542.out) hb); replace BK548 := am_ (blk_below (g := gb548) (o := .cells #[.slice Ao52 x6_3.length co52] 29 (0, 0)) (by (with_reducible repeat (first | refine blk_drewN ?_ _ | refine blk_drew ?_ | refine blk_alloc ?_ _)); refine blk_put (cs := #[.slice none 0 0]) ?_ 0 _ rfl; (with_reducible repeat (first | refine blk_drewN ?_ _ | refine blk_drew ?_ | refine blk_alloc ?_ _)); exact BK548.out) hb); replace HB := bs_ HB hb; (try clear hb); (try clear hb2); (try clear hk); (try clear hi); have hnb58 := NB538_542.out; have hnc58 := NB542_538.out; have hcz59_0 := bc_ BK538; have hfz59_0 := blk_frozen BK538.out 0))
        refine bodyPost_ret (results_ct rfl _ _ gb538 29 #[.slice none 0 0] (0, 0) _ rfl (by (with_reducible repeat (first | refine blk_drewN ?_ _ | refine blk_drew ?_ | refine blk_alloc ?_ _)); refine blk_put (cs := #[.slice none 0 0]) ?_ 0 _ rfl; (with_reducible repeat (first | refine blk_drewN ?_ _ | refine blk_drew ?_ | refine blk_alloc ?_ _)); exact BK538.out) Try.underlying29 rfl (by kernel_rfl)) rfl ?_
        exact ⟨_, er_, by first | exact Kd.R_nil _ _ _ _ _ | exact Kd.N_nil _ _ _ _ _ | exact Kd.V_nil _ _ _ _ _ | exact Kd.Q_nil _ _ _ _ _ | exact Kd.S_nil _ _ _ _ _, bl_ HB.out⟩
       rw [if_pos c21] at H
       have c21b0 := decide_eq_true c21
       clear c21
       obtain ⟨t550, A22, H⟩ := ob_ H
       (try dsimp only at H)
       by_cases c23 : t550 = true
       ·subst c23
        rw [if_pos rfl] at H
        have H' := am_ H
        clear H
        go_wp2_with (first | ((with_reducible refine gate_callee (f := 55) rfl ?_); refine gl_ 41 Try.func55 #[.slice A0 l0.length c0, .int .i64 x8_3] ?_; (with_reducible refine (spec_HasNumber.calls k3 _ _ l0 x8_3 true _ ?side1 ?side2 A22.out).mono ?_); (case side1 => exact cs_ HR0 HB); (case side2 => exact HC0.out); rintro e w' ⟨rfl, ⟨nd, rfl⟩⟩; refine ⟨_, rfl, ?_⟩))
        go_roundg k3
        case measure => have := HJ2.out; have := HJ13.out; have := HK3.out; omega
        case rel => exact ⟨(x6_3), (wrap64 (x8_3 + 1)), sd_, H', ⟨by have := HJ2.out; have := HJ13.out; have := HK3.out; omega⟩, ⟨kr_ HO_6.out⟩, ⟨bk_ BK538.out⟩, ⟨bk_ BK542.out⟩, ⟨bl_ HB.out⟩⟩
       obtain rfl := Bool.eq_false_iff.mpr c23
       rw [if_neg nf_] at H
       by_cases c24 : (x6_3.length : Int) > 0
       rotate_left
       ·rw [if_neg c24] at H
        have c24b0 : decide (0 < (x6_3.length : Int)) = false := decide_eq_false c24
        have c24b1 : decide (0 < x6_3.length) = false := decide_eq_false (by omega)
        (try have c24b1t := of_decide_eq_false c24b1)
        clear c24
        by_cases c38 : x6_3.length < 17592186044416
        ·rw [if_pos c38] at H
         have LMc38 := am_ c38
         clear c38
         obtain ⟨y558, hy558⟩ : ∃ y_ : List Int, y_ = (x6_3 ++ [x8_3]) := ⟨_, rfl⟩
         replace H : (spec_FromGaps.l0 k3 l0 y558 x7_13 (wrap64 (x8_3 + 1))) = some (r1, r2) := hr_ hy558 H
         have Ny558 := am_ hy558
         clear hy558
         have H' := am_ H
         clear H
         go_wp2_with (first | ((with_reducible refine gate_callee (f := 55) rfl ?_); refine gl_ 41 Try.func55 #[.slice A0 l0.length c0, .int .i64 x8_3] ?_; (with_reducible refine (spec_HasNumber.calls k3 _ _ l0 x8_3 false _ ?side1 ?side2 A22.out).mono ?_); (case side1 => exact cs_ HR0 HB); (case side2 => exact HC0.out); rintro e w' ⟨rfl, ⟨nd, rfl⟩⟩; refine ⟨_, rfl, ?_⟩; obtain ⟨Ao39, co39, eo39⟩ := Kd.R_slice HO_6.out; subst eo39) | ((with_reducible refine gate_builtin (b := .append) (xs := #[.tmp 55, .tmp 57]) rfl ?_); (try (refine gate_guard (by rfl) ?_; dsimp only)); at_builtin; refine Kd.R_append (Kd.int .i64) (w0 := w) w.heap.size rfl (.tmp 55) (.tmp 57) 22 3 (.int .i64 0) 8 rfl Try.underlying22 info3 rfl (by decide) (by omega) (.slice Ao39 x6_3.length co39) x6_3 x8_3 [.int .i64 x8_3] (fun _ => True) (fun _ => False) rfl rfl ?aP (fun _ hk => hk.elim) ?aF ?aO ?aB ?aS ?aL ?_; (case aP => exact rfl); (case aB => exact (bl_ HB.out)); (case aF => exact (fun _ _ => trivial)); (case aO => exact (kr_ HO_6.out)); (case aS => exact (below_size (bl_ HB.out))); (case aL => have := LMc38.out; omega); intro v559 w40 ho hb hg hat; rw [← Ny558.out] at ho; have n0_ := am_ (blk_grown (g := gb538) (o := .cells #[.slice none 0 0] 29 (0, 0)) (bk_ BK538.out) hg (Kd.R_ne HO_6.out BK538.out (by decide))); have n1_ := am_ (blk_grown (g := gb542) (o := .cells #[.int .i64 t539, .int .i64 t540] 78 (0, 0)) (bk_ BK542.out) hg (Kd.R_ne HO_6.out BK542.out (by decide))); have n2_ := am_ (hb); have n3_ := am_ (ho); clear BK538; clear BK542; clear HB; clear HO_6; have BK538 := n0_; have BK542 := n1_; have HB := n2_; have HO560 := n3_; clear n0_ n1_ n2_ n3_; clear ho hb hg hat))
         go_roundg k3
         case measure => have := HJ2.out; have := HJ13.out; have := HK3.out; omega
         case rel => exact ⟨(y558), (wrap64 (x8_3 + 1)), sd_, H', ⟨by have := HJ2.out; have := HJ13.out; have := HK3.out; omega⟩, ⟨kr_ HO560.out⟩, ⟨bk_ BK538.out⟩, ⟨bk_ BK542.out⟩, ⟨bl_ HB.out⟩⟩
        rw [if_neg c38] at H
        exact absurd H (by simp)
       rw [if_pos c24] at H
       have c24b0 : decide (0 < (x6_3.length : Int)) = true := decide_eq_true c24
       have c24b1 : decide (0 < x6_3.length) = true := decide_eq_true (by omega)
       (try have c24b1t := of_decide_eq_true c24b1)
       clear c24
       obtain ⟨t551, A25, H⟩ := ob_ H
       (try dsimp only at H)
       obtain ⟨c26, H⟩ := in_ H
       have c26b0 := decide_eq_true c26
       clear c26
       obtain ⟨c27, H⟩ := in_ H
       have c27b0 := decide_eq_true c27
       clear c27
       obtain ⟨bq28, hbq28⟩ : ∃ b_ : Bool, b_ = (rdOf false t551 x8_3) := ⟨_, rfl⟩
       replace H : (if bq28 = true then (spec_FromGaps.l0 k3 l0 x6_3 x7_13 (wrap64 (x8_3 + 1))) else (if x6_3.length < 17592186044416 then (spec_FromGaps.l0 k3 l0 (x6_3 ++ [x8_3]) x7_13 (wrap64 (x8_3 + 1))) else (none))) = some (r1, r2) := by rw [← hbq28] at H; exact H
       have Nbq28 := am_ hbq28
       clear hbq28
       by_cases c29 : bq28 = true
       ·subst c29
        rw [if_pos rfl] at H
        have H' := am_ H
        clear H
        go_wp2_with (first | ((with_reducible refine gate_callee (f := 55) rfl ?_); refine gl_ 41 Try.func55 #[.slice A0 l0.length c0, .int .i64 x8_3] ?_; (with_reducible refine (spec_HasNumber.calls k3 _ _ l0 x8_3 false _ ?side1 ?side2 A22.out).mono ?_); (case side1 => exact cs_ HR0 HB); (case side2 => exact HC0.out); rintro e w' ⟨rfl, ⟨nd, rfl⟩⟩; refine ⟨_, rfl, ?_⟩; obtain ⟨Ao30, co30, eo30⟩ := Kd.R_slice HO_6.out; subst eo30) | (go_at_call 99; (with_reducible refine (spec_l3Table.calls k3 _ _ x6_3 x8_3 t551 _ ?side1 ?side2 A25.out).mono ?_); (case side1 => exact rs_ HO_6); (case side2 => exact (Kd.R_reads' HO_6.out).2.1); rintro e w31 ⟨v552, rfl, ho0, hb⟩; replace HO_6 := rb_ HO_6 hb; have HO553 := rl_ ho0 HB; replace BK538 := bb_ BK538 hb; replace BK542 := bb_ BK542 hb; replace HB := bs_ HB hb; (try clear hb); (try clear hb2); (try clear hk); (try clear hi); (try clear ho0); obtain ⟨Ao32, co32, eo32⟩ := Kd.R_slice HO553.out; subst eo32; obtain ⟨p554, q554, ad554, e554, hx554_0⟩ := ri_ (Kd.at_bool (Kd.R_reads' HO553.out).2.2 x8_3); (try rw [← Nbq28.out] at hx554_0); cases e554))
        go_roundg k3
        case measure => have := HJ2.out; have := HJ13.out; have := HK3.out; omega
        case rel => exact ⟨(x6_3), (wrap64 (x8_3 + 1)), sd_, H', ⟨by have := HJ2.out; have := HJ13.out; have := HK3.out; omega⟩, ⟨kr_ HO_6.out⟩, ⟨bk_ BK538.out⟩, ⟨bk_ BK542.out⟩, ⟨bl_ HB.out⟩⟩
       obtain rfl := Bool.eq_false_iff.mpr c29
       rw [if_neg nf_] at H
       by_cases c33 : x6_3.length < 17592186044416
       ·rw [if_pos c33] at H
        have LMc33 := am_ c33
        clear c33
        obtain ⟨y555, hy555⟩ : ∃ y_ : List Int, y_ = (x6_3 ++ [x8_3]) := ⟨_, rfl⟩
        replace H : (spec_FromGaps.l0 k3 l0 y555 x7_13 (wrap64 (x8_3 + 1))) = some (r1, r2) := hr_ hy555 H
        have Ny555 := am_ hy555
        clear hy555
        have H' := am_ H
        clear H
        go_wp2_with (first | ((with_reducible refine gate_callee (f := 55) rfl ?_); refine gl_ 41 Try.func55 #[.slice A0 l0.length c0, .int .i64 x8_3] ?_; (with_reducible refine (spec_HasNumber.calls k3 _ _ l0 x8_3 false _ ?side1 ?side2 A22.out).mono ?_); (case side1 => exact cs_ HR0 HB); (case side2 => exact HC0.out); rintro e w' ⟨rfl, ⟨nd, rfl⟩⟩; refine ⟨_, rfl, ?_⟩; obtain ⟨Ao34, co34, eo34⟩ := Kd.R_slice HO_6.out; subst eo34) | (go_at_call 99; (with_reducible refine (spec_l3Table.calls k3 _ _ x6_3 x8_3 t551 _ ?side1 ?side2 A25.out).mono ?_); (case side1 => exact rs_ HO_6); (case side2 => exact (Kd.R_reads' HO_6.out).2.1); rintro e w35 ⟨v552, rfl, ho0, hb⟩; replace HO_6 := rb_ HO_6 hb; have HO553 := rl_ ho0 HB; replace BK538 := bb_ BK538 hb; replace BK542 := bb_ BK542 hb; replace HB := bs_ HB hb; (try clear hb); (try clear hb2); (try clear hk); (try clear hi); (try clear ho0); obtain ⟨Ao36, co36, eo36⟩ := Kd.R_slice HO553.out; subst eo36; obtain ⟨p554, q554, ad554, e554, hx554_0⟩ := ri_ (Kd.at_bool (Kd.R_reads' HO553.out).2.2 x8_3); (try rw [← Nbq28.out] at hx554_0); cases e554) | ((with_reducible refine gate_builtin (b := .append) (xs := #[.tmp 55, .tmp 57]) rfl ?_); (try (refine gate_guard (by rfl) ?_; dsimp only)); at_builtin; refine Kd.R_append (Kd.int .i64) (w0 := w) w.heap.size rfl (.tmp 55) (.tmp 57) 22 3 (.int .i64 0) 8 rfl Try.underlying22 info3 rfl (by decide) (by omega) (.slice Ao34 x6_3.length co34) x6_3 x8_3 [.int .i64 x8_3] (fun _ => True) (fun _ => False) rfl rfl ?aP (fun _ hk => hk.elim) ?aF ?aO ?aB ?aS ?aL ?_; (case aP => exact rfl); (case aB => exact (bl_ HB.out)); (case aF => exact (fun _ _ => trivial)); (case aO => exact (kr_ HO_6.out)); (case aS => exact (below_size (bl_ HB.out))); (case aL => have := LMc33.out; omega); intro v556 w37 ho hb hg hat; rw [← Ny555.out] at ho; have n0_ := am_ (blk_grown (g := gb538) (o := .cells #[.slice none 0 0] 29 (0, 0)) (bk_ BK538.out) hg (Kd.R_ne HO_6.out BK538.out (by decide))); have n1_ := am_ (blk_grown (g := gb542) (o := .cells #[.int .i64 t539, .int .i64 t540] 78 (0, 0)) (bk_ BK542.out) hg (Kd.R_ne HO_6.out BK542.out (by decide))); have n2_ := am_ (Kd.R_over' (kr_ HO553.out) (Kd.R_typed (kr_ HO_6.out)) (by decide) hg); have n3_ := am_ (hb); have n4_ := am_ (ho); clear BK538; clear BK542; clear HO553; clear HB; clear HO_6; have BK538 := n0_; have BK542 := n1_; have HO553 := n2_; have HB := n3_; have HO557 := n4_; clear n0_ n1_ n2_ n3_ n4_; clear ho hb hg hat))
        go_roundg k3
        case measure => have := HJ2.out; have := HJ13.out; have := HK3.out; omega
        case rel => exact ⟨(y555), (wrap64 (x8_3 + 1)), sd_, H', ⟨by have := HJ2.out; have := HJ13.out; have := HK3.out; omega⟩, ⟨kr_ HO557.out⟩, ⟨bk_ BK538.out⟩, ⟨bk_ BK542.out⟩, ⟨bl_ HB.out⟩⟩
       rw [if_neg c33] at H
       exact absurd H (by simp)
end Go.Proofs.Ytddgegejeoihaaa.PFnArf
end
