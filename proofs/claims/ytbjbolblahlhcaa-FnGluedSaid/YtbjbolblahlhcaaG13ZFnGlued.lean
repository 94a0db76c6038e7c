/- Part 13 of the claim for FnGlued, of the chain from the printed contracts and the plain laws to the row. It has no condition of its own. -/
import Derived.Test.YtbjbolblahlhcaaG1ZFnGlued
import Derived.Test.YtbjbolblahlhcaaG3ZFnGlued
import Derived.Test.YtbjbolblahlhcaaG7ZFnGlued
import Derived.Test.YtbjbolblahlhcaaG2ZFnGlued
import Derived.Test.YtbjbolblahlhcaaG4ZFnGlued
import Derived.Test.YtbjbolblahlhcaaG6ZFnGlued
import Derived.Test.YtbjbolblahlhcaaG11ZFnGlued
import Derived.Test.YtbjbolblahlhcaaG12ZFnGlued
import Derived.Test.YtbjbolblahlhcaaG0ZFnGlued
import Derived.Test.YtbjbolblahlhcaaG5ZFnGlued
import Derived.Test.YtbjbolblahlhcaaG8ZFnGlued
import Derived.Test.YtbjbolblahlhcaaG9ZFnGlued
import Derived.Test.YtbjbolblahlhcaaG10ZFnGlued
section
namespace Go.Proofs.Ytbjbolblahlhcaa.PFnGlued
open Go.RowKit Go.Proofs.YtbjbolblahlhcaaW.PrintWords Go.Proofs.YtbjbolblahlhcaaW.PrintLast Go.Proofs.YtbjbolblahlhcaaW.PrintMore
open Go.Proofs.Ytbjbolblahlhcaa.SortW (bk_ kr_ t_ f_)
open Go.Proofs.Ytbjbolblahlhcaa.SqW
attribute [local go_sem] max2_int min2_int max_two min_two max_three min_three max_four min_four
set_option maxHeartbeats 8000000
set_option maxRecDepth 100000
set_option linter.unusedVariables false
set_option linter.unusedSimpArgs false
mutual
def spec_l9Mirror.l0 : Nat → Bool → Int → Int → List Int → Option (Bool)
 | 0, _, _, _, _ => none
 | k + 1, x1, x5, x6, x823000 => if x6 ≤ x5 then (if x1 = true then (spec_l9Mirror.j1 k x1 x5 x6 ((wrap64 (2 * x6)) == x5) x823000) else (spec_l9Mirror.j1 k x1 x5 x6 false x823000)) else (some true)
def spec_l9Mirror.j1 : Nat → Bool → Int → Int → Bool → List Int → Option (Bool)
 | 0, _, _, _, _, _ => none
 | k + 1, x1, x5, x6, x20, x823000 => if x20 = true then (spec_l9Mirror.l0 k x1 x5 (wrap64 (x6 + 1)) x823000) else ((spec_l3Has.f k x823000 x6).bind fun t824 => ((spec_l3Has.f k x823000 (wrap64 (x5 - x6))).bind fun t825 => (if (t824 == t825) = true then (some false) else (spec_l9Mirror.l0 k x1 x5 (wrap64 (x6 + 1)) x823000))))
end
def spec_l9Mirror.f (k : Nat) (l0_0 : List Int) (a1 : Bool) : Option (Bool) := (spec_FrobeniusOf.f k l0_0).bind fun t823 => (spec_l9Mirror.l0 k a1 t823 0 l0_0)
def spec_l9Mirror.T6 : Bool × List (List Nat × List Nat) := (true, [([], []), ([], []), ([0, 1], [0, 1]), ([], []), ([], []), ([], []), ([4, 5], [4, 5]), ([3, 6, 2], [3, 6]), ([2, 7], [2, 7])])
def spec_l9Mirror.B6 : List Nat := [0, 0, 3, 0, 0, 0, 48, 127, 255]
theorem spec_l9Mirror.tab6 : rtab .any (opsOf Try.f129 6) = spec_l9Mirror.T6 := by kernel_rfl
theorem spec_l9Mirror.bits6 : waitsOk spec_l9Mirror.T6.2 spec_l9Mirror.B6 = true := by kernel_rfl
theorem spec_l9Mirror.calls (k : Nat) (A0_0 : Option Addr) (c0_0 : Nat) (l0_0 : List Int) (a1 : Bool) (r : Bool) (w : World) (hr0_0 : Kd.C (Kd.int .i64) w A0_0 l0_0.length l0_0) (hc0_0 : l0_0.length ≤ c0_0) (h : spec_l9Mirror.f k l0_0 a1 = some r) :
 Calls Try.prog 129 #[.agg #[.slice A0_0 l0_0.length c0_0], .bool a1] w fun e w' => e = .returned (.bool r) ∧ Below w.heap.size w w' := by
 have hu41 := Try.underlying41
 have HR0_0 := Aside0.mk hr0_0
 have HC0_0 := Aside0.mk hc0_0
 clear hr0_0 hc0_0
 have HB := Aside0.mk (Below.refl w.heap.size w)
 have H := h
 clear h
 unfold spec_l9Mirror.f at H
 obtain ⟨t823, A3, H⟩ := ob_ H
 (try dsimp only at H)
 have H' := Aside0.mk H
 clear H
 go_enter Try.func129, Try.ntmps129
 go_wp2_with (first | ((with_reducible refine gate_dst (N := 2) rfl ?_); refine be_ 2 #[.slice A0_0 l0_0.length c0_0] 41 fun gb822 hg w4 hbox hb => ?_; have BK822 := Aside0.mk (hbox); have GW822 := ge_ hg HB; have GE822 := ge_ hg HB; replace HB := bs_ HB hb; clear hb hbox hg; have hcz5_0 := bc_ BK822; have hfz5_0 := blk_frozen BK822.out 0) | ((with_reducible refine gate_callee (f := 72) rfl ?_); refine gl_ 8 Try.func72 #[.agg #[.slice A0_0 l0_0.length c0_0]] ?_; (with_reducible refine (spec_FrobeniusOf.calls k _ _ l0_0 t823 _ ?side1 ?side2 A3.out).mono ?_); (case side1 => exact cs_ HR0_0 HB); (case side2 => exact HC0_0.out); rintro e w6 ⟨rfl, hb⟩; refine ⟨_, rfl, ?_⟩; replace BK822 := bb_ BK822 hb; replace HB := bs_ HB hb; (try clear hb); (try clear hb2); (try clear hk); (try clear hi)))
 go_loopg [6] k (fun kq v6 w' => ∃ (x6_1 : Int), v6 = .int .i64 x6_1 ∧ Aside0 (spec_l9Mirror.l0 kq a1 t823 x6_1 l0_0 = some r) ∧ Aside0 (kq ≤ k) ∧ Aside0 (w'.heap[gb822]? = some (.cells #[(.slice A0_0 l0_0.length c0_0)] 41 (0, 0))) ∧ Aside0 (Below w.heap.size w w'))
 case atStart => exact ⟨(0), sd_, H', ⟨Nat.le_refl _⟩, ⟨bk_ BK822.out⟩, ⟨bl_ HB.out⟩⟩
 case round =>
  clear H'
  try clear c1
  try clear p2
  try clear hcz5_0
  try clear hfz5_0
  obtain ⟨x6_1, rfl, HA, HK1, BK822, HB⟩ := hrel
  cases gk with
  | zero => exact absurd HA.out (by simp [spec_l9Mirror.l0])
  | succ k1 =>
   have H := HA.out
   clear HA
   simp only [spec_l9Mirror.l0] at H
   by_cases c7 : x6_1 ≤ t823
   ·rw [if_pos c7] at H
    have c7b0 : decide (x6_1 ≤ t823) = true := decide_eq_true c7
    clear c7
    have HC8 := Aside0.mk H
    clear H
    go_upto_region 5 with (fail)
    go_cut [20] (fun v20 wc => ∃ (kq : Nat) (x20_7 : Bool), v20 = .bool x20_7 ∧ Aside0 (spec_l9Mirror.j1 kq a1 t823 x6_1 x20_7 l0_0 = some r) ∧ Aside0 (kq ≤ k1) ∧ Aside0 (wc.heap[gb822]? = some (.cells #[(.slice A0_0 l0_0.length c0_0)] 41 (0, 0))) ∧ Aside0 (Below w.heap.size w wc))
    case first =>
     have H := HC8.out
     clear HC8
     by_cases c9 : a1 = true
     ·subst c9
      rw [if_pos rfl] at H
      have H' := Aside0.mk H
      clear H
      go_wp2
      go_meet
      case rel => exact ⟨_, (((wrap64 (2 * x6_1)) == t823)), sd_, H', ⟨by have := HK1.out; first | omega | exact Nat.le_refl _⟩, ⟨bk_ BK822.out⟩, ⟨bl_ HB.out⟩⟩
     ·obtain rfl := Bool.eq_false_iff.mpr c9
      rw [if_neg nf_] at H
      have H' := Aside0.mk H
      clear H
      go_wp2
      go_meet
      case rel => exact ⟨_, (false), sd_, H', ⟨by have := HK1.out; first | omega | exact Nat.le_refl _⟩, ⟨bk_ BK822.out⟩, ⟨bl_ HB.out⟩⟩
    case rest =>
     clear HC8
     try clear c1
     try clear p2
     try clear p6
     try clear c7
     try clear c7b0
     try clear c9
     try clear hcz5_0
     try clear hfz5_0
     try clear p2
     obtain ⟨kq, x20_7, rfl, HA, HJ7, BK822, HB⟩ := hcut
     cases kq with
     | zero => exact absurd HA.out (by simp [spec_l9Mirror.j1])
     | succ kj7 =>
      have H := HA.out
      clear HA
      simp only [spec_l9Mirror.j1] at H
      by_cases c10 : x20_7 = true
      ·subst c10
       rw [if_pos rfl] at H
       have H' := Aside0.mk H
       clear H
       go_wp2
       go_roundg kj7
       case measure => have := HK1.out; have := HJ7.out; omega
       case rel => exact ⟨(wrap64 (x6_1 + 1)), sd_, H', ⟨by have := HK1.out; have := HJ7.out; omega⟩, ⟨bk_ BK822.out⟩, ⟨bl_ HB.out⟩⟩
      ·obtain rfl := Bool.eq_false_iff.mpr c10
       rw [if_neg nf_] at H
       obtain ⟨t824, A11, H⟩ := ob_ H
       (try dsimp only at H)
       obtain ⟨t825, A12, H⟩ := ob_ H
       (try dsimp only at H)
       by_cases c13 : (t824 == t825) = true
       ·rw [if_pos c13] at H
        have c13b0 : (t824 == t825) = true := c13
        (try (have c13b1 : decide (t824 = t825) = true := by simpa using c13))
        (try (have c13b2 : (t824 == t825) = true := by simpa using c13))
        clear c13
        obtain rfl := Option.some.inj H
        try go_wp2
        replace BK822 := Aside0.mk (blk_drew BK822.out)
        replace HB := Aside0.mk (below_drew1 HB.out)
        refine start_ (n := 9) (S := fun w' => w'.cell? ⟨gb822, 0, none⟩ = some (.slice A0_0 l0_0.length c0_0)) (ds := []) (fl_ 9 0) (by kernel_rfl) rfl rfl ((blk_cell BK822.out 0).trans rfl) (fun hHeld => ?_); refine with_tabW spec_l9Mirror.tab6 spec_l9Mirror.bits6 (fun HT_ HW_ => ?_)
        generalize wc.drew = w14 at BK822 HB hHeld ⊢
        refine pu_ 1 22 (fm_ 9 2) ?_
        refine pu_ 4 25 (fm_ 9 18) ?_
        refine pu_ 5 26 (fm_ 9 50) ?_
        refine pu_ 6 27 (fm_ 9 114) ?_
        refine ta_ 0 21 (fm_ 9 115) ?_
        refine ta_ 3 24 (fm_ 9 123) ?_
        refine on_ 2 23 (fl_ 9 7) fun K hK => ?_
        refine go_ Try.func142 #[.agg #[.slice A0_0 l0_0.length c0_0], .int .i64 x6_1] ?_
        with_reducible refine (spec_l3Has.calls kj7 _ _ l0_0 x6_1 t824 _ ?side1 ?side2 A11.out).mono ?_
        (case side1 => exact cs_ HR0_0 HB)
        (case side2 => exact HC0_0.out)
        rintro e w15 ⟨rfl, hb⟩
        refine ⟨_, rfl, ?_⟩
        replace BK822 := bb_ BK822 hb
        replace HB := bs_ HB hb
        (try clear hb)
        (try clear hb2)
        (try clear hk)
        (try clear hi)
        refine hK.out _ _ ((blk_cell BK822.out 0).trans rfl) (fun hHeld => ?_)
        clear hK K
        refine no_ 23 ?_
        refine on_ 7 28 (fl_ 9 8) fun K hK => ?_
        refine go_ Try.func142 #[.agg #[.slice A0_0 l0_0.length c0_0], .int .i64 (wrap64 (t823 - x6_1))] ?_
        with_reducible refine (spec_l3Has.calls kj7 _ _ l0_0 (wrap64 (t823 - x6_1)) t825 _ ?side1 ?side2 A12.out).mono ?_
        (case side1 => exact cs_ HR0_0 HB)
        (case side2 => exact HC0_0.out)
        rintro e w16 ⟨rfl, hb⟩
        refine ⟨_, rfl, ?_⟩
        replace BK822 := bb_ BK822 hb
        replace HB := bs_ HB hb
        (try clear hb)
        (try clear hb2)
        (try clear hk)
        (try clear hi)
        refine hK.out _ _ ((blk_cell BK822.out 0).trans rfl) (fun hHeld => ?_)
        clear hK K
        refine no_ 28 ?_
        refine pu_ 8 29 (fl_ 9 9) ?_
        refine done_ (done_of HT_.out (by kernel_rfl)) ?_
        try go_wp2
        go_ret
        exact ⟨er_, bl_ HB.out⟩
       ·rw [if_neg c13] at H
        have c13b0 : (t824 == t825) = false := by simpa using c13
        (try (have c13b1 : decide (t824 = t825) = false := by simpa using c13))
        (try (have c13b2 : (t824 == t825) = false := by simpa using c13))
        (try (have c13b3 : ¬ (t824 = t825) := by simpa using c13))
        clear c13
        have H' := Aside0.mk H
        clear H
        try go_wp2
        replace BK822 := Aside0.mk (blk_drew BK822.out)
        replace HB := Aside0.mk (below_drew1 HB.out)
        refine start_ (n := 9) (S := fun w' => w'.cell? ⟨gb822, 0, none⟩ = some (.slice A0_0 l0_0.length c0_0)) (ds := []) (fl_ 9 0) (by kernel_rfl) rfl rfl ((blk_cell BK822.out 0).trans rfl) (fun hHeld => ?_); refine with_tabW spec_l9Mirror.tab6 spec_l9Mirror.bits6 (fun HT_ HW_ => ?_)
        generalize wc.drew = w17 at BK822 HB hHeld ⊢
        refine pu_ 1 22 (fm_ 9 2) ?_
        refine pu_ 4 25 (fm_ 9 18) ?_
        refine pu_ 5 26 (fm_ 9 50) ?_
        refine pu_ 6 27 (fm_ 9 114) ?_
        refine ta_ 0 21 (fm_ 9 115) ?_
        refine ta_ 3 24 (fm_ 9 123) ?_
        refine on_ 2 23 (fl_ 9 7) fun K hK => ?_
        refine go_ Try.func142 #[.agg #[.slice A0_0 l0_0.length c0_0], .int .i64 x6_1] ?_
        with_reducible refine (spec_l3Has.calls kj7 _ _ l0_0 x6_1 t824 _ ?side1 ?side2 A11.out).mono ?_
        (case side1 => exact cs_ HR0_0 HB)
        (case side2 => exact HC0_0.out)
        rintro e w18 ⟨rfl, hb⟩
        refine ⟨_, rfl, ?_⟩
        replace BK822 := bb_ BK822 hb
        replace HB := bs_ HB hb
        (try clear hb)
        (try clear hb2)
        (try clear hk)
        (try clear hi)
        refine hK.out _ _ ((blk_cell BK822.out 0).trans rfl) (fun hHeld => ?_)
        clear hK K
        refine no_ 23 ?_
        refine on_ 7 28 (fl_ 9 8) fun K hK => ?_
        refine go_ Try.func142 #[.agg #[.slice A0_0 l0_0.length c0_0], .int .i64 (wrap64 (t823 - x6_1))] ?_
        with_reducible refine (spec_l3Has.calls kj7 _ _ l0_0 (wrap64 (t823 - x6_1)) t825 _ ?side1 ?side2 A12.out).mono ?_
        (case side1 => exact cs_ HR0_0 HB)
        (case side2 => exact HC0_0.out)
        rintro e w19 ⟨rfl, hb⟩
        refine ⟨_, rfl, ?_⟩
        replace BK822 := bb_ BK822 hb
        replace HB := bs_ HB hb
        (try clear hb)
        (try clear hb2)
        (try clear hk)
        (try clear hi)
        refine hK.out _ _ ((blk_cell BK822.out 0).trans rfl) (fun hHeld => ?_)
        clear hK K
        refine no_ 28 ?_
        refine pu_ 8 29 (fl_ 9 9) ?_
        refine done_ (done_of HT_.out (by kernel_rfl)) ?_
        try go_wp2
        go_roundg kj7
        case measure => have := HK1.out; have := HJ7.out; omega
        case rel => exact ⟨(wrap64 (x6_1 + 1)), sd_, H', ⟨by have := HK1.out; have := HJ7.out; omega⟩, ⟨bk_ BK822.out⟩, ⟨bl_ HB.out⟩⟩
   ·rw [if_neg c7] at H
    have c7b0 : decide (x6_1 ≤ t823) = false := decide_eq_false c7
    clear c7
    obtain rfl := Option.some.inj H
    go_wp2
    go_ret
    exact ⟨er_, bl_ HB.out⟩
def spec_IsSymmetric.f (k : Nat) (l0_0 : List Int) : Option (Bool) := (spec_IsSemigroup.f k l0_0).bind fun t827 => (if t827 = true then ((spec_l9Mirror.f k l0_0 false).bind fun t828 => (some t828)) else (some false))
theorem spec_IsSymmetric.calls (k : Nat) (A0_0 : Option Addr) (c0_0 : Nat) (l0_0 : List Int) (r : Bool) (w : World) (hr0_0 : Kd.C (Kd.int .i64) w A0_0 l0_0.length l0_0) (hc0_0 : l0_0.length ≤ c0_0) (h : spec_IsSymmetric.f k l0_0 = some r) :
 Calls Try.prog 73 #[.agg #[.slice A0_0 l0_0.length c0_0]] w fun e w' => e = .returned (.bool r) ∧ Below w.heap.size w w' := by
 have hu41 := Try.underlying41
 have HR0_0 := Aside0.mk hr0_0
 have HC0_0 := Aside0.mk hc0_0
 clear hr0_0 hc0_0
 have HB := Aside0.mk (Below.refl w.heap.size w)
 have H := h
 clear h
 unfold spec_IsSymmetric.f at H
 obtain ⟨t827, A2, H⟩ := ob_ H
 (try dsimp only at H)
 by_cases c3 : t827 = true
 ·subst c3
  rw [if_pos rfl] at H
  obtain ⟨t828, A4, H⟩ := ob_ H
  (try dsimp only at H)
  obtain rfl := Option.some.inj H
  go_enter Try.func73, Try.ntmps73
  go_wp2_with (first | ((with_reducible refine gate_dst (N := 1) rfl ?_); refine be_ 1 #[.slice A0_0 l0_0.length c0_0] 41 fun gb826 hg w5 hbox hb => ?_; have BK826 := Aside0.mk (hbox); have GW826 := ge_ hg HB; have GE826 := ge_ hg HB; replace HB := bs_ HB hb; clear hb hbox hg; have hcz6_0 := bc_ BK826; have hfz6_0 := blk_frozen BK826.out 0) | ((with_reducible refine gate_callee (f := 41) rfl ?_); refine gl_ 4 Try.func41 #[.agg #[.slice A0_0 l0_0.length c0_0]] ?_; (with_reducible refine (spec_IsSemigroup.calls k _ _ l0_0 true _ ?side1 ?side2 A2.out).mono ?_); (case side1 => exact cs_ HR0_0 HB); (case side2 => exact HC0_0.out); rintro e w7 ⟨rfl, hb⟩; refine ⟨_, rfl, ?_⟩; replace BK826 := bb_ BK826 hb; replace HB := bs_ HB hb; (try clear hb); (try clear hb2); (try clear hk); (try clear hi); have hcz8_0 := bc_ BK826; have hfz8_0 := blk_frozen BK826.out 0) | (go_at_call 129; (with_reducible refine (spec_l9Mirror.calls k _ _ l0_0 false t828 _ ?side1 ?side2 A4.out).mono ?_); (case side1 => exact cs_ HR0_0 HB); (case side2 => exact HC0_0.out); rintro e w9 ⟨rfl, hb⟩; replace BK826 := bb_ BK826 hb; replace HB := bs_ HB hb; (try clear hb); (try clear hb2); (try clear hk); (try clear hi)))
  go_ret
  exact ⟨er_, bl_ HB.out⟩
 ·obtain rfl := Bool.eq_false_iff.mpr c3
  rw [if_neg nf_] at H
  obtain rfl := Option.some.inj H
  go_enter Try.func73, Try.ntmps73
  go_wp2_with (first | ((with_reducible refine gate_dst (N := 1) rfl ?_); refine be_ 1 #[.slice A0_0 l0_0.length c0_0] 41 fun gb826 hg w10 hbox hb => ?_; have BK826 := Aside0.mk (hbox); have GW826 := ge_ hg HB; have GE826 := ge_ hg HB; replace HB := bs_ HB hb; clear hb hbox hg; have hcz11_0 := bc_ BK826; have hfz11_0 := blk_frozen BK826.out 0) | ((with_reducible refine gate_callee (f := 41) rfl ?_); refine gl_ 4 Try.func41 #[.agg #[.slice A0_0 l0_0.length c0_0]] ?_; (with_reducible refine (spec_IsSemigroup.calls k _ _ l0_0 false _ ?side1 ?side2 A2.out).mono ?_); (case side1 => exact cs_ HR0_0 HB); (case side2 => exact HC0_0.out); rintro e w12 ⟨rfl, hb⟩; refine ⟨_, rfl, ?_⟩; replace BK826 := bb_ BK826 hb; replace HB := bs_ HB hb; (try clear hb); (try clear hb2); (try clear hk); (try clear hi)))
  go_ret
  exact ⟨er_, bl_ HB.out⟩
def laws_FnGlued.j0 : Nat → List Int → Bool → Int → Bool → Option (Bool)
 | 0, _, _, _, _ => none
 | k + 1, x12, x13, x14, x100 => if x100 = true then (none) else ((spec_FromGens.f k x12).bind fun bt864 => (if x13 = true then (if bt864.2 = true then ((spec_FrobeniusOf.f k bt864.1).bind fun t869 => (if x14 = t869 then ((spec_IsSymmetric.f k bt864.1).bind fun t870 => (some t870)) else (none))) else (some true)) else (some true)))
def laws_FnGlued.f (k : Nat) (l0 : List Int) : Option (Bool) := (laws_big.f l0).bind fun t829 => (if t829 = true then (some true) else ((spec_DrawGlueOf.f k l0).bind fun bt830 => ((impl_GlueOf.f k bt830.1 bt830.2.1 bt830.2.2.1 bt830.2.2.2).bind fun bt840 => ((spec_GlueOf.f k bt830.1 bt830.2.1 bt830.2.2.1 bt830.2.2.2).bind fun bt845 => ((impl_GlueFrobenius.f k bt830.1 bt830.2.1 bt830.2.2.1 bt830.2.2.2).bind fun t850 => ((spec_DrawIsTelescopic.f k l0).bind fun t851 => ((impl_IsTelescopic.f k t851).bind fun t854 => ((impl_TelescopicFrobenius.f k t851).bind fun t855 => (if (bt840.2 != bt845.2) = true then (none) else ((spec_EqualSemigroup.f k bt840.1 bt845.1).bind fun t856 => (if t856 = true then ((spec_GlueFrobenius.f k bt830.1 bt830.2.1 bt830.2.2.1 bt830.2.2.2).bind fun t857 => (if t850 = t857 then ((spec_IsTelescopic.f k t851).bind fun t858 => (if (t854 != t858) = true then (none) else ((spec_TelescopicFrobenius.f k t851).bind fun t859 => (if t855 = t859 then (if bt840.2 = true then ((spec_FrobeniusOf.f k bt840.1).bind fun t860 => (if t850 = t860 then ((spec_IsSymmetric.f k bt840.1).bind fun t861 => ((spec_IsSymmetric.f k bt830.1).bind fun t862 => (if t862 = true then ((spec_IsSymmetric.f k bt830.2.1).bind fun t863 => (laws_FnGlued.j0 k t851 t854 t855 (t861 != t863))) else (laws_FnGlued.j0 k t851 t854 t855 (t861 != false))))) else (none))) else (laws_FnGlued.j0 k t851 t854 t855 false)) else (none))))) else (none))) else (none))))))))))))
def laws_FnGlued.T12 : Bool × List (List Nat × List Nat) := (true, [([], []), ([0], [0]), ([1], [1]), ([1], [1]), ([3, 1, 1], [1, 3]), ([2, 4, 1], [1, 2, 4]), ([5, 4, 1], [1, 5]), ([6], [6]), ([7, 6, 6], [6, 7]), ([6], [6]), ([9, 8, 6], [6, 9]), ([10, 10, 6], [6, 10]), ([11], [11]), ([12, 11, 11], [11, 12]), ([11, 13, 6], [6, 11, 13]), ([8, 14, 6], [6, 8, 14]), ([6, 15, 1], [1, 6, 15]), ([1, 16], [1, 16])])
def laws_FnGlued.B12 : List Nat := [0, 1, 3, 3, 11, 31, 63, 127, 255, 127, 1023, 2047, 4095, 8191, 16383, 32767, 65535, 131071]
theorem laws_FnGlued.tab12 : rtab .any (opsOf Try.f11 12) = laws_FnGlued.T12 := by kernel_rfl
theorem laws_FnGlued.bits12 : waitsOk laws_FnGlued.T12.2 laws_FnGlued.B12 = true := by kernel_rfl
theorem laws_FnGlued.calls (k : Nat) (A0 : Option Addr) (c0 : Nat) (l0 : List Int) (r : Bool) (w : World) (hr0 : Kd.C (Kd.int .u8) w A0 l0.length l0) (hc0 : l0.length ≤ c0) (h : laws_FnGlued.f k l0 = some r) :
 Calls Try.prog 11 #[.slice A0 l0.length c0] w fun e w' => e = .returned (.bool r) ∧ Below w.heap.size w w' := by
 have hu41 := Try.underlying41
 have HR0 := Aside0.mk hr0
 have HC0 := Aside0.mk hc0
 clear hr0 hc0
 have HB := Aside0.mk (Below.refl w.heap.size w)
 have H := h
 clear h
 unfold laws_FnGlued.f at H
 obtain ⟨t829, A2, H⟩ := ob_ H
 (try dsimp only at H)
 by_cases c3 : t829 = true
 ·subst c3
  rw [if_pos rfl] at H
  obtain rfl := Option.some.inj H
  go_enter Try.func11, Try.ntmps11
  go_wp2_with (first | ((with_reducible refine gate_callee (f := 17) rfl ?_); refine gl_ 18 Try.func17 #[.slice A0 l0.length c0] ?_; (with_reducible refine (laws_big.calls _ _ l0 true _ ?side1 ?side2 A2.out).mono ?_); (case side1 => repeat (first | exact HR0.out | (with_reducible refine Kd.C_alloc ?_ _) | (with_reducible refine Kd.C_drewN ?_ _) | (with_reducible refine Kd.C_drew ?_))); (case side2 => exact HC0.out); rintro e w' ⟨rfl, ⟨nd, rfl⟩⟩; refine ⟨_, rfl, ?_⟩))
  go_ret
  exact ⟨er_, bl_ HB.out⟩
 ·obtain rfl := Bool.eq_false_iff.mpr c3
  rw [if_neg nf_] at H
  replace H := Option.bind_eq_some_iff.mp H
  obtain ⟨⟨t830, t833, t836, t837⟩, A40, H⟩ := H
  (try dsimp only at H)
  have A4 := Aside0.mk A40
  clear A40
  replace H := Option.bind_eq_some_iff.mp H
  obtain ⟨⟨t840, t843⟩, A50, H⟩ := H
  (try dsimp only at H)
  have A5 := Aside0.mk A50
  clear A50
  replace H := Option.bind_eq_some_iff.mp H
  obtain ⟨⟨t845, t848⟩, A60, H⟩ := H
  (try dsimp only at H)
  have A6 := Aside0.mk A60
  clear A60
  obtain ⟨t850, A7, H⟩ := ob_ H
  (try dsimp only at H)
  obtain ⟨t851, A8, H⟩ := ob_ H
  (try dsimp only at H)
  obtain ⟨t854, A9, H⟩ := ob_ H
  (try dsimp only at H)
  obtain ⟨t855, A10, H⟩ := ob_ H
  (try dsimp only at H)
  by_cases c11 : (t843 != t848) = true
  ·rw [if_pos c11] at H
   exact absurd H (by simp)
  ·rw [if_neg c11] at H
   have c11b0 : (t843 != t848) = false := by simpa using c11
   (try (have c11b1 : decide (t843 = t848) = true := by simpa using c11))
   (try (have c11b2 : (t843 == t848) = true := by simpa using c11))
   clear c11
   obtain ⟨t856, A12, H⟩ := ob_ H
   (try dsimp only at H)
   by_cases c13 : t856 = true
   ·subst c13
    rw [if_pos rfl] at H
    obtain ⟨t857, A14, H⟩ := ob_ H
    (try dsimp only at H)
    by_cases c15 : t850 = t857
    ·rw [if_pos c15] at H
     have c15b0 : (t850 == t857) = true := beq_iff_eq.mpr c15
     have c15b1 : (t850 != t857) = false := bne_eq_false_iff_eq.mpr c15
     clear c15
     obtain ⟨t858, A16, H⟩ := ob_ H
     (try dsimp only at H)
     by_cases c17 : (t854 != t858) = true
     ·rw [if_pos c17] at H
      exact absurd H (by simp)
     ·rw [if_neg c17] at H
      have c17b0 : (t854 != t858) = false := by simpa using c17
      (try (have c17b1 : decide (t854 = t858) = true := by simpa using c17))
      (try (have c17b2 : (t854 == t858) = true := by simpa using c17))
      clear c17
      obtain ⟨t859, A18, H⟩ := ob_ H
      (try dsimp only at H)
      by_cases c19 : t855 = t859
      ·rw [if_pos c19] at H
       have c19b0 : (t855 == t859) = true := beq_iff_eq.mpr c19
       have c19b1 : (t855 != t859) = false := bne_eq_false_iff_eq.mpr c19
       clear c19
       have HC20 := Aside0.mk H
       clear H
       go_enter Try.func11, Try.ntmps11
       go_upto_region 12 with (first | ((with_reducible refine gate_callee (f := 17) rfl ?_); refine gl_ 18 Try.func17 #[.slice A0 l0.length c0] ?_; (with_reducible refine (laws_big.calls _ _ l0 false _ ?side1 ?side2 A2.out).mono ?_); (case side1 => repeat (first | exact HR0.out | (with_reducible refine Kd.C_alloc ?_ _) | (with_reducible refine Kd.C_drewN ?_ _) | (with_reducible refine Kd.C_drew ?_))); (case side2 => exact HC0.out); rintro e w' ⟨rfl, ⟨nd, rfl⟩⟩; refine ⟨_, rfl, ?_⟩) | ((with_reducible refine gate_callee (f := 65) rfl ?_); refine gl_ 21 Try.func65 #[.slice A0 l0.length c0] ?_; (with_reducible refine (spec_DrawGlueOf.calls k _ _ l0 t830 t833 t836 t837 _ ?side1 ?side2 A4.out).mono ?_); (case side1 => repeat (first | exact HR0.out | (with_reducible refine Kd.C_alloc ?_ _) | (with_reducible refine Kd.C_drewN ?_ _) | (with_reducible refine Kd.C_drew ?_))); (case side2 => exact HC0.out); rintro e w21 ⟨v831, v834, rfl, ho0, ho1, hb⟩; refine ⟨_, rfl, ?_⟩; have HO832 := Aside0.mk (Kd.Q_lower ho0 (below_size (bl_ HB.out))); have HO835 := Aside0.mk (Kd.Q_lower ho1 (below_size (bl_ HB.out))); replace HB := bs_ HB hb; (try clear hb); (try clear hb2); (try clear hk); (try clear hi); (try clear ho0); (try clear ho1)) | ((with_reducible refine gate_dst (N := 3) rfl ?_); refine be_ 3 #[.slice none 0 0] 41 fun gb838 hg w22 hbox hb => ?_; replace HO832 := qb_ HO832 hb; replace HO835 := qb_ HO835 hb; have BK838 := Aside0.mk (hbox); have GW838 := ge_ hg HB; have GE838 := ge_ hg HB; replace HB := bs_ HB hb; clear hb hbox hg) | ((with_reducible refine gate_dst (N := 4) rfl ?_); refine be_ 4 #[.slice none 0 0] 41 fun gb839 hg w23 hbox hb => ?_; replace HO832 := qb_ HO832 hb; replace HO835 := qb_ HO835 hb; have BK839 := Aside0.mk (hbox); have GW839 := ge_ hg HB; have GE839 := ge_ hg HB; replace HB := bs_ HB hb; have NB838_839 := nl_ hg BK838; have NB839_838 := ng_ hg BK838; replace BK838 := bb_ BK838 hb; clear hb hbox hg; obtain ⟨Ao24, co24, eo24, _⟩ := Kd.Q_slice HO832.out; subst eo24; have hnb25 := NB838_839.out; have hnc25 := NB839_838.out; have hcz26_0 := bc_ BK838; have hfz26_0 := blk_frozen BK838.out 0; obtain ⟨Ao27, co27, eo27, _⟩ := Kd.Q_slice HO835.out; subst eo27; have hcz28_0 := bc_ BK839; have hfz28_0 := blk_frozen BK839.out 0) | ((with_reducible refine gate_callee (f := 56) rfl ?_); refine gl_ 31 Try.func56 #[.agg #[.slice Ao24 t830.length co24], .agg #[.slice Ao27 t833.length co27], .int .i64 t836, .int .i64 t837] ?_; (with_reducible refine (impl_GlueOf.calls k _ _ t830 _ _ t833 t836 t837 t840 t843 _ ?side1 ?side2 ?side3 ?side4 A5.out).mono ?_); (case side1 => refine (Kd.Q_reads' (e := 3) (base := w.heap.size) (ok := fun k_ => some k_ ≠ (.slice Ao27 t833.length co27 : Value).ownBlock) (n := t830.length) (c := co24) ?_).2.2; exact (kq_ ((Kd.Q_mono (Kd.Q_mono (Kd.Q_far (p := ⟨gb839, 0, none⟩) (Kd.Q_far (p := ⟨gb838, 0, none⟩) (Kd.Q_types (Kd.Q_types HO832.out BK838.out (by decide)) BK839.out (by decide)) (fun _ hk => hk.1.2) (.slice Ao24 t830.length co24)) (fun _ hk => hk.2) (.slice Ao27 t833.length co27)) (fun _ h_ => h_.1)) (fun _ h_ => h_.1))))); (case side2 => exact (Kd.Q_reads' HO832.out).2.1); (case side3 => refine (Kd.Q_reads' (e := 3) (base := w.heap.size) (ok := fun k_ => some k_ ≠ (.slice Ao24 t830.length co24 : Value).ownBlock) (n := t833.length) (c := co27) ?_).2.2; exact (kq_ ((Kd.Q_mono (Kd.Q_mono (Kd.Q_far (p := ⟨gb839, 0, none⟩) (Kd.Q_far (p := ⟨gb838, 0, none⟩) (Kd.Q_types (Kd.Q_types HO835.out BK838.out (by decide)) BK839.out (by decide)) (fun _ hk => hk.1.2) (.slice Ao24 t830.length co24)) (fun _ hk => hk.2) (.slice Ao27 t833.length co27)) (fun _ h_ => h_.1)) (fun _ h_ => h_.1))))); (case side4 => exact (Kd.Q_reads' HO835.out).2.1); rintro e w29 ⟨v841, rfl, ho0, hb⟩; refine ⟨_, rfl, ?_⟩; have HO842 := Aside0.mk (Kd.R_lower (Kd.R_new' (Kd.R_new' ho0 (Kd.Q_lt (kq_ ((Kd.Q_mono (Kd.Q_mono (Kd.Q_far (p := ⟨gb839, 0, none⟩) (Kd.Q_far (p := ⟨gb838, 0, none⟩) (Kd.Q_types (Kd.Q_types HO832.out BK838.out (by decide)) BK839.out (by decide)) (fun _ hk => hk.1.2) (.slice Ao24 t830.length co24)) (fun _ hk => hk.2) (.slice Ao27 t833.length co27)) (fun _ h_ => h_.1)) (fun _ h_ => h_.1)))))) (Kd.Q_lt (kq_ ((Kd.Q_mono (Kd.Q_mono (Kd.Q_far (p := ⟨gb839, 0, none⟩) (Kd.Q_far (p := ⟨gb838, 0, none⟩) (Kd.Q_types (Kd.Q_types HO835.out BK838.out (by decide)) BK839.out (by decide)) (fun _ hk => hk.1.2) (.slice Ao24 t830.length co24)) (fun _ hk => hk.2) (.slice Ao27 t833.length co27)) (fun _ h_ => h_.1)) (fun _ h_ => h_.1)))))) (below_size (bl_ HB.out))); replace HO832 := Aside0.mk (Kd.Q_elder' (kq_ ((Kd.Q_mono (Kd.Q_mono (Kd.Q_far (p := ⟨gb839, 0, none⟩) (Kd.Q_far (p := ⟨gb838, 0, none⟩) (Kd.Q_types (Kd.Q_types HO832.out BK838.out (by decide)) BK839.out (by decide)) (fun _ hk => hk.1.2) (.slice Ao24 t830.length co24)) (fun _ hk => hk.2) (.slice Ao27 t833.length co27)) (fun _ h_ => h_.1)) (fun _ h_ => h_.1)))) (Kd.R_base ho0) hb); replace HO835 := Aside0.mk (Kd.Q_elder' (kq_ ((Kd.Q_mono (Kd.Q_mono (Kd.Q_far (p := ⟨gb839, 0, none⟩) (Kd.Q_far (p := ⟨gb838, 0, none⟩) (Kd.Q_types (Kd.Q_types HO835.out BK838.out (by decide)) BK839.out (by decide)) (fun _ hk => hk.1.2) (.slice Ao24 t830.length co24)) (fun _ hk => hk.2) (.slice Ao27 t833.length co27)) (fun _ h_ => h_.1)) (fun _ h_ => h_.1)))) (Kd.R_base ho0) hb); replace BK838 := Aside0.mk (blk_below (g := gb838) (o := .cells #[.slice Ao24 t830.length co24] 41 (0, 0)) (by (with_reducible repeat (first | refine blk_drewN ?_ _ | refine blk_drew ?_ | refine blk_alloc ?_ _)); refine blk_far ?_ NB838_839.out _; (with_reducible repeat (first | refine blk_drewN ?_ _ | refine blk_drew ?_ | refine blk_alloc ?_ _)); refine blk_put (cs := #[.slice none 0 0]) ?_ 0 _ rfl; (with_reducible repeat (first | refine blk_drewN ?_ _ | refine blk_drew ?_ | refine blk_alloc ?_ _)); exact BK838.out) hb); replace BK839 := Aside0.mk (blk_below (g := gb839) (o := .cells #[.slice Ao27 t833.length co27] 41 (0, 0)) (by (with_reducible repeat (first | refine blk_drewN ?_ _ | refine blk_drew ?_ | refine blk_alloc ?_ _)); refine blk_put (cs := #[.slice none 0 0]) ?_ 0 _ rfl; (with_reducible repeat (first | refine blk_drewN ?_ _ | refine blk_drew ?_ | refine blk_alloc ?_ _)); refine blk_far ?_ NB839_838.out _; (with_reducible repeat (first | refine blk_drewN ?_ _ | refine blk_drew ?_ | refine blk_alloc ?_ _)); exact BK839.out) hb); replace HB := bs_ HB hb; (try clear hb); (try clear hb2); (try clear hk); (try clear hi); (try clear ho0)) | ((with_reducible refine gate_dst (N := 7) rfl ?_); refine be_ 7 #[.slice none 0 0] 41 fun gb844 hg w30 hbox hb => ?_; replace HO832 := qb_ HO832 hb; replace HO835 := qb_ HO835 hb; replace HO842 := rb_ HO842 hb; have BK844 := Aside0.mk (hbox); have GW844 := ge_ hg HB; have GE844 := ge_ hg HB; replace HB := bs_ HB hb; have NB838_844 := nl_ hg BK838; have NB844_838 := ng_ hg BK838; replace BK838 := bb_ BK838 hb; have NB839_844 := nl_ hg BK839; have NB844_839 := ng_ hg BK839; replace BK839 := bb_ BK839 hb; clear hb hbox hg; obtain ⟨Ao31, co31, eo31⟩ := Kd.R_slice HO842.out; subst eo31; have hnb32 := NB844_838.out; have hnc32 := NB838_844.out; have hnb33 := NB844_839.out; have hnc33 := NB839_844.out; have hcz34_0 := bc_ BK844; have hfz34_0 := blk_frozen BK844.out 0; have hcz35_0 := bc_ BK838; have hfz35_0 := blk_frozen BK838.out 0; have hcz36_0 := bc_ BK839; have hfz36_0 := blk_frozen BK839.out 0) | ((with_reducible refine gate_callee (f := 55) rfl ?_); refine gl_ 39 Try.func55 #[.agg #[.slice Ao24 t830.length co24], .agg #[.slice Ao27 t833.length co27], .int .i64 t836, .int .i64 t837] ?_; (with_reducible refine (spec_GlueOf.calls k _ _ t830 _ _ t833 t836 t837 t845 t848 _ ?side1 ?side2 ?side3 ?side4 A6.out).mono ?_); (case side1 => refine (Kd.Q_reads' (e := 3) (base := w.heap.size) (ok := fun k_ => (some k_ ≠ (.slice Ao27 t833.length co27 : Value).ownBlock ∧ some k_ ≠ (.slice Ao31 t840.length co31 : Value).ownBlock)) (n := t830.length) (c := co24) ?_).2.2; exact (kq_ ((Kd.Q_mono (Kd.Q_far (p := ⟨gb844, 0, none⟩) (Kd.Q_types HO832.out BK844.out (by decide)) (fun _ hk => hk.2) (.slice Ao31 t840.length co31)) (fun _ h_ => h_.1))))); (case side2 => exact (Kd.Q_reads' HO832.out).2.1); (case side3 => refine (Kd.Q_reads' (e := 3) (base := w.heap.size) (ok := fun k_ => (some k_ ≠ (.slice Ao24 t830.length co24 : Value).ownBlock ∧ some k_ ≠ (.slice Ao31 t840.length co31 : Value).ownBlock)) (n := t833.length) (c := co27) ?_).2.2; exact (kq_ ((Kd.Q_mono (Kd.Q_far (p := ⟨gb844, 0, none⟩) (Kd.Q_types HO835.out BK844.out (by decide)) (fun _ hk => hk.2) (.slice Ao31 t840.length co31)) (fun _ h_ => h_.1))))); (case side4 => exact (Kd.Q_reads' HO835.out).2.1); rintro e w37 ⟨v846, rfl, ho0, hb⟩; refine ⟨_, rfl, ?_⟩; have HO847 := Aside0.mk (Kd.R_lower (Kd.R_new' (Kd.R_new' (Kd.R_new' ho0 (Kd.Q_lt (kq_ ((Kd.Q_mono (Kd.Q_far (p := ⟨gb844, 0, none⟩) (Kd.Q_types HO832.out BK844.out (by decide)) (fun _ hk => hk.2) (.slice Ao31 t840.length co31)) (fun _ h_ => h_.1)))))) (Kd.Q_lt (kq_ ((Kd.Q_mono (Kd.Q_far (p := ⟨gb844, 0, none⟩) (Kd.Q_types HO835.out BK844.out (by decide)) (fun _ hk => hk.2) (.slice Ao31 t840.length co31)) (fun _ h_ => h_.1)))))) (Kd.R_lt (kr_ ((Kd.R_mono (Kd.R_far (p := ⟨gb844, 0, none⟩) (Kd.R_types HO842.out BK844.out (by decide)) (fun _ hk => hk.2) (.slice Ao31 t840.length co31)) (fun _ h_ => h_.1)))))) (below_size (bl_ HB.out))); replace HO832 := Aside0.mk (Kd.Q_elder' (kq_ ((Kd.Q_mono (Kd.Q_far (p := ⟨gb844, 0, none⟩) (Kd.Q_types HO832.out BK844.out (by decide)) (fun _ hk => hk.2) (.slice Ao31 t840.length co31)) (fun _ h_ => h_.1)))) (Kd.R_base ho0) hb); replace HO835 := Aside0.mk (Kd.Q_elder' (kq_ ((Kd.Q_mono (Kd.Q_far (p := ⟨gb844, 0, none⟩) (Kd.Q_types HO835.out BK844.out (by decide)) (fun _ hk => hk.2) (.slice Ao31 t840.length co31)) (fun _ h_ => h_.1)))) (Kd.R_base ho0) hb); replace HO842 := Aside0.mk (Kd.R_elder' (kr_ ((Kd.R_mono (Kd.R_far (p := ⟨gb844, 0, none⟩) (Kd.R_types HO842.out BK844.out (by decide)) (fun _ hk => hk.2) (.slice Ao31 t840.length co31)) (fun _ h_ => h_.1)))) (Kd.R_base ho0) hb); replace BK838 := Aside0.mk (blk_below (g := gb838) (o := .cells #[.slice Ao24 t830.length co24] 41 (0, 0)) (bf_ BK838.out) hb); replace BK839 := Aside0.mk (blk_below (g := gb839) (o := .cells #[.slice Ao27 t833.length co27] 41 (0, 0)) (bf_ BK839.out) hb); replace BK844 := Aside0.mk (blk_below (g := gb844) (o := .cells #[.slice Ao31 t840.length co31] 41 (0, 0)) (by (with_reducible repeat (first | refine blk_drewN ?_ _ | refine blk_drew ?_ | refine blk_alloc ?_ _)); refine blk_put (cs := #[.slice none 0 0]) ?_ 0 _ rfl; (with_reducible repeat (first | refine blk_drewN ?_ _ | refine blk_drew ?_ | refine blk_alloc ?_ _)); exact BK844.out) hb); replace HB := bs_ HB hb; (try clear hb); (try clear hb2); (try clear hk); (try clear hi); (try clear ho0)) | ((with_reducible refine gate_dst (N := 9) rfl ?_); refine be_ 9 #[.slice none 0 0] 41 fun gb849 hg w38 hbox hb => ?_; replace HO832 := qb_ HO832 hb; replace HO835 := qb_ HO835 hb; replace HO842 := rb_ HO842 hb; replace HO847 := rb_ HO847 hb; have BK849 := Aside0.mk (hbox); have GW849 := ge_ hg HB; have GE849 := ge_ hg HB; replace HB := bs_ HB hb; have NB838_849 := nl_ hg BK838; have NB849_838 := ng_ hg BK838; replace BK838 := bb_ BK838 hb; have NB839_849 := nl_ hg BK839; have NB849_839 := ng_ hg BK839; replace BK839 := bb_ BK839 hb; have NB844_849 := nl_ hg BK844; have NB849_844 := ng_ hg BK844; replace BK844 := bb_ BK844 hb; clear hb hbox hg; obtain ⟨Ao39, co39, eo39⟩ := Kd.R_slice HO847.out; subst eo39; have hnb40 := NB849_838.out; have hnc40 := NB838_849.out; have hnb41 := NB849_839.out; have hnc41 := NB839_849.out; have hnb42 := NB849_844.out; have hnc42 := NB844_849.out; have hcz43_0 := bc_ BK849; have hfz43_0 := blk_frozen BK849.out 0; have hcz44_0 := bc_ BK838; have hfz44_0 := blk_frozen BK838.out 0; have hcz45_0 := bc_ BK839; have hfz45_0 := blk_frozen BK839.out 0) | ((with_reducible refine gate_callee (f := 58) rfl ?_); refine gl_ 46 Try.func58 #[.agg #[.slice Ao24 t830.length co24], .agg #[.slice Ao27 t833.length co27], .int .i64 t836, .int .i64 t837] ?_; (with_reducible refine (impl_GlueFrobenius.calls k _ _ t830 _ _ t833 t836 t837 t850 _ ?side1 ?side2 ?side3 ?side4 A7.out).mono ?_); (case side1 => refine (Kd.Q_reads' (e := 3) (base := w.heap.size) (ok := fun k_ => ((some k_ ≠ (.slice Ao27 t833.length co27 : Value).ownBlock ∧ some k_ ≠ (.slice Ao31 t840.length co31 : Value).ownBlock) ∧ some k_ ≠ (.slice Ao39 t845.length co39 : Value).ownBlock)) (n := t830.length) (c := co24) ?_).2.2; exact (kq_ ((Kd.Q_mono (Kd.Q_far (p := ⟨gb849, 0, none⟩) (Kd.Q_types HO832.out BK849.out (by decide)) (fun _ hk => hk.2) (.slice Ao39 t845.length co39)) (fun _ h_ => h_.1))))); (case side2 => exact (Kd.Q_reads' HO832.out).2.1); (case side3 => refine (Kd.Q_reads' (e := 3) (base := w.heap.size) (ok := fun k_ => ((some k_ ≠ (.slice Ao24 t830.length co24 : Value).ownBlock ∧ some k_ ≠ (.slice Ao31 t840.length co31 : Value).ownBlock) ∧ some k_ ≠ (.slice Ao39 t845.length co39 : Value).ownBlock)) (n := t833.length) (c := co27) ?_).2.2; exact (kq_ ((Kd.Q_mono (Kd.Q_far (p := ⟨gb849, 0, none⟩) (Kd.Q_types HO835.out BK849.out (by decide)) (fun _ hk => hk.2) (.slice Ao39 t845.length co39)) (fun _ h_ => h_.1))))); (case side4 => exact (Kd.Q_reads' HO835.out).2.1); rintro e w46 ⟨rfl, hb⟩; refine ⟨_, rfl, ?_⟩; replace HO832 := Aside0.mk (Kd.Q_below (kq_ ((Kd.Q_mono (Kd.Q_far (p := ⟨gb849, 0, none⟩) (Kd.Q_types HO832.out BK849.out (by decide)) (fun _ hk => hk.2) (.slice Ao39 t845.length co39)) (fun _ h_ => h_.1)))) hb); replace HO835 := Aside0.mk (Kd.Q_below (kq_ ((Kd.Q_mono (Kd.Q_far (p := ⟨gb849, 0, none⟩) (Kd.Q_types HO835.out BK849.out (by decide)) (fun _ hk => hk.2) (.slice Ao39 t845.length co39)) (fun _ h_ => h_.1)))) hb); replace HO842 := Aside0.mk (Kd.R_below (kr_ ((Kd.R_mono (Kd.R_far (p := ⟨gb849, 0, none⟩) (Kd.R_types HO842.out BK849.out (by decide)) (fun _ hk => hk.2) (.slice Ao39 t845.length co39)) (fun _ h_ => h_.1)))) hb); replace HO847 := Aside0.mk (Kd.R_below (kr_ ((Kd.R_mono (Kd.R_far (p := ⟨gb849, 0, none⟩) (Kd.R_types HO847.out BK849.out (by decide)) (fun _ hk => hk.2) (.slice Ao39 t845.length co39)) (fun _ h_ => h_.1)))) hb); replace BK838 := Aside0.mk (blk_below (g := gb838) (o := .cells #[.slice Ao24 t830.length co24] 41 (0, 0)) (bf_ BK838.out) hb); replace BK839 := Aside0.mk (blk_below (g := gb839) (o := .cells #[.slice Ao27 t833.length co27] 41 (0, 0)) (bf_ BK839.out) hb); replace BK844 := Aside0.mk (blk_below (g := gb844) (o := .cells #[.slice Ao31 t840.length co31] 41 (0, 0)) (bf_ BK844.out) hb); replace BK849 := Aside0.mk (blk_below (g := gb849) (o := .cells #[.slice Ao39 t845.length co39] 41 (0, 0)) (by (with_reducible repeat (first | refine blk_drewN ?_ _ | refine blk_drew ?_ | refine blk_alloc ?_ _)); refine blk_put (cs := #[.slice none 0 0]) ?_ 0 _ rfl; (with_reducible repeat (first | refine blk_drewN ?_ _ | refine blk_drew ?_ | refine blk_alloc ?_ _)); exact BK849.out) hb); replace HB := bs_ HB hb; (try clear hb); (try clear hb2); (try clear hk); (try clear hi)) | ((with_reducible refine gate_callee (f := 66) rfl ?_); refine gl_ 48 Try.func66 #[.slice A0 l0.length c0] ?_; (with_reducible refine (spec_DrawIsTelescopic.calls k _ _ l0 t851 _ ?side1 ?side2 A8.out).mono ?_); (case side1 => exact cs_ HR0 HB); (case side2 => exact HC0.out); rintro e w47 ⟨v852, rfl, ho0, hb⟩; refine ⟨_, rfl, ?_⟩; have HO853 := Aside0.mk (Kd.R_lower (Kd.R_new' (Kd.R_new' (Kd.R_new' (Kd.R_new' ho0 (Kd.Q_lt (kq_ HO832.out))) (Kd.Q_lt (kq_ HO835.out))) (Kd.R_lt (kr_ HO842.out))) (Kd.R_lt (kr_ HO847.out))) (below_size (bl_ HB.out))); replace HO832 := Aside0.mk (Kd.Q_elder' (kq_ HO832.out) (Kd.R_base ho0) hb); replace HO835 := Aside0.mk (Kd.Q_elder' (kq_ HO835.out) (Kd.R_base ho0) hb); replace HO842 := Aside0.mk (Kd.R_elder' (kr_ HO842.out) (Kd.R_base ho0) hb); replace HO847 := Aside0.mk (Kd.R_elder' (kr_ HO847.out) (Kd.R_base ho0) hb); replace BK838 := bb_ BK838 hb; replace BK839 := bb_ BK839 hb; replace BK844 := bb_ BK844 hb; replace BK849 := bb_ BK849 hb; replace HB := bs_ HB hb; (try clear hb); (try clear hb2); (try clear hk); (try clear hi); (try clear ho0); obtain ⟨Ao48, co48, eo48⟩ := Kd.R_slice HO853.out; subst eo48) | ((with_reducible refine gate_callee (f := 67) rfl ?_); refine gl_ 50 Try.func67 #[.slice Ao48 t851.length co48] ?_; (with_reducible refine (impl_IsTelescopic.calls k _ _ t851 t854 _ ?side1 ?side2 A9.out).mono ?_); (case side1 => exact rs_ HO853); (case side2 => exact (Kd.R_reads' HO853.out).2.1); rintro e w49 ⟨rfl, hb⟩; refine ⟨_, rfl, ?_⟩; replace HO832 := qb_ HO832 hb; replace HO835 := qb_ HO835 hb; replace HO842 := rb_ HO842 hb; replace HO847 := rb_ HO847 hb; replace HO853 := rb_ HO853 hb; replace BK838 := bb_ BK838 hb; replace BK839 := bb_ BK839 hb; replace BK844 := bb_ BK844 hb; replace BK849 := bb_ BK849 hb; replace HB := bs_ HB hb; (try clear hb); (try clear hb2); (try clear hk); (try clear hi)) | ((with_reducible refine gate_callee (f := 68) rfl ?_); refine gl_ 52 Try.func68 #[.slice Ao48 t851.length co48] ?_; (with_reducible refine (impl_TelescopicFrobenius.calls k _ _ t851 t855 _ ?side1 ?side2 A10.out).mono ?_); (case side1 => exact rs_ HO853); (case side2 => exact (Kd.R_reads' HO853.out).2.1); rintro e w50 ⟨rfl, hb⟩; refine ⟨_, rfl, ?_⟩; replace HO832 := qb_ HO832 hb; replace HO835 := qb_ HO835 hb; replace HO842 := rb_ HO842 hb; replace HO847 := rb_ HO847 hb; replace HO853 := rb_ HO853 hb; replace BK838 := bb_ BK838 hb; replace BK839 := bb_ BK839 hb; replace BK844 := bb_ BK844 hb; replace BK849 := bb_ BK849 hb; replace HB := bs_ HB hb; (try clear hb); (try clear hb2); (try clear hk); (try clear hi); have hcz51_0 := bc_ BK844; have hfz51_0 := blk_frozen BK844.out 0; have hcz52_0 := bc_ BK849; have hfz52_0 := blk_frozen BK849.out 0) | (go_at_call 69; (with_reducible refine (spec_EqualSemigroup.calls k _ _ t840 _ _ t845 true _ ?side1 ?side2 ?side3 ?side4 A12.out).mono ?_); (case side1 => exact rs_ HO842); (case side2 => exact (Kd.R_reads' HO842.out).2.1); (case side3 => exact rs_ HO847); (case side4 => exact (Kd.R_reads' HO847.out).2.1); rintro e w53 ⟨rfl, hb⟩; replace HO832 := qb_ HO832 hb; replace HO835 := qb_ HO835 hb; replace HO842 := rb_ HO842 hb; replace HO847 := rb_ HO847 hb; replace HO853 := rb_ HO853 hb; replace BK838 := bb_ BK838 hb; replace BK839 := bb_ BK839 hb; replace BK844 := bb_ BK844 hb; replace BK849 := bb_ BK849 hb; replace HB := bs_ HB hb; (try clear hb); (try clear hb2); (try clear hk); (try clear hi); have hcz54_0 := bc_ BK838; have hfz54_0 := blk_frozen BK838.out 0; have hcz55_0 := bc_ BK839; have hfz55_0 := blk_frozen BK839.out 0) | (go_at_call 57; (with_reducible refine (spec_GlueFrobenius.calls k _ _ t830 _ _ t833 t836 t837 t857 _ ?side1 ?side2 ?side3 ?side4 A14.out).mono ?_); (case side1 => exact qs_ HO832); (case side2 => exact (Kd.Q_reads' HO832.out).2.1); (case side3 => exact qs_ HO835); (case side4 => exact (Kd.Q_reads' HO835.out).2.1); rintro e w56 ⟨rfl, hb⟩; replace HO832 := qb_ HO832 hb; replace HO835 := qb_ HO835 hb; replace HO842 := rb_ HO842 hb; replace HO847 := rb_ HO847 hb; replace HO853 := rb_ HO853 hb; replace BK838 := bb_ BK838 hb; replace BK839 := bb_ BK839 hb; replace BK844 := bb_ BK844 hb; replace BK849 := bb_ BK849 hb; replace HB := bs_ HB hb; (try clear hb); (try clear hb2); (try clear hk); (try clear hi)) | (go_at_call 70; (with_reducible refine (spec_IsTelescopic.calls k _ _ t851 t858 _ ?side1 ?side2 A16.out).mono ?_); (case side1 => exact rs_ HO853); (case side2 => exact (Kd.R_reads' HO853.out).2.1); rintro e w57 ⟨rfl, hb⟩; replace HO832 := qb_ HO832 hb; replace HO835 := qb_ HO835 hb; replace HO842 := rb_ HO842 hb; replace HO847 := rb_ HO847 hb; replace HO853 := rb_ HO853 hb; replace BK838 := bb_ BK838 hb; replace BK839 := bb_ BK839 hb; replace BK844 := bb_ BK844 hb; replace BK849 := bb_ BK849 hb; replace HB := bs_ HB hb; (try clear hb); (try clear hb2); (try clear hk); (try clear hi)) | (go_at_call 71; (with_reducible refine (spec_TelescopicFrobenius.calls k _ _ t851 t859 _ ?side1 ?side2 A18.out).mono ?_); (case side1 => exact rs_ HO853); (case side2 => exact (Kd.R_reads' HO853.out).2.1); rintro e w58 ⟨rfl, hb⟩; replace HO832 := qb_ HO832 hb; replace HO835 := qb_ HO835 hb; replace HO842 := rb_ HO842 hb; replace HO847 := rb_ HO847 hb; replace HO853 := rb_ HO853 hb; replace BK838 := bb_ BK838 hb; replace BK839 := bb_ BK839 hb; replace BK844 := bb_ BK844 hb; replace BK849 := bb_ BK849 hb; replace HB := bs_ HB hb; (try clear hb); (try clear hb2); (try clear hk); (try clear hi)))
       (try simp only [Act.put, List.setIfInBounds_toArray, List.set_cons_zero, List.set_cons_succ])
       go_cut [100] (fun v100 wc => ∃ (kq : Nat) (x100_19 : Bool), v100 = .bool x100_19 ∧ Aside0 (laws_FnGlued.j0 kq t851 t854 t855 x100_19 = some r) ∧ Aside0 (kq ≤ k) ∧ Aside0 (Kd.R (Kd.int .i64) 3 wc w.heap.size (fun k_ => some k_ ≠ ((.slice Ao24 t830.length co24) : Value).ownBlock ∧ some k_ ≠ ((.slice Ao27 t833.length co27) : Value).ownBlock ∧ some k_ ≠ ((.slice Ao31 t840.length co31) : Value).ownBlock ∧ some k_ ≠ ((.slice Ao39 t845.length co39) : Value).ownBlock) (.slice Ao48 t851.length co48) t851) ∧ Aside0 (Kd.Q (Kd.int .i64) 3 wc w.heap.size (fun k_ => some k_ ≠ ((.slice Ao48 t851.length co48) : Value).ownBlock ∧ some k_ ≠ ((.slice Ao27 t833.length co27) : Value).ownBlock ∧ some k_ ≠ ((.slice Ao31 t840.length co31) : Value).ownBlock ∧ some k_ ≠ ((.slice Ao39 t845.length co39) : Value).ownBlock) (.slice Ao24 t830.length co24) t830) ∧ Aside0 (Kd.Q (Kd.int .i64) 3 wc w.heap.size (fun k_ => some k_ ≠ ((.slice Ao48 t851.length co48) : Value).ownBlock ∧ some k_ ≠ ((.slice Ao24 t830.length co24) : Value).ownBlock ∧ some k_ ≠ ((.slice Ao31 t840.length co31) : Value).ownBlock ∧ some k_ ≠ ((.slice Ao39 t845.length co39) : Value).ownBlock) (.slice Ao27 t833.length co27) t833) ∧ Aside0 (Kd.Q (Kd.int .i64) 3 wc w.heap.size (fun k_ => some k_ ≠ ((.slice Ao48 t851.length co48) : Value).ownBlock ∧ some k_ ≠ ((.slice Ao24 t830.length co24) : Value).ownBlock ∧ some k_ ≠ ((.slice Ao27 t833.length co27) : Value).ownBlock ∧ some k_ ≠ ((.slice Ao39 t845.length co39) : Value).ownBlock) (.slice Ao31 t840.length co31) t840) ∧ Aside0 (Kd.Q (Kd.int .i64) 3 wc w.heap.size (fun k_ => some k_ ≠ ((.slice Ao48 t851.length co48) : Value).ownBlock ∧ some k_ ≠ ((.slice Ao24 t830.length co24) : Value).ownBlock ∧ some k_ ≠ ((.slice Ao27 t833.length co27) : Value).ownBlock ∧ some k_ ≠ ((.slice Ao31 t840.length co31) : Value).ownBlock) (.slice Ao39 t845.length co39) t845) ∧ Aside0 (wc.heap[gb838]? = some (.cells #[(.slice Ao24 t830.length co24)] 41 (0, 0))) ∧ Aside0 (wc.heap[gb839]? = some (.cells #[(.slice Ao27 t833.length co27)] 41 (0, 0))) ∧ Aside0 (wc.heap[gb844]? = some (.cells #[(.slice Ao31 t840.length co31)] 41 (0, 0))) ∧ Aside0 (wc.heap[gb849]? = some (.cells #[(.slice Ao39 t845.length co39)] 41 (0, 0))) ∧ Aside0 (Below w.heap.size w wc))
       case first =>
        have H := HC20.out
        clear HC20
        by_cases c59 : t843 = true
        ·subst c59
         rw [if_pos rfl] at H
         obtain ⟨t860, A60, H⟩ := ob_ H
         (try dsimp only at H)
         by_cases c61 : t850 = t860
         ·rw [if_pos c61] at H
          have c61b0 : (t850 == t860) = true := beq_iff_eq.mpr c61
          have c61b1 : (t850 != t860) = false := bne_eq_false_iff_eq.mpr c61
          clear c61
          (first | rw [c61b0] | (simp only [i64_w, i32_w]; rw [c61b0]) | skip)
          obtain ⟨t861, A62, H⟩ := ob_ H
          (try dsimp only at H)
          obtain ⟨t862, A63, H⟩ := ob_ H
          (try dsimp only at H)
          by_cases c64 : t862 = true
          ·subst c64
           rw [if_pos rfl] at H
           obtain ⟨t863, A65, H⟩ := ob_ H
           (try dsimp only at H)
           have H' := Aside0.mk H
           clear H
           try go_wp2
           replace HO832 := Aside0.mk (Kd.Q_drew HO832.out)
           replace HO835 := Aside0.mk (Kd.Q_drew HO835.out)
           replace HO842 := Aside0.mk (Kd.R_drew HO842.out)
           replace HO847 := Aside0.mk (Kd.R_drew HO847.out)
           replace HO853 := Aside0.mk (Kd.R_drew HO853.out)
           replace BK838 := Aside0.mk (blk_drew BK838.out)
           replace BK839 := Aside0.mk (blk_drew BK839.out)
           replace BK844 := Aside0.mk (blk_drew BK844.out)
           replace BK849 := Aside0.mk (blk_drew BK849.out)
           replace HB := Aside0.mk (below_drew1 HB.out)
           refine start_ (n := 18) (S := fun w' => w'.cell? ⟨gb844, 0, none⟩ = some (.slice Ao31 t840.length co31) ∧ w'.cell? ⟨gb838, 0, none⟩ = some (.slice Ao24 t830.length co24) ∧ w'.cell? ⟨gb839, 0, none⟩ = some (.slice Ao27 t833.length co27)) (ds := []) (fl_ 18 0) (by kernel_rfl) rfl rfl ⟨(blk_cell BK844.out 0).trans rfl, (blk_cell BK838.out 0).trans rfl, (blk_cell BK839.out 0).trans rfl⟩ (fun hHeld => ?_); refine with_tabW laws_FnGlued.tab12 laws_FnGlued.bits12 (fun HT_ HW_ => ?_)
           generalize w58.drew = w66 at HO832 HO835 HO842 HO847 HO853 BK838 BK839 BK844 BK849 HB hHeld ⊢
           refine pu_ 0 83 (fl_ 18 1) ?_
           refine pu_ 1 84 (fl_ 18 2) ?_
           refine pu_ 2 85 (fl_ 18 3) ?_
           refine ta_ 3 86 (fl_ 18 4) ?_
           refine on_ 4 87 (fl_ 18 5) fun K hK => ?_
           refine go_ Try.func72 #[.agg #[.slice Ao31 t840.length co31]] ?_
           with_reducible refine (spec_FrobeniusOf.calls k _ _ t840 t860 _ ?side1 ?side2 A60.out).mono ?_
           (case side1 => exact rs_ HO842)
           (case side2 => exact (Kd.R_reads' HO842.out).2.1)
           rintro e w67 ⟨rfl, hb⟩
           refine ⟨_, rfl, ?_⟩
           replace HO832 := qb_ HO832 hb
           replace HO835 := qb_ HO835 hb
           replace HO842 := rb_ HO842 hb
           replace HO847 := rb_ HO847 hb
           replace HO853 := rb_ HO853 hb
           replace BK838 := bb_ BK838 hb
           replace BK839 := bb_ BK839 hb
           replace BK844 := bb_ BK844 hb
           replace BK849 := bb_ BK849 hb
           replace HB := bs_ HB hb
           (try clear hb)
           (try clear hb2)
           (try clear hk)
           (try clear hi)
           refine hK.out _ _ ⟨(blk_cell BK844.out 0).trans rfl, (blk_cell BK838.out 0).trans rfl, (blk_cell BK839.out 0).trans rfl⟩ (fun hHeld => ?_)
           clear hK K
           refine no_ 87 ?_
           refine pu_ 5 88 (fl_ 18 6) ?_
           refine pu_ 6 89 (fl_ 18 7) ?_
           refine ta_ 7 90 (fl_ 18 8) ?_
           refine ta_ 9 92 (fm_ 18 767) ?_
           refine on_ 8 91 (fl_ 18 10) fun K hK => ?_
           refine go_ Try.func73 #[.agg #[.slice Ao31 t840.length co31]] ?_
           with_reducible refine (spec_IsSymmetric.calls k _ _ t840 t861 _ ?side1 ?side2 A62.out).mono ?_
           (case side1 => exact rs_ HO842)
           (case side2 => exact (Kd.R_reads' HO842.out).2.1)
           rintro e w68 ⟨rfl, hb⟩
           refine ⟨_, rfl, ?_⟩
           replace HO832 := qb_ HO832 hb
           replace HO835 := qb_ HO835 hb
           replace HO842 := rb_ HO842 hb
           replace HO847 := rb_ HO847 hb
           replace HO853 := rb_ HO853 hb
           replace BK838 := bb_ BK838 hb
           replace BK839 := bb_ BK839 hb
           replace BK844 := bb_ BK844 hb
           replace BK849 := bb_ BK849 hb
           replace HB := bs_ HB hb
           (try clear hb)
           (try clear hb2)
           (try clear hk)
           (try clear hi)
           refine hK.out _ _ ⟨(blk_cell BK844.out 0).trans rfl, (blk_cell BK838.out 0).trans rfl, (blk_cell BK839.out 0).trans rfl⟩ (fun hHeld => ?_)
           clear hK K
           refine no_ 91 ?_
           refine on_ 10 93 (fl_ 18 11) fun K hK => ?_
           refine go_ Try.func73 #[.agg #[.slice Ao24 t830.length co24]] ?_
           with_reducible refine (spec_IsSymmetric.calls k _ _ t830 true _ ?side1 ?side2 A63.out).mono ?_
           (case side1 => exact qs_ HO832)
           (case side2 => exact (Kd.Q_reads' HO832.out).2.1)
           rintro e w69 ⟨rfl, hb⟩
           refine ⟨_, rfl, ?_⟩
           replace HO832 := qb_ HO832 hb
           replace HO835 := qb_ HO835 hb
           replace HO842 := rb_ HO842 hb
           replace HO847 := rb_ HO847 hb
           replace HO853 := rb_ HO853 hb
           replace BK838 := bb_ BK838 hb
           replace BK839 := bb_ BK839 hb
           replace BK844 := bb_ BK844 hb
           replace BK849 := bb_ BK849 hb
           replace HB := bs_ HB hb
           (try clear hb)
           (try clear hb2)
           (try clear hk)
           (try clear hi)
           refine hK.out _ _ ⟨(blk_cell BK844.out 0).trans rfl, (blk_cell BK838.out 0).trans rfl, (blk_cell BK839.out 0).trans rfl⟩ (fun hHeld => ?_)
           clear hK K
           refine no_ 93 ?_
           refine pu_ 11 94 (fl_ 18 12) ?_
           refine ta_ 12 95 (fl_ 18 13) ?_
           refine on_ 13 96 (fl_ 18 14) fun K hK => ?_
           refine go_ Try.func73 #[.agg #[.slice Ao27 t833.length co27]] ?_
           with_reducible refine (spec_IsSymmetric.calls k _ _ t833 t863 _ ?side1 ?side2 A65.out).mono ?_
           (case side1 => exact qs_ HO835)
           (case side2 => exact (Kd.Q_reads' HO835.out).2.1)
           rintro e w70 ⟨rfl, hb⟩
           refine ⟨_, rfl, ?_⟩
           replace HO832 := qb_ HO832 hb
           replace HO835 := qb_ HO835 hb
           replace HO842 := rb_ HO842 hb
           replace HO847 := rb_ HO847 hb
           replace HO853 := rb_ HO853 hb
           replace BK838 := bb_ BK838 hb
           replace BK839 := bb_ BK839 hb
           replace BK844 := bb_ BK844 hb
           replace BK849 := bb_ BK849 hb
           replace HB := bs_ HB hb
           (try clear hb)
           (try clear hb2)
           (try clear hk)
           (try clear hi)
           refine hK.out _ _ ⟨(blk_cell BK844.out 0).trans rfl, (blk_cell BK838.out 0).trans rfl, (blk_cell BK839.out 0).trans rfl⟩ (fun hHeld => ?_)
           clear hK K
           refine no_ 96 ?_
           refine pu_ 14 97 (fl_ 18 15) ?_
           refine pu_ 15 98 (fl_ 18 16) ?_
           refine pu_ 16 99 (fl_ 18 17) ?_
           refine pu_ 17 100 (fl_ 18 18) ?_
           refine done_ (done_of HT_.out (by kernel_rfl)) ?_
           try go_wp2
           go_meet
           case rel => exact ⟨_, ((t861 != t863)), sd_, H', ⟨le_⟩, ⟨kr_ (Kd.R_mono HO853.out (fun _ hk => ⟨hk.1.1.1.2, ⟨hk.1.1.2, ⟨hk.1.2, hk.2⟩⟩⟩))⟩, ⟨kq_ (Kd.Q_mono HO832.out (fun _ hk => ⟨hk.2, ⟨hk.1.1.1, ⟨hk.1.1.2, hk.1.2⟩⟩⟩))⟩, ⟨kq_ (Kd.Q_mono HO835.out (fun _ hk => ⟨hk.2, ⟨hk.1.1.1, ⟨hk.1.1.2, hk.1.2⟩⟩⟩))⟩, ⟨Kd.Q_of_R (kr_ (Kd.R_mono HO842.out (fun _ hk => ⟨hk.2, ⟨hk.1.1.1.2, ⟨hk.1.1.2, hk.1.2⟩⟩⟩)))⟩, ⟨Kd.Q_of_R (kr_ (Kd.R_mono HO847.out (fun _ hk => ⟨hk.2, ⟨hk.1.1.1.2, ⟨hk.1.1.2, hk.1.2⟩⟩⟩)))⟩, ⟨bk_ BK838.out⟩, ⟨bk_ BK839.out⟩, ⟨bk_ BK844.out⟩, ⟨bk_ BK849.out⟩, ⟨bl_ HB.out⟩⟩
          ·obtain rfl := Bool.eq_false_iff.mpr c64
           rw [if_neg nf_] at H
           have H' := Aside0.mk H
           clear H
           try go_wp2
           replace HO832 := Aside0.mk (Kd.Q_drew HO832.out)
           replace HO835 := Aside0.mk (Kd.Q_drew HO835.out)
           replace HO842 := Aside0.mk (Kd.R_drew HO842.out)
           replace HO847 := Aside0.mk (Kd.R_drew HO847.out)
           replace HO853 := Aside0.mk (Kd.R_drew HO853.out)
           replace BK838 := Aside0.mk (blk_drew BK838.out)
           replace BK839 := Aside0.mk (blk_drew BK839.out)
           replace BK844 := Aside0.mk (blk_drew BK844.out)
           replace BK849 := Aside0.mk (blk_drew BK849.out)
           replace HB := Aside0.mk (below_drew1 HB.out)
           refine start_ (n := 18) (S := fun w' => w'.cell? ⟨gb844, 0, none⟩ = some (.slice Ao31 t840.length co31) ∧ w'.cell? ⟨gb838, 0, none⟩ = some (.slice Ao24 t830.length co24)) (ds := []) (fl_ 18 0) (by kernel_rfl) rfl rfl ⟨(blk_cell BK844.out 0).trans rfl, (blk_cell BK838.out 0).trans rfl⟩ (fun hHeld => ?_); refine with_tabW laws_FnGlued.tab12 laws_FnGlued.bits12 (fun HT_ HW_ => ?_)
           generalize w58.drew = w71 at HO832 HO835 HO842 HO847 HO853 BK838 BK839 BK844 BK849 HB hHeld ⊢
           refine pu_ 0 83 (fl_ 18 1) ?_
           refine pu_ 1 84 (fl_ 18 2) ?_
           refine pu_ 2 85 (fl_ 18 3) ?_
           refine ta_ 3 86 (fl_ 18 4) ?_
           refine on_ 4 87 (fl_ 18 5) fun K hK => ?_
           refine go_ Try.func72 #[.agg #[.slice Ao31 t840.length co31]] ?_
           with_reducible refine (spec_FrobeniusOf.calls k _ _ t840 t860 _ ?side1 ?side2 A60.out).mono ?_
           (case side1 => exact rs_ HO842)
           (case side2 => exact (Kd.R_reads' HO842.out).2.1)
           rintro e w72 ⟨rfl, hb⟩
           refine ⟨_, rfl, ?_⟩
           replace HO832 := qb_ HO832 hb
           replace HO835 := qb_ HO835 hb
           replace HO842 := rb_ HO842 hb
           replace HO847 := rb_ HO847 hb
           replace HO853 := rb_ HO853 hb
           replace BK838 := bb_ BK838 hb
           replace BK839 := bb_ BK839 hb
           replace BK844 := bb_ BK844 hb
           replace BK849 := bb_ BK849 hb
           replace HB := bs_ HB hb
           (try clear hb)
           (try clear hb2)
           (try clear hk)
           (try clear hi)
           refine hK.out _ _ ⟨(blk_cell BK844.out 0).trans rfl, (blk_cell BK838.out 0).trans rfl⟩ (fun hHeld => ?_)
           clear hK K
           refine no_ 87 ?_
           refine pu_ 5 88 (fl_ 18 6) ?_
           refine pu_ 6 89 (fl_ 18 7) ?_
           refine ta_ 7 90 (fl_ 18 8) ?_
           refine ta_ 9 92 (fm_ 18 767) ?_
           refine on_ 8 91 (fl_ 18 10) fun K hK => ?_
           refine go_ Try.func73 #[.agg #[.slice Ao31 t840.length co31]] ?_
           with_reducible refine (spec_IsSymmetric.calls k _ _ t840 t861 _ ?side1 ?side2 A62.out).mono ?_
           (case side1 => exact rs_ HO842)
           (case side2 => exact (Kd.R_reads' HO842.out).2.1)
           rintro e w73 ⟨rfl, hb⟩
           refine ⟨_, rfl, ?_⟩
           replace HO832 := qb_ HO832 hb
           replace HO835 := qb_ HO835 hb
           replace HO842 := rb_ HO842 hb
           replace HO847 := rb_ HO847 hb
           replace HO853 := rb_ HO853 hb
           replace BK838 := bb_ BK838 hb
           replace BK839 := bb_ BK839 hb
           replace BK844 := bb_ BK844 hb
           replace BK849 := bb_ BK849 hb
           replace HB := bs_ HB hb
           (try clear hb)
           (try clear hb2)
           (try clear hk)
           (try clear hi)
           refine hK.out _ _ ⟨(blk_cell BK844.out 0).trans rfl, (blk_cell BK838.out 0).trans rfl⟩ (fun hHeld => ?_)
           clear hK K
           refine no_ 91 ?_
           refine on_ 10 93 (fl_ 18 11) fun K hK => ?_
           refine go_ Try.func73 #[.agg #[.slice Ao24 t830.length co24]] ?_
           with_reducible refine (spec_IsSymmetric.calls k _ _ t830 false _ ?side1 ?side2 A63.out).mono ?_
           (case side1 => exact qs_ HO832)
           (case side2 => exact (Kd.Q_reads' HO832.out).2.1)
           rintro e w74 ⟨rfl, hb⟩
           refine ⟨_, rfl, ?_⟩
           replace HO832 := qb_ HO832 hb
           replace HO835 := qb_ HO835 hb
           replace HO842 := rb_ HO842 hb
           replace HO847 := rb_ HO847 hb
           replace HO853 := rb_ HO853 hb
           replace BK838 := bb_ BK838 hb
           replace BK839 := bb_ BK839 hb
           replace BK844 := bb_ BK844 hb
           replace BK849 := bb_ BK849 hb
           replace HB := bs_ HB hb
           (try clear hb)
           (try clear hb2)
           (try clear hk)
           (try clear hi)
           refine hK.out _ _ ⟨(blk_cell BK844.out 0).trans rfl, (blk_cell BK838.out 0).trans rfl⟩ (fun hHeld => ?_)
           clear hK K
           refine no_ 93 ?_
           refine pu_ 11 94 (fl_ 18 12) ?_
           refine un_ 12 95 (fl_ 18 13) ?_
           refine un_ 13 96 (fl_ 18 14) ?_
           refine pu_ 14 97 (fl_ 18 15) ?_
           refine pu_ 15 98 (fl_ 18 16) ?_
           refine pu_ 16 99 (fl_ 18 17) ?_
           refine pu_ 17 100 (fl_ 18 18) ?_
           refine done_ (done_of HT_.out (by kernel_rfl)) ?_
           try go_wp2
           go_meet
           case rel => exact ⟨_, ((t861 != false)), sd_, H', ⟨le_⟩, ⟨kr_ (Kd.R_mono HO853.out (fun _ hk => ⟨hk.1.1.1.2, ⟨hk.1.1.2, ⟨hk.1.2, hk.2⟩⟩⟩))⟩, ⟨kq_ (Kd.Q_mono HO832.out (fun _ hk => ⟨hk.2, ⟨hk.1.1.1, ⟨hk.1.1.2, hk.1.2⟩⟩⟩))⟩, ⟨kq_ (Kd.Q_mono HO835.out (fun _ hk => ⟨hk.2, ⟨hk.1.1.1, ⟨hk.1.1.2, hk.1.2⟩⟩⟩))⟩, ⟨Kd.Q_of_R (kr_ (Kd.R_mono HO842.out (fun _ hk => ⟨hk.2, ⟨hk.1.1.1.2, ⟨hk.1.1.2, hk.1.2⟩⟩⟩)))⟩, ⟨Kd.Q_of_R (kr_ (Kd.R_mono HO847.out (fun _ hk => ⟨hk.2, ⟨hk.1.1.1.2, ⟨hk.1.1.2, hk.1.2⟩⟩⟩)))⟩, ⟨bk_ BK838.out⟩, ⟨bk_ BK839.out⟩, ⟨bk_ BK844.out⟩, ⟨bk_ BK849.out⟩, ⟨bl_ HB.out⟩⟩
         ·rw [if_neg c61] at H
          have c61b0 : (t850 == t860) = false := beq_eq_false_iff_ne.mpr c61
          have c61b1 : (t850 != t860) = true := bne_iff_ne.mpr c61
          (first | rw [c61b0] | (simp only [i64_w, i32_w]; rw [c61b0]) | skip)
          exact absurd H (by simp)
        ·obtain rfl := Bool.eq_false_iff.mpr c59
         rw [if_neg nf_] at H
         have H' := Aside0.mk H
         clear H
         try go_wp2
         replace HO832 := Aside0.mk (Kd.Q_drew HO832.out)
         replace HO835 := Aside0.mk (Kd.Q_drew HO835.out)
         replace HO842 := Aside0.mk (Kd.R_drew HO842.out)
         replace HO847 := Aside0.mk (Kd.R_drew HO847.out)
         replace HO853 := Aside0.mk (Kd.R_drew HO853.out)
         replace BK838 := Aside0.mk (blk_drew BK838.out)
         replace BK839 := Aside0.mk (blk_drew BK839.out)
         replace BK844 := Aside0.mk (blk_drew BK844.out)
         replace BK849 := Aside0.mk (blk_drew BK849.out)
         replace HB := Aside0.mk (below_drew1 HB.out)
         refine start_ (n := 18) (S := fun w' => True) (ds := []) (fl_ 18 0) (by kernel_rfl) rfl rfl trivial (fun hHeld => ?_); refine with_tabW laws_FnGlued.tab12 laws_FnGlued.bits12 (fun HT_ HW_ => ?_)
         generalize w58.drew = w75 at HO832 HO835 HO842 HO847 HO853 BK838 BK839 BK844 BK849 HB hHeld ⊢
         refine pu_ 0 83 (fl_ 18 1) ?_
         refine pu_ 1 84 (fl_ 18 2) ?_
         refine un_ 2 85 (fl_ 18 3) ?_
         refine un_ 3 86 (fl_ 18 4) ?_
         refine un_ 4 87 (fl_ 18 5) ?_
         refine un_ 5 88 (fl_ 18 6) ?_
         refine un_ 6 89 (fl_ 18 7) ?_
         refine un_ 7 90 (fl_ 18 8) ?_
         refine un_ 8 91 (fl_ 18 9) ?_
         refine un_ 9 92 (fl_ 18 10) ?_
         refine un_ 10 93 (fl_ 18 11) ?_
         refine un_ 11 94 (fl_ 18 12) ?_
         refine un_ 12 95 (fl_ 18 13) ?_
         refine un_ 13 96 (fl_ 18 14) ?_
         refine un_ 14 97 (fl_ 18 15) ?_
         refine un_ 15 98 (fl_ 18 16) ?_
         refine un_ 16 99 (fl_ 18 17) ?_
         refine pu_ 17 100 (fl_ 18 18) ?_
         refine done_ (done_of HT_.out (by kernel_rfl)) ?_
         try go_wp2
         go_meet
         case rel => exact ⟨_, (false), sd_, H', ⟨le_⟩, ⟨kr_ (Kd.R_mono HO853.out (fun _ hk => ⟨hk.1.1.1.2, ⟨hk.1.1.2, ⟨hk.1.2, hk.2⟩⟩⟩))⟩, ⟨kq_ (Kd.Q_mono HO832.out (fun _ hk => ⟨hk.2, ⟨hk.1.1.1, ⟨hk.1.1.2, hk.1.2⟩⟩⟩))⟩, ⟨kq_ (Kd.Q_mono HO835.out (fun _ hk => ⟨hk.2, ⟨hk.1.1.1, ⟨hk.1.1.2, hk.1.2⟩⟩⟩))⟩, ⟨Kd.Q_of_R (kr_ (Kd.R_mono HO842.out (fun _ hk => ⟨hk.2, ⟨hk.1.1.1.2, ⟨hk.1.1.2, hk.1.2⟩⟩⟩)))⟩, ⟨Kd.Q_of_R (kr_ (Kd.R_mono HO847.out (fun _ hk => ⟨hk.2, ⟨hk.1.1.1.2, ⟨hk.1.1.2, hk.1.2⟩⟩⟩)))⟩, ⟨bk_ BK838.out⟩, ⟨bk_ BK839.out⟩, ⟨bk_ BK844.out⟩, ⟨bk_ BK849.out⟩, ⟨bl_ HB.out⟩⟩
       case rest =>
        clear HC20
        try clear p2
        try clear c5
        try clear c6
        try clear c7
        try clear c59
        try clear c61
        try clear c61b0
        try clear c61b1
        try clear c64
        try clear c72
        try clear c73
        obtain ⟨kq, x100_19, rfl, HA, HJ19, HO_12, HO_839000, HO_840000, HO_845000, HO_850000, BK838, BK839, BK844, BK849, HB⟩ := hcut
        cases kq with
        | zero => exact absurd HA.out (by simp [laws_FnGlued.j0])
        | succ kj19 =>
         have H := HA.out
         clear HA
         simp only [laws_FnGlued.j0] at H
         by_cases c76 : x100_19 = true
         ·subst c76
          rw [if_pos rfl] at H
          exact absurd H (by simp)
         ·obtain rfl := Bool.eq_false_iff.mpr c76
          rw [if_neg nf_] at H
          replace H := Option.bind_eq_some_iff.mp H
          obtain ⟨⟨t864, t867⟩, A770, H⟩ := H
          (try dsimp only at H)
          have A77 := Aside0.mk A770
          clear A770
          by_cases c78 : t854 = true
          ·subst c78
           rw [if_pos rfl] at H
           by_cases c79 : t867 = true
           ·subst c79
            rw [if_pos rfl] at H
            obtain ⟨t869, A80, H⟩ := ob_ H
            (try dsimp only at H)
            by_cases c81 : t855 = t869
            ·rw [if_pos c81] at H
             have c81b0 : (t855 == t869) = true := beq_iff_eq.mpr c81
             have c81b1 : (t855 != t869) = false := bne_eq_false_iff_eq.mpr c81
             clear c81
             obtain ⟨t870, A82, H⟩ := ob_ H
             (try dsimp only at H)
             obtain rfl := Option.some.inj H
             go_wp2_with (first | ((with_reducible refine gate_callee (f := 74) rfl ?_); refine gl_ 103 Try.func74 #[.slice Ao48 t851.length co48] ?_; (with_reducible refine (spec_FromGens.calls kj19 _ _ t851 t864 true _ ?side1 ?side2 A77.out).mono ?_); (case side1 => exact rs_ HO_12); (case side2 => exact (Kd.R_reads' HO_12.out).2.1); rintro e w83 ⟨v865, rfl, ho0, hb⟩; refine ⟨_, rfl, ?_⟩; have HO866 := Aside0.mk (Kd.R_lower (Kd.R_new' (Kd.R_new' (Kd.R_new' (Kd.R_new' (Kd.R_new' ho0 (Kd.R_lt (kr_ HO_12.out))) (Kd.Q_lt (kq_ HO_839000.out))) (Kd.Q_lt (kq_ HO_840000.out))) (Kd.Q_lt (kq_ HO_845000.out))) (Kd.Q_lt (kq_ HO_850000.out))) (below_size (bl_ HB.out))); replace HO_12 := Aside0.mk (Kd.R_elder' (kr_ HO_12.out) (Kd.R_base ho0) hb); replace HO_839000 := Aside0.mk (Kd.Q_elder' (kq_ HO_839000.out) (Kd.R_base ho0) hb); replace HO_840000 := Aside0.mk (Kd.Q_elder' (kq_ HO_840000.out) (Kd.R_base ho0) hb); replace HO_845000 := Aside0.mk (Kd.Q_elder' (kq_ HO_845000.out) (Kd.R_base ho0) hb); replace HO_850000 := Aside0.mk (Kd.Q_elder' (kq_ HO_850000.out) (Kd.R_base ho0) hb); replace BK838 := bb_ BK838 hb; replace BK839 := bb_ BK839 hb; replace BK844 := bb_ BK844 hb; replace BK849 := bb_ BK849 hb; replace HB := bs_ HB hb; (try clear hb); (try clear hb2); (try clear hk); (try clear hi); (try clear ho0)) | ((with_reducible refine gate_dst (N := 15) rfl ?_); refine be_ 15 #[.slice none 0 0] 41 fun gb868 hg w84 hbox hb => ?_; replace HO_12 := rb_ HO_12 hb; replace HO_839000 := qb_ HO_839000 hb; replace HO_840000 := qb_ HO_840000 hb; replace HO_845000 := qb_ HO_845000 hb; replace HO_850000 := qb_ HO_850000 hb; replace HO866 := rb_ HO866 hb; have BK868 := Aside0.mk (hbox); have GW868 := ge_ hg HB; have GE868 := ge_ hg HB; replace HB := bs_ HB hb; have NB838_868 := nl_ hg BK838; have NB868_838 := ng_ hg BK838; replace BK838 := bb_ BK838 hb; have NB839_868 := nl_ hg BK839; have NB868_839 := ng_ hg BK839; replace BK839 := bb_ BK839 hb; have NB844_868 := nl_ hg BK844; have NB868_844 := ng_ hg BK844; replace BK844 := bb_ BK844 hb; have NB849_868 := nl_ hg BK849; have NB868_849 := ng_ hg BK849; replace BK849 := bb_ BK849 hb; clear hb hbox hg; obtain ⟨Ao85, co85, eo85⟩ := Kd.R_slice HO866.out; subst eo85; have hnb86 := NB868_838.out; have hnc86 := NB838_868.out; have hnb87 := NB868_839.out; have hnc87 := NB839_868.out; have hnb88 := NB868_844.out; have hnc88 := NB844_868.out; have hnb89 := NB868_849.out; have hnc89 := NB849_868.out; have hcz90_0 := bc_ BK868; have hfz90_0 := blk_frozen BK868.out 0) | (go_at_call 72; (with_reducible refine (spec_FrobeniusOf.calls kj19 _ _ t864 t869 _ ?side1 ?side2 A80.out).mono ?_); (case side1 => refine (Kd.R_reads' (e := 3) (base := w.heap.size) (ok := fun k_ => (((((True ∧ some k_ ≠ (.slice Ao48 t851.length co48 : Value).ownBlock) ∧ some k_ ≠ (.slice Ao24 t830.length co24 : Value).ownBlock) ∧ some k_ ≠ (.slice Ao27 t833.length co27 : Value).ownBlock) ∧ some k_ ≠ (.slice Ao31 t840.length co31 : Value).ownBlock) ∧ some k_ ≠ (.slice Ao39 t845.length co39 : Value).ownBlock)) (n := t864.length) (c := co85) ?_).2.2; exact (kr_ ((Kd.R_mono (Kd.R_far (p := ⟨gb868, 0, none⟩) (Kd.R_types HO866.out BK868.out (by decide)) (fun _ hk => hk.2) (.slice Ao85 t864.length co85)) (fun _ h_ => h_.1))))); (case side2 => exact (Kd.R_reads' HO866.out).2.1); rintro e w91 ⟨rfl, hb⟩; replace HO_12 := Aside0.mk (Kd.R_below (kr_ ((Kd.R_mono (Kd.R_far (p := ⟨gb868, 0, none⟩) (Kd.R_types HO_12.out BK868.out (by decide)) (fun _ hk => hk.2) (.slice Ao85 t864.length co85)) (fun _ h_ => h_.1)))) hb); replace HO_839000 := Aside0.mk (Kd.Q_below (kq_ ((Kd.Q_mono (Kd.Q_far (p := ⟨gb868, 0, none⟩) (Kd.Q_types HO_839000.out BK868.out (by decide)) (fun _ hk => hk.2) (.slice Ao85 t864.length co85)) (fun _ h_ => h_.1)))) hb); replace HO_840000 := Aside0.mk (Kd.Q_below (kq_ ((Kd.Q_mono (Kd.Q_far (p := ⟨gb868, 0, none⟩) (Kd.Q_types HO_840000.out BK868.out (by decide)) (fun _ hk => hk.2) (.slice Ao85 t864.length co85)) (fun _ h_ => h_.1)))) hb); replace HO_845000 := Aside0.mk (Kd.Q_below (kq_ ((Kd.Q_mono (Kd.Q_far (p := ⟨gb868, 0, none⟩) (Kd.Q_types HO_845000.out BK868.out (by decide)) (fun _ hk => hk.2) (.slice Ao85 t864.length co85)) (fun _ h_ => h_.1)))) hb); replace HO_850000 := Aside0.mk (Kd.Q_below (kq_ ((Kd.Q_mono (Kd.Q_far (p := ⟨gb868, 0, none⟩) (Kd.Q_types HO_850000.out BK868.out (by decide)) (fun _ hk => hk.2) (.slice Ao85 t864.length co85)) (fun _ h_ => h_.1)))) hb); replace HO866 := Aside0.mk (Kd.R_below (kr_ ((Kd.R_mono (Kd.R_far (p := ⟨gb868, 0, none⟩) (Kd.R_types HO866.out BK868.out (by decide)) (fun _ hk => hk.2) (.slice Ao85 t864.length co85)) (fun _ h_ => h_.1)))) hb); replace BK838 := Aside0.mk (blk_below (g := gb838) (o := .cells #[.slice Ao24 t830.length co24] 41 (0, 0)) (bf_ BK838.out) hb); replace BK839 := Aside0.mk (blk_below (g := gb839) (o := .cells #[.slice Ao27 t833.length co27] 41 (0, 0)) (bf_ BK839.out) hb); replace BK844 := Aside0.mk (blk_below (g := gb844) (o := .cells #[.slice Ao31 t840.length co31] 41 (0, 0)) (bf_ BK844.out) hb); replace BK849 := Aside0.mk (blk_below (g := gb849) (o := .cells #[.slice Ao39 t845.length co39] 41 (0, 0)) (bf_ BK849.out) hb); replace BK868 := Aside0.mk (blk_below (g := gb868) (o := .cells #[.slice Ao85 t864.length co85] 41 (0, 0)) (by (with_reducible repeat (first | refine blk_drewN ?_ _ | refine blk_drew ?_ | refine blk_alloc ?_ _)); refine blk_put (cs := #[.slice none 0 0]) ?_ 0 _ rfl; (with_reducible repeat (first | refine blk_drewN ?_ _ | refine blk_drew ?_ | refine blk_alloc ?_ _)); exact BK868.out) hb); replace HB := bs_ HB hb; (try clear hb); (try clear hb2); (try clear hk); (try clear hi); have hcz92_0 := bc_ BK868; have hfz92_0 := blk_frozen BK868.out 0) | (go_at_call 73; (with_reducible refine (spec_IsSymmetric.calls kj19 _ _ t864 t870 _ ?side1 ?side2 A82.out).mono ?_); (case side1 => exact rs_ HO866); (case side2 => exact (Kd.R_reads' HO866.out).2.1); rintro e w93 ⟨rfl, hb⟩; replace HO_12 := rb_ HO_12 hb; replace HO_839000 := qb_ HO_839000 hb; replace HO_840000 := qb_ HO_840000 hb; replace HO_845000 := qb_ HO_845000 hb; replace HO_850000 := qb_ HO_850000 hb; replace HO866 := rb_ HO866 hb; replace BK838 := bb_ BK838 hb; replace BK839 := bb_ BK839 hb; replace BK844 := bb_ BK844 hb; replace BK849 := bb_ BK849 hb; replace BK868 := bb_ BK868 hb; replace HB := bs_ HB hb; (try clear hb); (try clear hb2); (try clear hk); (try clear hi)))
             go_ret
             exact ⟨er_, bl_ HB.out⟩
            ·rw [if_neg c81] at H
             exact absurd H (by simp)
           ·obtain rfl := Bool.eq_false_iff.mpr c79
            rw [if_neg nf_] at H
            obtain rfl := Option.some.inj H
            go_wp2_with (first | ((with_reducible refine gate_callee (f := 74) rfl ?_); refine gl_ 103 Try.func74 #[.slice Ao48 t851.length co48] ?_; (with_reducible refine (spec_FromGens.calls kj19 _ _ t851 t864 false _ ?side1 ?side2 A77.out).mono ?_); (case side1 => exact rs_ HO_12); (case side2 => exact (Kd.R_reads' HO_12.out).2.1); rintro e w94 ⟨v865, rfl, ho0, hb⟩; refine ⟨_, rfl, ?_⟩; have HO866 := Aside0.mk (Kd.R_lower (Kd.R_new' (Kd.R_new' (Kd.R_new' (Kd.R_new' (Kd.R_new' ho0 (Kd.R_lt (kr_ HO_12.out))) (Kd.Q_lt (kq_ HO_839000.out))) (Kd.Q_lt (kq_ HO_840000.out))) (Kd.Q_lt (kq_ HO_845000.out))) (Kd.Q_lt (kq_ HO_850000.out))) (below_size (bl_ HB.out))); replace HO_12 := Aside0.mk (Kd.R_elder' (kr_ HO_12.out) (Kd.R_base ho0) hb); replace HO_839000 := Aside0.mk (Kd.Q_elder' (kq_ HO_839000.out) (Kd.R_base ho0) hb); replace HO_840000 := Aside0.mk (Kd.Q_elder' (kq_ HO_840000.out) (Kd.R_base ho0) hb); replace HO_845000 := Aside0.mk (Kd.Q_elder' (kq_ HO_845000.out) (Kd.R_base ho0) hb); replace HO_850000 := Aside0.mk (Kd.Q_elder' (kq_ HO_850000.out) (Kd.R_base ho0) hb); replace BK838 := bb_ BK838 hb; replace BK839 := bb_ BK839 hb; replace BK844 := bb_ BK844 hb; replace BK849 := bb_ BK849 hb; replace HB := bs_ HB hb; (try clear hb); (try clear hb2); (try clear hk); (try clear hi); (try clear ho0)) | ((with_reducible refine gate_dst (N := 15) rfl ?_); refine be_ 15 #[.slice none 0 0] 41 fun gb868 hg w95 hbox hb => ?_; replace HO_12 := rb_ HO_12 hb; replace HO_839000 := qb_ HO_839000 hb; replace HO_840000 := qb_ HO_840000 hb; replace HO_845000 := qb_ HO_845000 hb; replace HO_850000 := qb_ HO_850000 hb; replace HO866 := rb_ HO866 hb; have BK868 := Aside0.mk (hbox); have GW868 := ge_ hg HB; have GE868 := ge_ hg HB; replace HB := bs_ HB hb; have NB838_868 := nl_ hg BK838; have NB868_838 := ng_ hg BK838; replace BK838 := bb_ BK838 hb; have NB839_868 := nl_ hg BK839; have NB868_839 := ng_ hg BK839; replace BK839 := bb_ BK839 hb; have NB844_868 := nl_ hg BK844; have NB868_844 := ng_ hg BK844; replace BK844 := bb_ BK844 hb; have NB849_868 := nl_ hg BK849; have NB868_849 := ng_ hg BK849; replace BK849 := bb_ BK849 hb; clear hb hbox hg; obtain ⟨Ao96, co96, eo96⟩ := Kd.R_slice HO866.out; subst eo96; have hnb97 := NB868_838.out; have hnc97 := NB838_868.out; have hnb98 := NB868_839.out; have hnc98 := NB839_868.out; have hnb99 := NB868_844.out; have hnc99 := NB844_868.out; have hnb100 := NB868_849.out; have hnc100 := NB849_868.out; have hcz101_0 := bc_ BK868; have hfz101_0 := blk_frozen BK868.out 0))
            go_ret
            exact ⟨er_, bl_ HB.out⟩
          ·obtain rfl := Bool.eq_false_iff.mpr c78
           rw [if_neg nf_] at H
           obtain rfl := Option.some.inj H
           go_wp2_with (first | ((with_reducible refine gate_callee (f := 74) rfl ?_); refine gl_ 103 Try.func74 #[.slice Ao48 t851.length co48] ?_; (with_reducible refine (spec_FromGens.calls kj19 _ _ t851 t864 t867 _ ?side1 ?side2 A77.out).mono ?_); (case side1 => exact rs_ HO_12); (case side2 => exact (Kd.R_reads' HO_12.out).2.1); rintro e w102 ⟨v865, rfl, ho0, hb⟩; refine ⟨_, rfl, ?_⟩; have HO866 := Aside0.mk (Kd.R_lower (Kd.R_new' (Kd.R_new' (Kd.R_new' (Kd.R_new' (Kd.R_new' ho0 (Kd.R_lt (kr_ HO_12.out))) (Kd.Q_lt (kq_ HO_839000.out))) (Kd.Q_lt (kq_ HO_840000.out))) (Kd.Q_lt (kq_ HO_845000.out))) (Kd.Q_lt (kq_ HO_850000.out))) (below_size (bl_ HB.out))); replace HO_12 := Aside0.mk (Kd.R_elder' (kr_ HO_12.out) (Kd.R_base ho0) hb); replace HO_839000 := Aside0.mk (Kd.Q_elder' (kq_ HO_839000.out) (Kd.R_base ho0) hb); replace HO_840000 := Aside0.mk (Kd.Q_elder' (kq_ HO_840000.out) (Kd.R_base ho0) hb); replace HO_845000 := Aside0.mk (Kd.Q_elder' (kq_ HO_845000.out) (Kd.R_base ho0) hb); replace HO_850000 := Aside0.mk (Kd.Q_elder' (kq_ HO_850000.out) (Kd.R_base ho0) hb); replace BK838 := bb_ BK838 hb; replace BK839 := bb_ BK839 hb; replace BK844 := bb_ BK844 hb; replace BK849 := bb_ BK849 hb; replace HB := bs_ HB hb; (try clear hb); (try clear hb2); (try clear hk); (try clear hi); (try clear ho0)) | ((with_reducible refine gate_dst (N := 15) rfl ?_); refine be_ 15 #[.slice none 0 0] 41 fun gb868 hg w103 hbox hb => ?_; replace HO_12 := rb_ HO_12 hb; replace HO_839000 := qb_ HO_839000 hb; replace HO_840000 := qb_ HO_840000 hb; replace HO_845000 := qb_ HO_845000 hb; replace HO_850000 := qb_ HO_850000 hb; replace HO866 := rb_ HO866 hb; have BK868 := Aside0.mk (hbox); have GW868 := ge_ hg HB; have GE868 := ge_ hg HB; replace HB := bs_ HB hb; have NB838_868 := nl_ hg BK838; have NB868_838 := ng_ hg BK838; replace BK838 := bb_ BK838 hb; have NB839_868 := nl_ hg BK839; have NB868_839 := ng_ hg BK839; replace BK839 := bb_ BK839 hb; have NB844_868 := nl_ hg BK844; have NB868_844 := ng_ hg BK844; replace BK844 := bb_ BK844 hb; have NB849_868 := nl_ hg BK849; have NB868_849 := ng_ hg BK849; replace BK849 := bb_ BK849 hb; clear hb hbox hg; obtain ⟨Ao104, co104, eo104⟩ := Kd.R_slice HO866.out; subst eo104; have hnb105 := NB868_838.out; have hnc105 := NB838_868.out; have hnb106 := NB868_839.out; have hnc106 := NB839_868.out; have hnb107 := NB868_844.out; have hnc107 := NB844_868.out; have hnb108 := NB868_849.out; have hnc108 := NB849_868.out; have hcz109_0 := bc_ BK868; have hfz109_0 := blk_frozen BK868.out 0))
           go_ret
           exact ⟨er_, bl_ HB.out⟩
      ·rw [if_neg c19] at H
       exact absurd H (by simp)
    ·rw [if_neg c15] at H
     exact absurd H (by simp)
   ·obtain rfl := Bool.eq_false_iff.mpr c13
    rw [if_neg nf_] at H
    exact absurd H (by simp)
def laws_FnGlued.Pure : Prop := ∀ (l0 : List Int), l0.length ≤ maxLen → l0.length * 1 ≤ 140737488351232 → (∀ x ∈ l0, (Lit.int .u8 x).wf = true) → ∃ k, laws_FnGlued.f k l0 = some true
theorem laws_FnGlued.walk (P : laws_FnGlued.Pure) (a0 : Option Addr) (len0 cap0 : Nat) (z0 : List Int) (w : World) (w0 : (a0 = none ∧ len0 = 0 ∧ cap0 = 0 ∧ z0 = []) ∨ ∃ x, a0 = some x ∧ len0 ≤ cap0 ∧ cap0 ≤ maxLen ∧ z0.length = cap0 ∧ (∀ i, i < z0.length → w.cell? (x.add i) = some (.int .u8 (z0.getD i 0))) ∧ ∀ n ∈ z0, (Lit.int .u8 n).wf = true) (y0 : len0 * 1 ≤ 140737488351232) :
 Calls Try.prog 11 #[.slice a0 len0 cap0] w fun e w' => e = .returned (.bool true) ∧ Below w.heap.size w w' := by
 obtain ⟨l0, rfl, hr0, hm0, hw0, hc0⟩ := ReadsInt.ofRowC w0
 obtain ⟨k, h⟩ := P l0 hm0 y0 hw0
 refine (laws_FnGlued.calls k _ _ l0 true w (Kd.C_of_reads (d := (0 : Int)) (h1 := fun _ => rfl) hr0) hc0 h).mono ?_
 rintro e w' ⟨rfl, hd⟩
 exact ⟨rfl, hd⟩
end Go.Proofs.Ytbjbolblahlhcaa.PFnGlued
end
section
namespace Go.Proofs.Ytbjbolblahlhcaa.M
open Go Go.RowKit Go.Proofs.YtbjbolblahlhcaaW.PrintWords
inductive Sums (g : List Int) : Int → Prop
 | zero : Sums g 0
 | add {n x : Int} : x ∈ g → Sums g n → Sums g (n + x)
theorem Sums.trans {g : List Int} {a b : Int} (ha : Sums g a) (hb : Sums g b) : Sums g (a + b) := by
 induction hb with
 | zero => simpa using ha
 | add hx _ ih => rw [← Int.add_assoc]; exact .add hx ih
theorem Sums.one {g : List Int} {x : Int} (h : x ∈ g) : Sums g x := by simpa using Sums.add h .zero
theorem Sums.sub {g g' : List Int} {n : Int} (h : ∀ x ∈ g, Sums g' x) (hn : Sums g n) : Sums g' n := by
 induction hn with
 | zero => exact .zero
 | add hx _ ih => exact ih.trans (h _ hx)
theorem Sums.mono {g g' : List Int} {n : Int} (h : ∀ x ∈ g, x ∈ g') (hn : Sums g n) : Sums g' n := hn.sub fun x hx => .one (h x hx)
theorem Sums.nonneg {g : List Int} {n : Int} (h : ∀ x ∈ g, 1 ≤ x) (hn : Sums g n) : 0 ≤ n := by
 induction hn with
 | zero => omega
 | add hx _ ih => have := h _ hx; omega
theorem Sums.step {g : List Int} {n : Int} (hn : Sums g n) (h0 : n ≠ 0) : ∃ x ∈ g, Sums g (n - x) := by
 cases hn with
 | zero => exact absurd rfl h0
 | add hx h => exact ⟨_, hx, by rw [Int.add_sub_cancel]; exact h⟩
theorem Sums.mul {g : List Int} {n : Int} (hn : Sums g n) (k : Nat) : Sums g (k * n) := by
 induction k with
 | zero => simpa using Sums.zero
 | succ k ih => rw [Int.natCast_succ, Int.add_mul, Int.one_mul]; exact ih.trans hn
theorem Sums.nil {n : Int} (h : Sums [] n) : n = 0 := by
 cases h with
 | zero => rfl
 | add hx _ => simp at hx
theorem Sums.step_le {g : List Int} (hg : ∀ x ∈ g, 1 ≤ x) {n : Int} : Sums g n ↔ n = 0 ∨ ∃ x ∈ g, x ≤ n ∧ Sums g (n - x) := by
 constructor
 ·intro h
  by_cases h0 : n = 0
  ·exact .inl h0
  ·obtain ⟨x, hx, h⟩ := h.step h0
   exact .inr ⟨x, hx, by have := h.nonneg hg; omega, h⟩
 ·rintro (rfl | ⟨x, hx, _, h⟩)
  ·exact .zero
  ·have := Sums.add hx h
   rwa [Int.sub_add_cancel] at this
theorem emod_add_congr {a b c d m : Int} (h1 : a % m = b % m) (h2 : c % m = d % m) : (a + c) % m = (b + d) % m := by
 rw [Int.add_emod, h1, h2, ← Int.add_emod]
theorem emod_mul_congr {a b m : Int} (k : Int) (h1 : a % m = b % m) : (k * a) % m = (k * b) % m := by
 rw [Int.mul_emod, h1, ← Int.mul_emod]
def Hits (g : List Int) (a d : Int) : Prop := ∃ n, Sums g n ∧ n % a = d % a
theorem Hits.add {g : List Int} {a d e : Int} : Hits g a d → Hits g a e → Hits g a (d + e) := by
 rintro ⟨n, hn, h1⟩ ⟨m, hm, h2⟩
 exact ⟨n + m, hn.trans hm, emod_add_congr h1 h2⟩
theorem Hits.mul {g : List Int} {a d : Int} (k : Nat) : Hits g a d → Hits g a (k * d) := by
 rintro ⟨n, hn, h1⟩
 exact ⟨k * n, hn.mul k, emod_mul_congr _ h1⟩
theorem Hits.congr {g : List Int} {a d e : Int} (h : Hits g a d) (he : d % a = e % a) : Hits g a e := by
 obtain ⟨n, hn, h1⟩ := h
 exact ⟨n, hn, h1.trans he⟩
theorem Hits.neg {g : List Int} {a d : Int} (ha : 1 ≤ a) (h : Hits g a d) : Hits g a (-d) := by
 have := Hits.mul (a - 1).toNat h
 refine this.congr ?_
 rw [Int.toNat_of_nonneg (by omega), Int.sub_mul, Int.one_mul, Int.sub_eq_add_neg, Int.add_comm, Int.add_mul_emod_self_left]
theorem Hits.sub {g : List Int} {a d e : Int} (ha : 1 ≤ a) (h : Hits g a d) (h' : Hits g a e) : Hits g a (d - e) := by
 rw [Int.sub_eq_add_neg]; exact h.add (h'.neg ha)
theorem Hits.zmul {g : List Int} {a d : Int} (ha : 1 ≤ a) (k : Int) (h : Hits g a d) : Hits g a (k * d) := by
 rcases Int.le_total 0 k with hk | hk
 ·have := h.mul k.toNat
  rwa [Int.toNat_of_nonneg hk] at this
 ·have := (h.mul (-k).toNat).neg ha
  rw [Int.toNat_of_nonneg (by omega), Int.neg_mul, Int.neg_neg] at this
  exact this
theorem Hits.gcd {g : List Int} {a : Int} (ha : 1 ≤ a) : ∀ (x y : Nat), Hits g a x → Hits g a y → Hits g a (Nat.gcd x y) := by
 intro x y
 induction x, y using Nat.gcd.induction with
 | H0 n => intro _ h; simpa using h
 | H1 m n hm ih =>
  intro h1 h2
  rw [Nat.gcd_rec]
  refine ih ?_ h1
  have e : ((n % m : Nat) : Int) = (n : Int) - ((n / m : Nat) : Int) * m := by
   have := Nat.mod_add_div n m
   have h3 : (n : Int) = ((n % m : Nat) : Int) + (m : Int) * ((n / m : Nat) : Int) := by exact_mod_cast this.symm
   rw [Int.mul_comm]; omega
  rw [e]
  exact h2.sub ha (h1.zmul ha _)
def gcdL (g : List Int) : Nat := g.foldl (fun d x => Nat.gcd d x.natAbs) 0
theorem gcdL_snoc (g : List Int) (x : Int) : gcdL (g ++ [x]) = Nat.gcd (gcdL g) x.natAbs := by simp [gcdL]
theorem foldl_gcd_dvd (g : List Int) : ∀ d : Nat, (g.foldl (fun d x => Nat.gcd d x.natAbs) d) ∣ d ∧ ∀ x ∈ g, ((g.foldl (fun d x => Nat.gcd d x.natAbs) d : Nat) : Int) ∣ x := by
 induction g with
 | nil => intro d; exact ⟨Nat.dvd_refl _, fun _ h => by simp at h⟩
 | cons y t ih =>
  intro d
  simp only [List.foldl_cons]
  obtain ⟨h1, h2⟩ := ih (Nat.gcd d y.natAbs)
  refine ⟨Nat.dvd_trans h1 (Nat.gcd_dvd_left _ _), fun x hx => ?_⟩
  rcases List.mem_cons.1 hx with rfl | hx
  ·exact Int.ofNat_dvd_left.2 (Nat.dvd_trans h1 (Nat.gcd_dvd_right _ _))
  ·exact h2 x hx
theorem gcdL_dvd {g : List Int} {x : Int} (h : x ∈ g) : (gcdL g : Int) ∣ x := (foldl_gcd_dvd g 0).2 x h
theorem dvd_foldl_gcd (g : List Int) (c : Nat) : ∀ d : Nat, c ∣ d → (∀ x ∈ g, (c : Int) ∣ x) → c ∣ g.foldl (fun d x => Nat.gcd d x.natAbs) d := by
 induction g with
 | nil => intro d h _; exact h
 | cons y t ih =>
  intro d h hx
  simp only [List.foldl_cons]
  exact ih _ (Nat.dvd_gcd h (Int.ofNat_dvd_left.1 (hx y List.mem_cons_self))) fun x h => hx x (List.mem_cons_of_mem _ h)
theorem dvd_gcdL {g : List Int} {c : Nat} (h : ∀ x ∈ g, (c : Int) ∣ x) : c ∣ gcdL g := dvd_foldl_gcd g c 0 (Nat.dvd_zero _) h
theorem gcdL_congr {g g' : List Int} (h : ∀ x, x ∈ g ↔ x ∈ g') : gcdL g = gcdL g' :=
 Nat.dvd_antisymm (dvd_gcdL fun x hx => gcdL_dvd ((h x).2 hx)) (dvd_gcdL fun x hx => gcdL_dvd ((h x).1 hx))
theorem Sums.dvd {g : List Int} {c n : Int} (h : ∀ x ∈ g, c ∣ x) (hn : Sums g n) : c ∣ n := by
 induction hn with
 | zero => exact Int.dvd_zero _
 | add hx _ ih => exact Int.dvd_add ih (h _ hx)
theorem hits_foldl {g0 : List Int} {a : Int} (ha : 1 ≤ a) (hpos : ∀ x ∈ g0, 0 ≤ x) (g : List Int) (hs : ∀ x ∈ g, x ∈ g0) : ∀ d : Nat, Hits g0 a d → Hits g0 a ((g.foldl (fun d x => Nat.gcd d x.natAbs) d : Nat) : Int) := by
 induction g with
 | nil => intro d h; exact h
 | cons y t ih =>
  intro d h
  simp only [List.foldl_cons]
  refine ih (fun x hx => hs x (List.mem_cons_of_mem _ hx)) _ (Hits.gcd ha _ _ h ?_)
  have hy := hs y List.mem_cons_self
  have := hpos y hy
  exact ⟨y, .one hy, by rw [Int.natAbs_of_nonneg this]⟩
theorem hits_gcdL {g : List Int} {a : Int} (ha : 1 ≤ a) (hpos : ∀ x ∈ g, 0 ≤ x) (k : Int) : Hits g a (k * gcdL g) :=
 (hits_foldl ha hpos g (fun _ h => h) 0 ⟨0, .zero, rfl⟩).zmul ha k
def InR (lo hi : Int) (g : List Int) : Prop := ∀ x ∈ g, lo ≤ x ∧ x ≤ hi
structure IsSG (g : List Int) : Prop where
 pos : 1 ≤ g.length
 le : g.length ≤ 12
 rng : InR 1 60 g
 asc : g.Pairwise (· < ·)
 gcd : gcdL g = 1
 minl : ∀ i : Nat, 1 ≤ i → i < g.length → ¬ Sums (g.take i) (g.getD i 0)
 ends : ∀ n : Int, 200 ≤ n → Sums g n
theorem ends_of {g : List Int} {a : Int} (ha : 1 ≤ a) (hag : a ∈ g) {B : Int} (h : ∀ n, B ≤ n → n < B + a → Sums g n) : ∀ n, B ≤ n → Sums g n := by
 intro n hn
 have e : n = B + (n - B) % a + ((n - B) / a) * a := by have := Int.emod_add_mul_ediv (n - B) a; rw [Int.mul_comm]; omega
 have h1 := Int.emod_nonneg (n - B) (show a ≠ 0 by omega)
 have h2 := Int.emod_lt_of_pos (n - B) (show 0 < a by omega)
 have h3 : 0 ≤ (n - B) / a := Int.ediv_nonneg (by omega) (by omega)
 rw [e]
 refine (h _ (by omega) (by omega)).trans ?_
 have := (Sums.one hag).mul ((n - B) / a).toNat
 rwa [Int.toNat_of_nonneg h3] at this
noncomputable def minOf : List Int → List Int → List Int
 | _, [] => []
 | seen, x :: t => open Classical in if Sums seen x then minOf (seen ++ [x]) t else x :: minOf (seen ++ [x]) t
end Go.Proofs.Ytbjbolblahlhcaa.M
end
section
namespace Go.Proofs.Ytbjbolblahlhcaa.M
open Go Go.RowKit Go.Proofs.YtbjbolblahlhcaaW.PrintWords
theorem Ev.pos {α : Type} {c : Prop} [Decidable c] {A B : Nat → Option α} {r : α} (h : c) (k : Ev A r) : Ev (fun n => if c then A n else B n) r := by
 simpa only [if_pos h] using k
theorem Ev.neg {α : Type} {c : Prop} [Decidable c] {A B : Nat → Option α} {r : α} (h : ¬ c) (k : Ev B r) : Ev (fun n => if c then A n else B n) r := by
 simpa only [if_neg h] using k
theorem Ev.call {α β : Type} {g : Option α} {f : Nat → α → Option β} {a : α} {r : β} (h : g = some a) (k : Ev (fun n => f n a) r) : Ev (fun n => g.bind (f n)) r := by
 subst h; exact k
theorem Ev.same {α : Type} {g : Nat → Option α} {r r' : α} (h : Ev g r) (h' : Ev g r') : r = r' := by
 obtain ⟨K, h⟩ := h
 obtain ⟨K', h'⟩ := h'
 have h1 := h (max K K') (Nat.le_max_left _ _)
 have h2 := h' (max K K') (Nat.le_max_right _ _)
 rw [h1] at h2
 exact Option.some.inj h2
def EvB (g : Nat → Option Bool) (P : Prop) : Prop := ∃ b : Bool, Ev g b ∧ (b = true ↔ P)
theorem EvB.iff {g : Nat → Option Bool} {P Q : Prop} (h : EvB g P) (k : P ↔ Q) : EvB g Q := by
 obtain ⟨b, h1, h2⟩ := h
 exact ⟨b, h1, h2.trans k⟩
theorem EvB.yes {g : Nat → Option Bool} {P : Prop} (h : EvB g P) (k : P) : Ev g true := by
 obtain ⟨b, h1, h2⟩ := h
 rw [h2.2 k] at h1; exact h1
theorem EvB.no {g : Nat → Option Bool} {P : Prop} (h : EvB g P) (k : ¬ P) : Ev g false := by
 obtain ⟨b, h1, h2⟩ := h
 cases b with
 | false => exact h1
 | true => exact absurd (h2.1 rfl) k
theorem EvB.of_true {g : Nat → Option Bool} {P : Prop} (h : Ev g true) (k : P) : EvB g P := ⟨true, h, by simp [k]⟩
theorem EvB.of_false {g : Nat → Option Bool} {P : Prop} (h : Ev g false) (k : ¬ P) : EvB g P := ⟨false, h, by simp [k]⟩
theorem EvB.step {g f : Nat → Option Bool} {P : Prop} (h : ∀ k, g (k + 1) = f k) (k : EvB f P) : EvB g P := by
 obtain ⟨b, h1, h2⟩ := k
 exact ⟨b, Ev.step h h1, h2⟩
theorem EvB.pos {c : Prop} [Decidable c] {A B : Nat → Option Bool} {P : Prop} (h : c) (k : EvB A P) : EvB (fun n => if c then A n else B n) P := by
 obtain ⟨b, h1, h2⟩ := k
 exact ⟨b, Ev.pos h h1, h2⟩
theorem EvB.neg {c : Prop} [Decidable c] {A B : Nat → Option Bool} {P : Prop} (h : ¬ c) (k : EvB B P) : EvB (fun n => if c then A n else B n) P := by
 obtain ⟨b, h1, h2⟩ := k
 exact ⟨b, Ev.neg h h1, h2⟩
theorem EvB.bind {α : Type} {g : Nat → Option α} {f : Nat → α → Option Bool} {a : α} {P : Prop} (h : Ev g a) (k : EvB (fun n => f n a) P) : EvB (fun n => (g n).bind (f n)) P := by
 obtain ⟨b, h1, h2⟩ := k
 exact ⟨b, Ev.bind h h1, h2⟩
theorem EvB.call {α : Type} {g : Option α} {f : Nat → α → Option Bool} {a : α} {P : Prop} (h : g = some a) (k : EvB (fun n => f n a) P) : EvB (fun n => g.bind (f n)) P := by
 subst h; exact k
theorem EvB.dec {c : Prop} [Decidable c] {P : Prop} (h : c ↔ P) : EvB (fun _ => some (decide c)) P := ⟨decide c, Ev.now _, by simpa using h⟩
theorem EvB.eqv {g g' : Nat → Option Bool} {P : Prop} (h : EvB g P) (h' : EvB g' P) : ∃ b, Ev g b ∧ Ev g' b ∧ (b = true ↔ P) := by
 obtain ⟨b, h1, h2⟩ := h
 obtain ⟨b', h1', h2'⟩ := h'
 have : b' = b := by rw [Bool.eq_iff_iff, h2, h2']
 subst this
 exact ⟨b', h1, h1', h2⟩
theorem w64 {x : Int} (h1 : -9223372036854775808 ≤ x) (h2 : x ≤ 9223372036854775807) : wrap64 x = x := by unfold wrap64; omega
theorem w64s {j : Nat} (h : j < 9223372036854775807) : wrap64 ((j : Int) + 1) = ((j + 1 : Nat) : Int) := by unfold wrap64; omega
theorem w64p {j : Nat} (h : 1 ≤ j) (h2 : j ≤ 9223372036854775807) : wrap64 ((j : Int) - 1) = ((j - 1 : Nat) : Int) := by unfold wrap64; omega
theorem rd_nat (xs : List Int) (i : Nat) : rd xs (i : Int) = xs.getD i 0 := by simp [rd]
theorem rdOf_nat {α : Type} (d : α) (xs : List α) (i : Nat) : rdOf d xs (i : Int) = xs.getD i d := by simp [rdOf]
theorem rd_get {xs : List Int} {i : Nat} (h : i < xs.length) : rd xs (i : Int) = xs[i] := by rw [rd_nat, List.getD_eq_getElem?_getD, List.getElem?_eq_getElem h]; rfl
theorem rdOf_get {α : Type} {d : α} {xs : List α} {i : Nat} (h : i < xs.length) : rdOf d xs (i : Int) = xs[i] := by rw [rdOf_nat, List.getD_eq_getElem?_getD, List.getElem?_eq_getElem h]; rfl
theorem getD_get {α : Type} {d : α} {xs : List α} {i : Nat} (h : i < xs.length) : xs.getD i d = xs[i] := by rw [List.getD_eq_getElem?_getD, List.getElem?_eq_getElem h]; rfl
theorem rd_mem {xs : List Int} {i : Nat} (h : i < xs.length) : rd xs (i : Int) ∈ xs := by rw [rd_get h]; exact List.getElem_mem h
theorem drop_cons {α : Type} {xs : List α} {i : Nat} (h : i < xs.length) : xs.drop i = xs[i] :: xs.drop (i + 1) := List.drop_eq_getElem_cons h
theorem take_snoc' {α : Type} {xs : List α} {i : Nat} (h : i < xs.length) : xs.take (i + 1) = xs.take i ++ [xs[i]] := by rw [List.take_succ_eq_append_getElem h]
theorem tmod_pos {a b : Int} (h : 0 ≤ a) : Int.tmod a b = a % b := Int.tmod_eq_emod_of_nonneg h
theorem asc_ext : ∀ {s t : List Int}, s.Pairwise (· < ·) → t.Pairwise (· < ·) → (∀ x, x ∈ s ↔ x ∈ t) → s = t
 | [], [], _, _, _ => rfl
 | [], y :: t, _, _, h => by have := (h y).2 List.mem_cons_self; simp at this
 | x :: s, [], _, _, h => by have := (h x).1 List.mem_cons_self; simp at this
 | x :: s, y :: t, hs, ht, h => by
  obtain ⟨hs1, hs2⟩ := List.pairwise_cons.1 hs
  obtain ⟨ht1, ht2⟩ := List.pairwise_cons.1 ht
  have hxy : x = y := by
   rcases List.mem_cons.1 ((h x).1 List.mem_cons_self) with e | e
   ·exact e
   ·rcases List.mem_cons.1 ((h y).2 List.mem_cons_self) with e' | e'
    ·exact e'.symm
    ·have := ht1 x e; have := hs1 y e'; omega
  subst hxy
  congr 1
  refine asc_ext hs2 ht2 fun z => ⟨fun hz => ?_, fun hz => ?_⟩
  ·rcases List.mem_cons.1 ((h z).1 (List.mem_cons_of_mem _ hz)) with e | e
   ·subst e; have := hs1 z hz; omega
   ·exact e
  ·rcases List.mem_cons.1 ((h z).2 (List.mem_cons_of_mem _ hz)) with e | e
   ·subst e; have := ht1 z hz; omega
   ·exact e
theorem pairwise_of_adj {s : List Int} (h : ∀ i : Nat, i + 1 < s.length → s.getD i 0 < s.getD (i + 1) 0) : s.Pairwise (· < ·) := by
 rw [List.pairwise_iff_getElem]
 intro i j hi hj hij
 induction j with
 | zero => omega
 | succ j ih =>
  have h1 := h j (by omega)
  rw [getD_get (by omega), getD_get (by omega)] at h1
  rcases Nat.lt_or_ge i j with hlt | hge
  ·exact Int.lt_trans (ih (by omega) hlt) h1
  ·have : i = j := by omega
   subst this; exact h1
theorem adj_of_pairwise {s : List Int} (h : s.Pairwise (· < ·)) {i : Nat} (hi : i + 1 < s.length) : s.getD i 0 < s.getD (i + 1) 0 := by
 rw [getD_get (by omega), getD_get (by omega)]
 exact List.pairwise_iff_getElem.1 h i (i + 1) (by omega) (by omega) (by omega)
theorem sum_set (f : Int → Nat) : ∀ (R : List Int) (i : Nat) (h : i < R.length) (v : Int), ((R.set i v).map f).sum + f R[i] = (R.map f).sum + f v
 | [], i, h, v => by simp at h
 | x :: R, 0, h, v => by simp; omega
 | x :: R, i + 1, h, v => by
  have := sum_set f R i (by simpa using h) v
  simp only [List.set_cons_succ, List.map_cons, List.sum_cons, List.getElem_cons_succ]
  omega
theorem sum_ge (f : Int → Nat) {R : List Int} {i : Nat} (h : i < R.length) : f R[i] ≤ (R.map f).sum := by
 induction R generalizing i with
 | nil => simp at h
 | cons x R ih =>
  cases i with
  | zero => simp
  | succ i =>
   have := ih (i := i) (by simpa using h)
   simp only [List.map_cons, List.sum_cons, List.getElem_cons_succ]
   omega
theorem sum_le_len (f : Int → Nat) (hf : ∀ x, f x ≤ 1) (R : List Int) : (R.map f).sum ≤ R.length := by
 induction R with
 | nil => simp
 | cons x R ih => have := hf x; simp only [List.map_cons, List.sum_cons, List.length_cons]; omega
theorem InR.mono {lo hi lo' hi' : Int} {l : List Int} (h : InR lo hi l) (h1 : lo' ≤ lo) (h2 : hi ≤ hi') : InR lo' hi' l := fun x hx => ⟨by have := h x hx; omega, by have := h x hx; omega⟩
theorem InR.sub {lo hi : Int} {l l' : List Int} (h : InR lo hi l) (hs : ∀ x ∈ l', x ∈ l) : InR lo hi l' := fun x hx => h x (hs x hx)
end Go.Proofs.Ytbjbolblahlhcaa.M
end
section
namespace Go.Proofs.Ytbjbolblahlhcaa.PFnGlued
open Go.RowKit Go.Proofs.YtbjbolblahlhcaaW.PrintWords Go.Proofs.YtbjbolblahlhcaaW.PrintLast Go.Proofs.YtbjbolblahlhcaaW.PrintMore
open Go.Proofs.Ytbjbolblahlhcaa.SortW (bk_ kr_ t_ f_)
open Go.Proofs.Ytbjbolblahlhcaa.SqW
attribute [local go_sem] max2_int min2_int max_two min_two max_three min_three max_four min_four
set_option maxHeartbeats 8000000
set_option maxRecDepth 100000
set_option linter.unusedVariables false
set_option linter.unusedSimpArgs false
end Go.Proofs.Ytbjbolblahlhcaa.PFnGlued
end
section
namespace Go.Proofs.Ytbjbolblahlhcaa.FFnGlued
open Go Go.RowKit Go.Proofs.YtbjbolblahlhcaaW.PrintWords Go.Proofs.Ytbjbolblahlhcaa.M Go.Proofs.Ytbjbolblahlhcaa.PFnGlued
theorem l1In (a lo hi : Int) : spec_l1In.f a lo hi = some (decide (lo ≤ a ∧ a ≤ hi)) := by
 unfold spec_l1In.f
 by_cases h : a ≥ lo
 ·rw [if_pos h]; congr 1; simp only [decide_eq_decide]; omega
 ·rw [if_neg h]; congr 1; symm; rw [decide_eq_false_iff_not]; omega
theorem within (a lo hi : Int) : impl_within.f a lo hi = some (decide (lo ≤ a ∧ a ≤ hi)) := by
 unfold impl_within.f
 by_cases h : a ≥ lo
 ·rw [if_pos h]; congr 1; simp only [decide_eq_decide]; omega
 ·rw [if_neg h]; congr 1; symm; rw [decide_eq_false_iff_not]; omega
theorem within_yes {a lo hi : Int} (h : lo ≤ a ∧ a ≤ hi) : impl_within.f a lo hi = some true := by rw [within, decide_eq_true h]
theorem within_no {a lo hi : Int} (h : ¬ (lo ≤ a ∧ a ≤ hi)) : impl_within.f a lo hi = some false := by rw [within, decide_eq_false h]
theorem InR_drop {lo hi : Int} {l : List Int} {j : Nat} (h : j < l.length) : InR lo hi (l.drop j) ↔ (lo ≤ l[j] ∧ l[j] ≤ hi) ∧ InR lo hi (l.drop (j + 1)) := by
 unfold InR
 rw [drop_cons h]
 simp only [List.mem_cons, forall_eq_or_imp]
theorem InR_nil (lo hi : Int) : InR lo hi [] := fun _ h => by simp at h
theorem l3Gens_l0 (l : List Int) (hl : l.length ≤ 4611686018427387904) : ∀ (d j : Nat), l.length - j = d → j ≤ l.length → EvB (fun k => spec_l3Gens.l0 k l (j : Int)) (InR 1 60 (l.drop j) ∧ 1 ≤ l.length ∧ l.length ≤ 20) := by
 intro d
 induction d with
 | zero =>
  intro j hd hj
  refine EvB.step (fun _ => spec_l3Gens.l0.eq_2 ..) ?_
  refine EvB.neg (by omega) ?_
  refine EvB.call (l1In _ _ _) ?_
  refine EvB.dec ?_
  have : j = l.length := by omega
  subst this
  simp [InR_nil]; omega
 | succ d ih =>
  intro j hd hj
  have hlt : j < l.length := by omega
  refine EvB.step (fun _ => spec_l3Gens.l0.eq_2 ..) ?_
  refine EvB.pos (by omega) ?_
  refine EvB.pos (by omega) ?_
  refine EvB.call (l1In _ _ _) ?_
  rw [rd_get hlt]
  by_cases h : 1 ≤ l[j] ∧ l[j] ≤ 60
  ·refine EvB.pos (by simpa using h) ?_
   rw [w64s (by omega)]
   refine (ih (j + 1) (by omega) (by omega)).iff ?_
   rw [InR_drop hlt]; simp [h]
  ·refine EvB.neg (by simpa using h) ?_
   refine EvB.of_false (Ev.now _) ?_
   rw [InR_drop hlt]
   exact fun h' => h h'.1.1
def Use (l : List Int) : Prop := InR 1 60 l ∧ 1 ≤ l.length ∧ l.length ≤ 20
theorem l3Gens (l : List Int) (hl : l.length ≤ 4611686018427387904) : EvB (fun k => spec_l3Gens.f k l) (Use l) := by
 have := l3Gens_l0 l hl l.length 0 (by omega) (by omega)
 exact this
theorem allWithin_l0 (lo hi : Int) (l : List Int) (hl : l.length ≤ 4611686018427387904) : ∀ (d j : Nat), l.length - j = d → j ≤ l.length → EvB (fun k => impl_allWithin.l0 k lo hi l (l.length : Int) (j : Int)) (InR lo hi (l.drop j)) := by
 intro d
 induction d with
 | zero =>
  intro j hd hj
  refine EvB.step (fun _ => impl_allWithin.l0.eq_2 ..) ?_
  refine EvB.neg (by omega) ?_
  refine EvB.of_true (Ev.now _) ?_
  have : j = l.length := by omega
  subst this
  simp [InR_nil]
 | succ d ih =>
  intro j hd hj
  have hlt : j < l.length := by omega
  refine EvB.step (fun _ => impl_allWithin.l0.eq_2 ..) ?_
  refine EvB.pos (by omega) ?_
  refine EvB.pos (by omega) ?_
  refine EvB.pos (by omega) ?_
  refine EvB.call (within _ _ _) ?_
  rw [rd_get hlt]
  by_cases h : lo ≤ l[j] ∧ l[j] ≤ hi
  ·refine EvB.pos (by simpa using h) ?_
   rw [w64s (by omega)]
   refine (ih (j + 1) (by omega) (by omega)).iff ?_
   rw [InR_drop hlt]; simp [h]
  ·refine EvB.neg (by simpa using h) ?_
   refine EvB.of_false (Ev.now _) ?_
   rw [InR_drop hlt]
   exact fun h' => h h'.1
theorem allWithin (lo hi : Int) (l : List Int) (hl : l.length ≤ 4611686018427387904) : EvB (fun k => impl_allWithin.f k l lo hi) (InR lo hi l) :=
 allWithin_l0 lo hi l hl l.length 0 (by omega) (by omega)
theorem usable (l : List Int) (hl : l.length ≤ 4611686018427387904) : EvB (fun k => impl_usable.f k l) (Use l) := by
 show EvB (fun k => (impl_within.f (l.length : Int) 1 20).bind fun t => (if t = true then ((impl_allWithin.f k l 1 60).bind fun t' => some t') else (some false))) _
 refine EvB.call (within _ _ _) ?_
 by_cases h : (1 : Int) ≤ l.length ∧ (l.length : Int) ≤ 20
 ·refine EvB.pos (by simpa using h) ?_
  obtain ⟨b, hb, hP⟩ := allWithin 1 60 l hl
  refine EvB.bind hb ⟨b, Ev.now _, hP.trans ?_⟩
  unfold Use
  constructor
  ·intro k; exact ⟨k, by omega, by omega⟩
  ·intro k; exact k.1
 ·refine EvB.neg (by simpa using h) ?_
  refine EvB.of_false (Ev.now _) ?_
  unfold Use; omega
theorem l1Max (a b : Int) : spec_l1Max.f a b = some (max a b) := by
 unfold spec_l1Max.f
 split
 ·congr 1; omega
 ·congr 1; omega
theorem l2Small (a : Int) : spec_l2Small.f a = some (decide (-1000000 ≤ a ∧ a ≤ 1000000)) := by
 unfold spec_l2Small.f
 rw [l1In]; rfl
theorem tmod_nat (a b : Nat) : Int.tmod (a : Int) (b : Int) = ((a % b : Nat) : Int) := by rw [tmod_pos (by omega)]; rfl
theorem sGcd_l0 : ∀ (b a : Nat), Ev (fun k => spec_GcdOf.l0 k (a : Int) (b : Int)) ((Nat.gcd a b : Nat) : Int) := by
 intro b
 induction b using Nat.strongRecOn with
 | _ b ih =>
  intro a
  refine Ev.step (fun _ => spec_GcdOf.l0.eq_2 ..) ?_
  by_cases h : b = 0
  ·subst h
   refine Ev.neg (by omega) ?_
   rw [Nat.gcd_zero_right]; exact Ev.now _
  ·refine Ev.pos (by omega) ?_
   refine Ev.neg (by omega) ?_
   rw [tmod_nat, Nat.gcd_comm a b, Nat.gcd_rec b a, Nat.gcd_comm]
   exact ih (a % b) (Nat.mod_lt _ (by omega)) b
theorem sGcd (a b : Nat) (ha : a ≤ 1000000) (hb : b ≤ 1000000) : Ev (fun k => spec_GcdOf.f k (a : Int) (b : Int)) ((Nat.gcd a b : Nat) : Int) := by
 show Ev (fun k => (spec_l2Small.f a).bind fun t => (if t = true then ((spec_l2Small.f b).bind fun t' => (spec_GcdOf.j0 k a b (!t'))) else (spec_GcdOf.j0 k a b true))) _
 refine Ev.call (l2Small _) ?_
 refine Ev.pos (by simp; omega) ?_
 refine Ev.call (l2Small _) ?_
 rw [decide_eq_true (show -1000000 ≤ (b : Int) ∧ (b : Int) ≤ 1000000 by omega)]
 refine Ev.step (fun _ => spec_GcdOf.j0.eq_2 ..) ?_
 refine Ev.neg (by simp) ?_
 refine Ev.call (l1Max _ _) ?_
 refine Ev.call (l1Max _ _) ?_
 rw [w64 (by omega) (by omega), w64 (by omega) (by omega), show max (a : Int) (-a) = (a : Int) by omega, show max (b : Int) (-b) = (b : Int) by omega]
 exact sGcd_l0 b a
theorem iGcd_l0 : ∀ (a b : Nat), Ev (fun k => impl_GcdOf.l0 k (a : Int) (b : Int)) ((Nat.gcd a b : Nat) : Int) := by
 intro a
 induction a using Nat.strongRecOn with
 | _ a ih =>
  intro b
  refine Ev.step (fun _ => impl_GcdOf.l0.eq_2 ..) ?_
  by_cases h : a = 0
  ·subst h
   refine Ev.pos (by omega) ?_
   rw [Nat.gcd_zero_left]; exact Ev.now _
  ·refine Ev.neg (by omega) ?_
   rw [tmod_nat, Nat.gcd_rec a b]
   exact ih (b % a) (Nat.mod_lt _ (by omega)) a
theorem iGcd (a b : Nat) (ha : a ≤ 1000000) (hb : b ≤ 1000000) : Ev (fun k => impl_GcdOf.f k (a : Int) (b : Int)) ((Nat.gcd a b : Nat) : Int) := by
 show Ev (fun k => (impl_allWithin.f k (([(a : Int), (b : Int)] : List Int)) (-1000000) 1000000).bind fun t => (if t = true then (impl_GcdOf.l0 k (mx a (wrap64 (-(a : Int)))) (mx b (wrap64 (-(b : Int))))) else (some 0))) _
 refine Ev.bind ((allWithin (-1000000) 1000000 [(a : Int), (b : Int)] (by simp)).yes ?_) ?_
 ·intro x hx
  simp at hx
  omega
 ·refine Ev.pos rfl ?_
  rw [w64 (by omega) (by omega), w64 (by omega) (by omega), show mx (a : Int) (-(a : Int)) = (a : Int) by unfold mx; omega, show mx (b : Int) (-(b : Int)) = (b : Int) by unfold mx; omega]
  exact iGcd_l0 a b
theorem gcdL_take {l : List Int} {j : Nat} (h : j < l.length) : gcdL (l.take (j + 1)) = Nat.gcd (gcdL (l.take j)) (l[j]).natAbs := by rw [take_snoc' h, gcdL_snoc]
theorem sGcdList_l0 (l : List Int) (hl : l.length ≤ 4611686018427387904) (hr : InR 1 1000000 l) : ∀ (d j : Nat), l.length - j = d → j ≤ l.length → gcdL (l.take j) ≤ 1000000 → Ev (fun k => spec_GcdOfList.l0 k l ((gcdL (l.take j) : Nat) : Int) (j : Int)) ((gcdL l : Nat) : Int) := by
 intro d
 induction d with
 | zero =>
  intro j hd hj hg
  refine Ev.step (fun _ => spec_GcdOfList.l0.eq_2 ..) ?_
  refine Ev.neg (by omega) ?_
  rw [List.take_of_length_le (by omega)]
  exact Ev.now _
 | succ d ih =>
  intro j hd hj hg
  have hlt : j < l.length := by omega
  have hx := hr _ (List.getElem_mem hlt)
  refine Ev.step (fun _ => spec_GcdOfList.l0.eq_2 ..) ?_
  refine Ev.pos (by omega) ?_
  refine Ev.pos (by omega) ?_
  rw [rd_get hlt]
  have e : l[j] = ((l[j].natAbs : Nat) : Int) := by omega
  refine Ev.bind (a := ((gcdL (l.take (j + 1)) : Nat) : Int)) ?_ ?_
  ·rw [gcdL_take hlt]
   have := sGcd (gcdL (l.take j)) l[j].natAbs hg (by omega)
   rwa [← e] at this
  ·rw [w64s (by omega)]
   refine ih (j + 1) (by omega) (by omega) ?_
   rw [gcdL_take hlt]
   have := Nat.gcd_le_right (gcdL (l.take j)) (show 0 < l[j].natAbs by omega)
   omega
theorem sGcdList (l : List Int) (hl : l.length ≤ 4611686018427387904) (hr : InR 1 1000000 l) : Ev (fun k => spec_GcdOfList.f k l) ((gcdL l : Nat) : Int) :=
 sGcdList_l0 l hl hr l.length 0 (by omega) (by omega) (by simp [gcdL])
theorem iGcdList_l0 (l : List Int) (hl : l.length ≤ 4611686018427387904) (hr : InR 1 1000000 l) : ∀ (d j : Nat), l.length - j = d → j ≤ l.length → gcdL (l.take j) ≤ 1000000 → Ev (fun k => impl_GcdOfList.l0 k ((gcdL (l.take j) : Nat) : Int) l (l.length : Int) (j : Int)) ((gcdL l : Nat) : Int) := by
 intro d
 induction d with
 | zero =>
  intro j hd hj hg
  refine Ev.step (fun _ => impl_GcdOfList.l0.eq_2 ..) ?_
  refine Ev.neg (by omega) ?_
  rw [List.take_of_length_le (by omega)]
  exact Ev.now _
 | succ d ih =>
  intro j hd hj hg
  have hlt : j < l.length := by omega
  have hx := hr _ (List.getElem_mem hlt)
  refine Ev.step (fun _ => impl_GcdOfList.l0.eq_2 ..) ?_
  refine Ev.pos (by omega) ?_
  refine Ev.pos (by omega) ?_
  refine Ev.pos (by omega) ?_
  rw [rd_get hlt]
  have e : l[j] = ((l[j].natAbs : Nat) : Int) := by omega
  refine Ev.bind (a := ((gcdL (l.take (j + 1)) : Nat) : Int)) ?_ ?_
  ·rw [gcdL_take hlt]
   have := iGcd (gcdL (l.take j)) l[j].natAbs hg (by omega)
   rwa [← e] at this
  ·rw [w64s (by omega)]
   refine ih (j + 1) (by omega) (by omega) ?_
   rw [gcdL_take hlt]
   have := Nat.gcd_le_right (gcdL (l.take j)) (show 0 < l[j].natAbs by omega)
   omega
theorem iGcdList (l : List Int) (hl : l.length ≤ 4611686018427387904) (hr : InR 1 1000000 l) : Ev (fun k => impl_GcdOfList.f k l) ((gcdL l : Nat) : Int) :=
 iGcdList_l0 l hl hr l.length 0 (by omega) (by omega) (by simp [gcdL])
theorem sAsc_l0 (l : List Int) (hl : l.length ≤ 4611686018427387904) : ∀ (d j : Nat), l.length - j = d → 1 ≤ j → EvB (fun k => spec_IsAscending.l0 k l (j : Int)) (∀ i : Nat, j ≤ i + 1 → i + 1 < l.length → l.getD i 0 < l.getD (i + 1) 0) := by
 intro d
 induction d with
 | zero =>
  intro j hd hj
  refine EvB.step (fun _ => spec_IsAscending.l0.eq_2 ..) ?_
  refine EvB.neg (by omega) ?_
  exact EvB.of_true (Ev.now _) fun i h1 h2 => by omega
 | succ d ih =>
  intro j hd hj
  have hlt : j < l.length := by omega
  refine EvB.step (fun _ => spec_IsAscending.l0.eq_2 ..) ?_
  rw [w64p hj (by omega)]
  refine EvB.pos (by omega) ?_
  refine EvB.pos (by omega) ?_
  refine EvB.pos (by omega) ?_
  refine EvB.pos (by omega) ?_
  rw [rd_nat, rd_nat]
  by_cases h : l.getD (j - 1) 0 ≥ l.getD j 0
  ·refine EvB.pos h ?_
   refine EvB.of_false (Ev.now _) fun h' => ?_
   have := h' (j - 1) (by omega) (by omega)
   rw [show j - 1 + 1 = j by omega] at this
   omega
  ·refine EvB.neg h ?_
   rw [w64s (by omega)]
   refine (ih (j + 1) (by omega) (by omega)).iff ⟨fun h' i h1 h2 => ?_, fun h' i h1 h2 => h' i (by omega) h2⟩
   rcases Nat.lt_or_ge j (i + 1) with h3 | h3
   ·exact h' i (by omega) h2
   ·have : i = j - 1 := by omega
    subst this
    rw [show j - 1 + 1 = j by omega]
    omega
theorem iAsc_l0 (l : List Int) (hl : l.length ≤ 4611686018427387904) : ∀ (d j : Nat), l.length - j = d → 1 ≤ j → EvB (fun k => impl_IsAscending.l0 k l (j : Int)) (∀ i : Nat, j ≤ i + 1 → i + 1 < l.length → l.getD i 0 < l.getD (i + 1) 0) := by
 intro d
 induction d with
 | zero =>
  intro j hd hj
  refine EvB.step (fun _ => impl_IsAscending.l0.eq_2 ..) ?_
  refine EvB.neg (by omega) ?_
  exact EvB.of_true (Ev.now _) fun i h1 h2 => by omega
 | succ d ih =>
  intro j hd hj
  have hlt : j < l.length := by omega
  refine EvB.step (fun _ => impl_IsAscending.l0.eq_2 ..) ?_
  rw [w64p hj (by omega)]
  refine EvB.pos (by omega) ?_
  refine EvB.pos (by omega) ?_
  refine EvB.pos (by omega) ?_
  refine EvB.pos (by omega) ?_
  rw [rd_nat, rd_nat]
  by_cases h : l.getD j 0 ≤ l.getD (j - 1) 0
  ·refine EvB.pos h ?_
   refine EvB.of_false (Ev.now _) fun h' => ?_
   have := h' (j - 1) (by omega) (by omega)
   rw [show j - 1 + 1 = j by omega] at this
   omega
  ·refine EvB.neg h ?_
   rw [w64s (by omega)]
   refine (ih (j + 1) (by omega) (by omega)).iff ⟨fun h' i h1 h2 => ?_, fun h' i h1 h2 => h' i (by omega) h2⟩
   rcases Nat.lt_or_ge j (i + 1) with h3 | h3
   ·exact h' i (by omega) h2
   ·have : i = j - 1 := by omega
    subst this
    rw [show j - 1 + 1 = j by omega]
    omega
theorem asc_iff (l : List Int) : (∀ i : Nat, 1 ≤ i + 1 → i + 1 < l.length → l.getD i 0 < l.getD (i + 1) 0) ↔ l.Pairwise (· < ·) :=
 ⟨fun h => pairwise_of_adj fun i hi => h i (by omega) hi, fun h i _ hi => adj_of_pairwise h hi⟩
theorem sAsc (l : List Int) (hl : l.length ≤ 4611686018427387904) : EvB (fun k => spec_IsAscending.f k l) (l.Pairwise (· < ·)) :=
 (sAsc_l0 l hl (l.length - 1) 1 rfl (by omega)).iff (asc_iff l)
theorem iAsc (l : List Int) (hl : l.length ≤ 4611686018427387904) : EvB (fun k => impl_IsAscending.f k l) (l.Pairwise (· < ·)) :=
 (iAsc_l0 l hl (l.length - 1) 1 rfl (by omega)).iff (asc_iff l)
theorem l2Same_l0 (a b : List Int) (hl : a.length ≤ 4611686018427387904) (hab : a.length = b.length) : ∀ (d j : Nat), a.length - j = d → j ≤ a.length → EvB (fun k => spec_l2Same.l0 k a b (j : Int)) (a.drop j = b.drop j) := by
 intro d
 induction d with
 | zero =>
  intro j hd hj
  refine EvB.step (fun _ => spec_l2Same.l0.eq_2 ..) ?_
  refine EvB.neg (by omega) ?_
  refine EvB.of_true (Ev.now _) ?_
  rw [List.drop_of_length_le (by omega), List.drop_of_length_le (by omega)]
 | succ d ih =>
  intro j hd hj
  have hlt : j < a.length := by omega
  have hlt' : j < b.length := by omega
  refine EvB.step (fun _ => spec_l2Same.l0.eq_2 ..) ?_
  refine EvB.pos (by omega) ?_
  refine EvB.pos (by omega) ?_
  refine EvB.pos (by omega) ?_
  rw [rd_get hlt, rd_get hlt', drop_cons hlt, drop_cons hlt']
  by_cases h : a[j] = b[j]
  ·refine EvB.pos h ?_
   rw [w64s (by omega)]
   refine (ih (j + 1) (by omega) (by omega)).iff ?_
   rw [List.cons.injEq]
   exact ⟨fun k => ⟨h, k⟩, fun k => k.2⟩
  ·refine EvB.neg h ?_
   refine EvB.of_false (Ev.now _) ?_
   rw [List.cons.injEq]
   exact fun k => h k.1
theorem l2Same (a b : List Int) (hl : a.length ≤ 4611686018427387904) : EvB (fun k => spec_l2Same.f k a b) (a = b) := by
 show EvB (fun k => if (a.length : Int) = (b.length : Int) then (spec_l2Same.l0 k a b 0) else (some false)) _
 by_cases h : (a.length : Int) = (b.length : Int)
 ·refine EvB.pos h ?_
  exact l2Same_l0 a b hl (by omega) a.length 0 (by omega) (by omega)
 ·refine EvB.neg h ?_
  exact EvB.of_false (Ev.now _) (by rintro rfl; exact h rfl)
end Go.Proofs.Ytbjbolblahlhcaa.FFnGlued
end
