/- Part 6 of the claim for FnGlued, of the chain from the printed contracts and the plain laws to the row. It has no condition of its own. -/
import Derived.Test.YtbjbolblahlhcaaG1ZFnGlued
import Derived.Test.YtbjbolblahlhcaaG4ZFnGlued
import Derived.Test.YtbjbolblahlhcaaG5ZFnGlued
section
namespace Go.Proofs.Ytbjbolblahlhcaa.PFnGlued
open Go.RowKit Go.Proofs.YtbjbolblahlhcaaW.PrintWords Go.Proofs.YtbjbolblahlhcaaW.PrintLast Go.Proofs.YtbjbolblahlhcaaW.PrintMore
open Go.Proofs.Ytbjbolblahlhcaa.SortW (bk_ kr_ t_ f_)
open Go.Proofs.Ytbjbolblahlhcaa.SqW
attribute [local go_sem] max2_int min2_int max_two min_two max_three min_three max_four min_four
set_option maxHeartbeats 8000000
set_option maxRecDepth 100000
set_option linter.unusedVariables false
set_option linter.unusedSimpArgs false
def impl_FromGens.l0 : Nat → List Int → Int → Int → List Int → Option (List Int × Bool)
 | 0, _, _, _, _ => none
 | k + 1, x13, x14, x15, x313000 => if x15 < x14 then (if 0 ≤ x15 then (if x15 < (x13.length : Int) then (if (x313000.length : Int) = 0 then (if x313000.length < 17592186044416 then (impl_FromGens.l0 k x13 x14 (wrap64 (x15 + 1)) (x313000 ++ [rd x13 x15])) else (none)) else ((impl_Generates.f k x313000 (rd x13 x15)).bind fun t320 => (if t320 = true then (impl_FromGens.l0 k x13 x14 (wrap64 (x15 + 1)) x313000) else (if x313000.length < 17592186044416 then (impl_FromGens.l0 k x13 x14 (wrap64 (x15 + 1)) (x313000 ++ [rd x13 x15])) else (none))))) else (none)) else (none)) else ((impl_IsSemigroup.f k x313000).bind fun t324 => (if t324 = true then (some (x313000, true)) else (some (([] : List Int), false))))
def impl_FromGens.f (k : Nat) (l0 : List Int) : Option (List Int × Bool) := (impl_usable.f k l0).bind fun t311 => (if t311 = true then ((impl_SortList.f l0).bind fun t313 => (impl_FromGens.l0 k t313 (t313.length : Int) 0 ([] : List Int))) else (some (([] : List Int), false)))
theorem impl_FromGens.calls (k : Nat) (A0 : Option Addr) (c0 : Nat) (l0 : List Int) (r1 : List Int) (r2 : Bool) (w : World) (hr0 : Kd.C (Kd.int .i64) w A0 l0.length l0) (hc0 : l0.length ≤ c0) (h : impl_FromGens.f k l0 = some (r1, r2)) :
 Calls Try.prog 108 #[.slice A0 l0.length c0] w fun e w' => ∃ v0_ : Value, e = .returned (.tuple #[.agg #[v0_], .bool r2]) ∧ Kd.R (Kd.int .i64) 3 w' w.heap.size (fun _ => True) v0_ r1 ∧ Below w.heap.size w w' := by
 have hu41 := Try.underlying41
 have HR0 := Aside0.mk hr0
 have HC0 := Aside0.mk hc0
 clear hr0 hc0
 have HB := Aside0.mk (Below.refl w.heap.size w)
 have H := h
 clear h
 unfold impl_FromGens.f at H
 obtain ⟨t311, A2, H⟩ := ob_ H
 (try dsimp only at H)
 by_cases c3 : t311 = true
 ·subst c3
  rw [if_pos rfl] at H
  obtain ⟨t313, A4, H⟩ := ob_ H
  (try dsimp only at H)
  have H' := Aside0.mk H
  clear H
  go_enter Try.func108, Try.ntmps108
  go_wp2_with (first | ((with_reducible refine gate_dst (N := 2) rfl ?_); refine be_ 2 #[.slice none 0 0] 41 fun gb310 hg w5 hbox hb => ?_; have BK310 := Aside0.mk (hbox); have GW310 := ge_ hg HB; have GE310 := ge_ hg HB; replace HB := bs_ HB hb; clear hb hbox hg) | ((with_reducible refine gate_callee (f := 121) rfl ?_); refine gl_ 8 Try.func121 #[.slice A0 l0.length c0] ?_; (with_reducible refine (impl_usable.calls k _ _ l0 true _ ?side1 ?side2 A2.out).mono ?_); (case side1 => exact cs_ HR0 HB); (case side2 => exact HC0.out); rintro e w' ⟨rfl, ⟨nd, rfl⟩⟩; refine ⟨_, rfl, ?_⟩; (try (rw [drewN_self w5]; generalize hq_ : World.drewN w5 _ = w5; have n0_ : Aside0 (w5.heap[gb310]? = some (.cells #[.slice none 0 0] 41 (0, 0))) := ⟨by rw [← hq_]; exact (bk_ BK310.out)⟩; have n1_ : Aside0 (Below w.heap.size w w5) := ⟨by rw [← hq_]; exact (bl_ HB.out)⟩; clear BK310 HB hq_; have BK310 := n0_; have HB := n1_; clear n0_ n1_))) | ((with_reducible refine gate_dst (N := 4) rfl ?_); refine be_ 4 #[.slice none 0 0] 41 fun gb312 hg w6 hbox hb => ?_; have BK312 := Aside0.mk (hbox); have GW312 := ge_ hg HB; have GE312 := ge_ hg HB; replace HB := bs_ HB hb; have NB310_312 := nl_ hg BK310; have NB312_310 := ng_ hg BK310; replace BK310 := bb_ BK310 hb; clear hb hbox hg; have hnb7 := NB312_310.out; have hnc7 := NB310_312.out; have hcz8_0 := bc_ BK312; have hfz8_0 := blk_frozen BK312.out 0) | ((with_reducible refine gate_callee (f := 141) rfl ?_); refine gl_ 13 Try.func141 #[.slice A0 l0.length c0] ?_; (with_reducible refine (impl_SortList.calls _ _ l0 t313 _ ?side1 ?side2 A4.out).mono ?_); (case side1 => exact Kd.C_below HR0.out (bl_ HB.out)); (case side2 => exact HC0.out); rintro e w9 ⟨v314, rfl, ho0, hb⟩; refine ⟨_, rfl, ?_⟩; have HO315 := rl_ ho0 HB; replace BK310 := Aside0.mk (blk_below (g := gb310) (o := .cells #[.slice none 0 0] 41 (0, 0)) (bf_ BK310.out) hb); replace BK312 := Aside0.mk (blk_below (g := gb312) (o := .cells #[.slice none 0 0] 41 (0, 0)) (by (with_reducible repeat (first | refine blk_drewN ?_ _ | refine blk_drew ?_ | refine blk_alloc ?_ _)); refine blk_put (cs := #[.slice none 0 0]) ?_ 0 _ rfl; (with_reducible repeat (first | refine blk_drewN ?_ _ | refine blk_drew ?_ | refine blk_alloc ?_ _)); exact BK312.out) hb); replace HB := bs_ HB hb; (try clear hb); (try clear hb2); (try clear hk); (try clear hi); (try clear ho0); obtain ⟨Ao10, co10, eo10⟩ := Kd.R_slice HO315.out; subst eo10))
  go_loopg [15] k (fun kq v15 w' => ∃ (x15_1 : Int) (x313000_1 : List Int) (u313000 : Value), v15 = .int .i64 x15_1 ∧ Aside0 (impl_FromGens.l0 kq t313 (t313.length : Int) x15_1 x313000_1 = some (r1, r2)) ∧ Aside0 (kq ≤ k) ∧ Aside0 (Kd.R (Kd.int .i64) 3 w' w.heap.size (fun k_ => some k_ ≠ (u313000 : Value).ownBlock) (.slice Ao10 t313.length co10) t313) ∧ Aside0 (Kd.R (Kd.int .i64) 3 w' w.heap.size (fun k_ => some k_ ≠ ((.slice Ao10 t313.length co10) : Value).ownBlock) u313000 x313000_1) ∧ Aside0 (w'.heap[gb310]? = some (.cells #[(.slice none 0 0)] 41 (0, 0))) ∧ Aside0 (w'.heap[gb312]? = some (.cells #[u313000] 41 (0, 0))) ∧ Aside0 (Below w.heap.size w w'))
  case atStart => exact ⟨(0), (([] : List Int)), (.slice none 0 0), sd_, H', ⟨Nat.le_refl _⟩, ⟨kr_ (Kd.R_mono HO315.out (fun _ hk => (by simp [Value.ownBlock])))⟩, ⟨by first | exact Kd.R_nil _ _ _ _ _ | exact Kd.N_nil _ _ _ _ _ | exact Kd.V_nil _ _ _ _ _ | exact Kd.Q_nil _ _ _ _ _ | exact Kd.S_nil _ _ _ _ _⟩, ⟨bk_ BK310.out⟩, ⟨bk_ BK312.out⟩, ⟨bl_ HB.out⟩⟩
  case round =>
   clear H'
   try clear c1
   try clear p2
   try clear c3
   try clear c7
   try clear c10
   try clear hcz8_0
   try clear hfz8_0
   obtain ⟨x15_1, x313000_1, u313000, rfl, HA, HK1, HO_13, HO_313000, BK310, BK312, HB⟩ := hrel
   cases gk with
   | zero => exact absurd HA.out (by simp [impl_FromGens.l0])
   | succ k1 =>
    have H := HA.out
    clear HA
    simp only [impl_FromGens.l0] at H
    by_cases c11 : x15_1 < (t313.length : Int)
    ·rw [if_pos c11] at H
     have c11b0 : decide (x15_1 < (t313.length : Int)) = true := decide_eq_true c11
     clear c11
     by_cases c12 : 0 ≤ x15_1
     ·rw [if_pos c12] at H
      have c12b0 : decide (0 ≤ x15_1) = true := decide_eq_true c12
      clear c12
      by_cases c13 : x15_1 < (t313.length : Int)
      ·rw [if_pos c13] at H
       have c13b0 : decide (x15_1 < (t313.length : Int)) = true := decide_eq_true c13
       clear c13
       by_cases c14 : (x313000_1.length : Int) = 0
       ·rw [if_pos c14] at H
        have c14b0 : ((x313000_1.length : Int) == 0) = true := beq_iff_eq.mpr c14
        have c14b1 : ((x313000_1.length : Int) != 0) = false := bne_eq_false_iff_eq.mpr c14
        clear c14
        by_cases c15 : x313000_1.length < 17592186044416
        ·rw [if_pos c15] at H
         have LMc15 := Aside0.mk c15
         clear c15
         obtain ⟨y317, hy317⟩ : ∃ y_ : List Int, y_ = (x313000_1 ++ [rd t313 x15_1]) := ⟨_, rfl⟩
         replace H : (impl_FromGens.l0 k1 t313 (t313.length : Int) (wrap64 (x15_1 + 1)) y317) = some (r1, r2) := hr_ hy317 H
         have Ny317 := Aside0.mk hy317
         clear hy317
         have H' := Aside0.mk H
         clear H
         have p316 : 0 ≤ (x15_1 : Int) := od_
         have q316 : x15_1 < (t313.length : Int) := od_
         obtain ⟨ad316, e316, hx316_0⟩ := Kd.at_int (Kd.R_reads' HO_13.out).2.2 x15_1 p316 q316
         cases e316
         replace p316 := eq_true p316
         replace q316 := eq_true q316
         have hnb16 := NB312_310.out
         have hnc16 := NB310_312.out
         have hcz17_0 := bc_ BK312
         have hfz17_0 := blk_frozen BK312.out 0
         obtain ⟨Ao18, co18, eo18⟩ := Kd.R_slice HO_313000.out
         subst eo18
         go_wp2_with (first | ((with_reducible refine gate_builtin (b := .append) (xs := #[.tmp 31, .tmp 33]) rfl ?_); at_builtin; refine Kd.R_append (Kd.int .i64) (w0 := w) w.heap.size rfl (.tmp 31) (.tmp 33) 22 3 (.int .i64 0) 8 rfl Try.underlying22 info3 rfl (by decide) (by omega) (.slice Ao18 x313000_1.length co18) x313000_1 (rd t313 x15_1) [.int .i64 (rd t313 x15_1)] (fun k_ => some k_ ≠ (.slice (some ad316) t313.length co10 : Value).ownBlock) (fun _ => False) rfl rfl ?aP (fun _ hk => hk.elim) ?aF ?aO ?aB ?aS ?aL ?_; (case aP => exact rfl); (case aB => exact (bl_ HB.out)); (case aF => exact (fun k_ hk => Kd.fresh' (Kd.R_lt (kr_ HO_13.out)) k_ hk)); (case aO => exact (kr_ HO_313000.out)); (case aS => exact (below_size (bl_ HB.out))); (case aL => have := LMc15.out; omega); intro v318 w19 ho hb hg hat; rw [← Ny317.out] at ho; have n0_ := Aside0.mk (Kd.R_after (ok := (fun _ => True)) (kr_ (Kd.R_mono HO_13.out (fun _ hk => ⟨trivial, by first | exact hk | exact SortW.own_len hk⟩))) hg hat); have n1_ := Aside0.mk (blk_grown (g := gb310) (o := .cells #[.slice none 0 0] 41 (0, 0)) (bk_ BK310.out) hg (Kd.R_ne HO_313000.out BK310.out (by decide))); have n2_ := Aside0.mk (blk_grown (g := gb312) (o := .cells #[.slice Ao18 x313000_1.length co18] 41 (0, 0)) (bk_ BK312.out) hg (Kd.R_ne HO_313000.out BK312.out (by decide))); have n3_ := Aside0.mk (hb); have n4_ := Aside0.mk (ho); clear HO_13; clear BK310; clear BK312; clear HB; clear HO_313000; have HO_13 := n0_; have BK310 := n1_; have BK312 := n2_; have HB := n3_; have HO319 := n4_; clear n0_ n1_ n2_ n3_ n4_; clear ho hb hg hat; obtain ⟨Ao20, co20, eo20⟩ := Kd.R_slice HO319.out; subst eo20; have hcz21_0 := bc_ BK312; have hfz21_0 := blk_frozen BK312.out 0))
         go_roundg k1
         case measure => have := HK1.out; omega
         case rel => exact ⟨(wrap64 (x15_1 + 1)), (y317), (.slice Ao20 y317.length co20), sd_, H', ⟨by have := HK1.out; omega⟩, ⟨kr_ (Kd.R_mono (Kd.R_far (p := ⟨gb312, 0, none⟩) (Kd.R_types HO_13.out BK312.out (by decide)) (fun _ hk => hk.2) (.slice Ao20 y317.length co20)) (fun _ hk => hk.1.2))⟩, ⟨kr_ (Kd.R_mono (Kd.R_far (p := ⟨gb312, 0, none⟩) (Kd.R_types HO319.out BK312.out (by decide)) (fun _ hk => hk.2) (.slice Ao20 y317.length co20)) (fun _ hk => hk.1))⟩, ⟨bf_ BK310.out⟩, ⟨by (with_reducible repeat (first | refine blk_drewN ?_ _ | refine blk_drew ?_ | refine blk_alloc ?_ _)); refine blk_put (cs := #[.slice Ao18 x313000_1.length co18]) ?_ 0 _ rfl; (with_reducible repeat (first | refine blk_drewN ?_ _ | refine blk_drew ?_ | refine blk_alloc ?_ _)); exact BK312.out⟩, ⟨bl_ HB.out⟩⟩
        ·rw [if_neg c15] at H
         exact absurd H (by simp)
       ·rw [if_neg c14] at H
        have c14b0 : ((x313000_1.length : Int) == 0) = false := beq_eq_false_iff_ne.mpr c14
        have c14b1 : ((x313000_1.length : Int) != 0) = true := bne_iff_ne.mpr c14
        have c14b2 : ¬ (x313000_1 = []) := fun h_ => c14 (by rw [h_]; rfl)
        obtain ⟨t320, A22, H⟩ := ob_ H
        (try dsimp only at H)
        by_cases c23 : t320 = true
        ·subst c23
         rw [if_pos rfl] at H
         have H' := Aside0.mk H
         clear H
         have p316 : 0 ≤ (x15_1 : Int) := od_
         have q316 : x15_1 < (t313.length : Int) := od_
         obtain ⟨ad316, e316, hx316_0⟩ := Kd.at_int (Kd.R_reads' HO_13.out).2.2 x15_1 p316 q316
         cases e316
         replace p316 := eq_true p316
         replace q316 := eq_true q316
         have hnb24 := NB312_310.out
         have hnc24 := NB310_312.out
         have hcz25_0 := bc_ BK312
         have hfz25_0 := blk_frozen BK312.out 0
         obtain ⟨Ao26, co26, eo26⟩ := Kd.R_slice HO_313000.out
         subst eo26
         go_wp2_with (first | (go_at_call 124; (with_reducible refine (impl_Generates.calls k1 _ _ x313000_1 (rd t313 x15_1) true _ ?side1 ?side2 A22.out).mono ?_); (case side1 => exact rs_ HO_313000); (case side2 => exact (Kd.R_reads' HO_313000.out).2.1); rintro e w27 ⟨rfl, hb⟩; replace HO_13 := rb_ HO_13 hb; replace HO_313000 := rb_ HO_313000 hb; replace BK310 := bb_ BK310 hb; replace BK312 := bb_ BK312 hb; replace HB := bs_ HB hb; (try clear hb); (try clear hb2); (try clear hk); (try clear hi)))
         go_roundg k1
         case measure => have := HK1.out; omega
         case rel => exact ⟨(wrap64 (x15_1 + 1)), (x313000_1), (.slice Ao26 x313000_1.length co26), sd_, H', ⟨by have := HK1.out; omega⟩, ⟨kr_ HO_13.out⟩, ⟨kr_ HO_313000.out⟩, ⟨bk_ BK310.out⟩, ⟨bk_ BK312.out⟩, ⟨bl_ HB.out⟩⟩
        ·obtain rfl := Bool.eq_false_iff.mpr c23
         rw [if_neg nf_] at H
         by_cases c28 : x313000_1.length < 17592186044416
         ·rw [if_pos c28] at H
          have LMc28 := Aside0.mk c28
          clear c28
          obtain ⟨y321, hy321⟩ : ∃ y_ : List Int, y_ = (x313000_1 ++ [rd t313 x15_1]) := ⟨_, rfl⟩
          replace H : (impl_FromGens.l0 k1 t313 (t313.length : Int) (wrap64 (x15_1 + 1)) y321) = some (r1, r2) := hr_ hy321 H
          have Ny321 := Aside0.mk hy321
          clear hy321
          have H' := Aside0.mk H
          clear H
          have p316 : 0 ≤ (x15_1 : Int) := od_
          have q316 : x15_1 < (t313.length : Int) := od_
          obtain ⟨ad316, e316, hx316_0⟩ := Kd.at_int (Kd.R_reads' HO_13.out).2.2 x15_1 p316 q316
          cases e316
          replace p316 := eq_true p316
          replace q316 := eq_true q316
          have hnb29 := NB312_310.out
          have hnc29 := NB310_312.out
          have hcz30_0 := bc_ BK312
          have hfz30_0 := blk_frozen BK312.out 0
          obtain ⟨Ao31, co31, eo31⟩ := Kd.R_slice HO_313000.out
          subst eo31
          go_wp2_with (first | (go_at_call 124; (with_reducible refine (impl_Generates.calls k1 _ _ x313000_1 (rd t313 x15_1) false _ ?side1 ?side2 A22.out).mono ?_); (case side1 => exact rs_ HO_313000); (case side2 => exact (Kd.R_reads' HO_313000.out).2.1); rintro e w32 ⟨rfl, hb⟩; replace HO_13 := rb_ HO_13 hb; replace HO_313000 := rb_ HO_313000 hb; replace BK310 := bb_ BK310 hb; replace BK312 := bb_ BK312 hb; replace HB := bs_ HB hb; (try clear hb); (try clear hb2); (try clear hk); (try clear hi); have hcz33_0 := bc_ BK312; have hfz33_0 := blk_frozen BK312.out 0) | ((with_reducible refine gate_builtin (b := .append) (xs := #[.tmp 31, .tmp 33]) rfl ?_); at_builtin; refine Kd.R_append (Kd.int .i64) (w0 := w) w.heap.size rfl (.tmp 31) (.tmp 33) 22 3 (.int .i64 0) 8 rfl Try.underlying22 info3 rfl (by decide) (by omega) (.slice Ao31 x313000_1.length co31) x313000_1 (rd t313 x15_1) [.int .i64 (rd t313 x15_1)] (fun k_ => some k_ ≠ (.slice (some ad316) t313.length co10 : Value).ownBlock) (fun _ => False) rfl rfl ?aP (fun _ hk => hk.elim) ?aF ?aO ?aB ?aS ?aL ?_; (case aP => exact rfl); (case aB => exact (bl_ HB.out)); (case aF => exact (fun k_ hk => Kd.fresh' (Kd.R_lt (kr_ HO_13.out)) k_ hk)); (case aO => exact (kr_ HO_313000.out)); (case aS => exact (below_size (bl_ HB.out))); (case aL => have := LMc28.out; omega); intro v322 w34 ho hb hg hat; rw [← Ny321.out] at ho; have n0_ := Aside0.mk (Kd.R_after (ok := (fun _ => True)) (kr_ (Kd.R_mono HO_13.out (fun _ hk => ⟨trivial, by first | exact hk | exact SortW.own_len hk⟩))) hg hat); have n1_ := Aside0.mk (blk_grown (g := gb310) (o := .cells #[.slice none 0 0] 41 (0, 0)) (bk_ BK310.out) hg (Kd.R_ne HO_313000.out BK310.out (by decide))); have n2_ := Aside0.mk (blk_grown (g := gb312) (o := .cells #[.slice Ao31 x313000_1.length co31] 41 (0, 0)) (bk_ BK312.out) hg (Kd.R_ne HO_313000.out BK312.out (by decide))); have n3_ := Aside0.mk (hb); have n4_ := Aside0.mk (ho); clear HO_13; clear BK310; clear BK312; clear HB; clear HO_313000; have HO_13 := n0_; have BK310 := n1_; have BK312 := n2_; have HB := n3_; have HO323 := n4_; clear n0_ n1_ n2_ n3_ n4_; clear ho hb hg hat; obtain ⟨Ao35, co35, eo35⟩ := Kd.R_slice HO323.out; subst eo35; have hcz36_0 := bc_ BK312; have hfz36_0 := blk_frozen BK312.out 0))
          go_roundg k1
          case measure => have := HK1.out; omega
          case rel => exact ⟨(wrap64 (x15_1 + 1)), (y321), (.slice Ao35 y321.length co35), sd_, H', ⟨by have := HK1.out; omega⟩, ⟨kr_ (Kd.R_mono (Kd.R_far (p := ⟨gb312, 0, none⟩) (Kd.R_types HO_13.out BK312.out (by decide)) (fun _ hk => hk.2) (.slice Ao35 y321.length co35)) (fun _ hk => hk.1.2))⟩, ⟨kr_ (Kd.R_mono (Kd.R_far (p := ⟨gb312, 0, none⟩) (Kd.R_types HO323.out BK312.out (by decide)) (fun _ hk => hk.2) (.slice Ao35 y321.length co35)) (fun _ hk => hk.1))⟩, ⟨bf_ BK310.out⟩, ⟨by (with_reducible repeat (first | refine blk_drewN ?_ _ | refine blk_drew ?_ | refine blk_alloc ?_ _)); refine blk_put (cs := #[.slice Ao31 x313000_1.length co31]) ?_ 0 _ rfl; (with_reducible repeat (first | refine blk_drewN ?_ _ | refine blk_drew ?_ | refine blk_alloc ?_ _)); exact BK312.out⟩, ⟨bl_ HB.out⟩⟩
         ·rw [if_neg c28] at H
          exact absurd H (by simp)
      ·rw [if_neg c13] at H
       exact absurd H (by simp)
     ·rw [if_neg c12] at H
      exact absurd H (by simp)
    ·rw [if_neg c11] at H
     have c11b0 : decide (x15_1 < (t313.length : Int)) = false := decide_eq_false c11
     clear c11
     obtain ⟨t324, A37, H⟩ := ob_ H
     (try dsimp only at H)
     by_cases c38 : t324 = true
     ·subst c38
      rw [if_pos rfl] at H
      simp only [Option.some.injEq, Prod.mk.injEq] at H
      obtain ⟨rfl, rfl⟩ := H
      have hnb39 := NB312_310.out
      have hnc39 := NB310_312.out
      have hcz40_0 := bc_ BK312
      have hfz40_0 := blk_frozen BK312.out 0
      obtain ⟨Ao41, co41, eo41⟩ := Kd.R_slice HO_313000.out
      subst eo41
      go_wp2_with (first | ((with_reducible refine gate_callee (f := 92) rfl ?_); refine gl_ 38 Try.func92 #[.agg #[.slice Ao41 x313000_1.length co41]] ?_; (with_reducible refine (impl_IsSemigroup.calls k1 _ _ x313000_1 true _ ?side1 ?side2 A37.out).mono ?_); (case side1 => exact rs_ HO_313000); (case side2 => exact (Kd.R_reads' HO_313000.out).2.1); rintro e w42 ⟨rfl, hb⟩; refine ⟨_, rfl, ?_⟩; replace HO_13 := rb_ HO_13 hb; replace HO_313000 := rb_ HO_313000 hb; replace BK310 := bb_ BK310 hb; replace BK312 := bb_ BK312 hb; replace HB := bs_ HB hb; (try clear hb); (try clear hb2); (try clear hk); (try clear hi); have hcz43_0 := bc_ BK312; have hfz43_0 := blk_frozen BK312.out 0; have hcz44_0 := bc_ BK310; have hfz44_0 := blk_frozen BK310.out 0))
      refine bodyPost_ret (results_ct rfl _ _ gb310 41 #[.slice Ao41 x313000_1.length co41] (0, 0) _ rfl (by (with_reducible repeat (first | refine blk_drewN ?_ _ | refine blk_drew ?_ | refine blk_alloc ?_ _)); refine blk_put (cs := #[.slice none 0 0]) ?_ 0 _ rfl; (with_reducible repeat (first | refine blk_drewN ?_ _ | refine blk_drew ?_ | refine blk_alloc ?_ _)); exact BK310.out) Try.underlying41 rfl (by kernel_rfl)) rfl ?_
      exact ⟨_, er_, kr_ (Kd.R_mono (Kd.R_far (p := ⟨gb310, 0, none⟩) (Kd.R_types HO_313000.out BK310.out (by decide)) (fun _ hk => hk.2) (.slice Ao41 x313000_1.length co41)) (fun _ hk => trivial)), bl_ HB.out⟩
     ·obtain rfl := Bool.eq_false_iff.mpr c38
      rw [if_neg nf_] at H
      simp only [Option.some.injEq, Prod.mk.injEq] at H
      obtain ⟨rfl, rfl⟩ := H
      have hnb45 := NB312_310.out
      have hnc45 := NB310_312.out
      have hcz46_0 := bc_ BK312
      have hfz46_0 := blk_frozen BK312.out 0
      obtain ⟨Ao47, co47, eo47⟩ := Kd.R_slice HO_313000.out
      subst eo47
      go_wp2_with (first | ((with_reducible refine gate_callee (f := 92) rfl ?_); refine gl_ 38 Try.func92 #[.agg #[.slice Ao47 x313000_1.length co47]] ?_; (with_reducible refine (impl_IsSemigroup.calls k1 _ _ x313000_1 false _ ?side1 ?side2 A37.out).mono ?_); (case side1 => exact rs_ HO_313000); (case side2 => exact (Kd.R_reads' HO_313000.out).2.1); rintro e w48 ⟨rfl, hb⟩; refine ⟨_, rfl, ?_⟩; replace HO_13 := rb_ HO_13 hb; replace HO_313000 := rb_ HO_313000 hb; replace BK310 := bb_ BK310 hb; replace BK312 := bb_ BK312 hb; replace HB := bs_ HB hb; (try clear hb); (try clear hb2); (try clear hk); (try clear hi); have hcz49_0 := bc_ BK310; have hfz49_0 := blk_frozen BK310.out 0))
      refine bodyPost_ret (results_ct rfl _ _ gb310 41 #[.slice none 0 0] (0, 0) _ rfl (by (with_reducible repeat (first | refine blk_drewN ?_ _ | refine blk_drew ?_ | refine blk_alloc ?_ _)); refine blk_put (cs := #[.slice none 0 0]) ?_ 0 _ rfl; (with_reducible repeat (first | refine blk_drewN ?_ _ | refine blk_drew ?_ | refine blk_alloc ?_ _)); exact BK310.out) Try.underlying41 rfl (by kernel_rfl)) rfl ?_
      exact ⟨_, er_, by first | exact Kd.R_nil _ _ _ _ _ | exact Kd.N_nil _ _ _ _ _ | exact Kd.V_nil _ _ _ _ _ | exact Kd.Q_nil _ _ _ _ _ | exact Kd.S_nil _ _ _ _ _, bl_ HB.out⟩
 ·obtain rfl := Bool.eq_false_iff.mpr c3
  rw [if_neg nf_] at H
  simp only [Option.some.injEq, Prod.mk.injEq] at H
  obtain ⟨rfl, rfl⟩ := H
  go_enter Try.func108, Try.ntmps108
  go_wp2_with (first | ((with_reducible refine gate_dst (N := 2) rfl ?_); refine be_ 2 #[.slice none 0 0] 41 fun gb310 hg w50 hbox hb => ?_; have BK310 := Aside0.mk (hbox); have GW310 := ge_ hg HB; have GE310 := ge_ hg HB; replace HB := bs_ HB hb; clear hb hbox hg) | ((with_reducible refine gate_callee (f := 121) rfl ?_); refine gl_ 8 Try.func121 #[.slice A0 l0.length c0] ?_; (with_reducible refine (impl_usable.calls k _ _ l0 false _ ?side1 ?side2 A2.out).mono ?_); (case side1 => exact cs_ HR0 HB); (case side2 => exact HC0.out); rintro e w' ⟨rfl, ⟨nd, rfl⟩⟩; refine ⟨_, rfl, ?_⟩; (try (rw [drewN_self w50]; generalize hq_ : World.drewN w50 _ = w50; have n0_ : Aside0 (w50.heap[gb310]? = some (.cells #[.slice none 0 0] 41 (0, 0))) := ⟨by rw [← hq_]; exact (bk_ BK310.out)⟩; have n1_ : Aside0 (Below w.heap.size w w50) := ⟨by rw [← hq_]; exact (bl_ HB.out)⟩; clear BK310 HB hq_; have BK310 := n0_; have HB := n1_; clear n0_ n1_)); have hcz51_0 := bc_ BK310; have hfz51_0 := blk_frozen BK310.out 0))
  refine bodyPost_ret (results_ct rfl _ _ gb310 41 #[.slice none 0 0] (0, 0) _ rfl (by (with_reducible repeat (first | refine blk_drewN ?_ _ | refine blk_drew ?_ | refine blk_alloc ?_ _)); refine blk_put (cs := #[.slice none 0 0]) ?_ 0 _ rfl; (with_reducible repeat (first | refine blk_drewN ?_ _ | refine blk_drew ?_ | refine blk_alloc ?_ _)); exact BK310.out) Try.underlying41 rfl (by kernel_rfl)) rfl ?_
  exact ⟨_, er_, by first | exact Kd.R_nil _ _ _ _ _ | exact Kd.N_nil _ _ _ _ _ | exact Kd.V_nil _ _ _ _ _ | exact Kd.Q_nil _ _ _ _ _ | exact Kd.S_nil _ _ _ _ _, bl_ HB.out⟩
def impl_Contains.f (k : Nat) (l0_0 : List Int) (a1 : Int) : Option (Bool) := if a1 < 0 then (some false) else ((impl_IsSemigroup.f k l0_0).bind fun t326 => (if t326 = true then (if a1 ≥ 200 then (some true) else (if 0 < (l0_0.length : Int) then ((impl_leasts.f k l0_0 (rd l0_0 0)).bind fun t328 => (if (rd l0_0 0) = 0 then (none) else (if 0 ≤ (Int.tmod a1 (rd l0_0 0)) then (if (Int.tmod a1 (rd l0_0 0)) < (t328.length : Int) then (some (decide ((rd t328 (Int.tmod a1 (rd l0_0 0))) ≤ a1))) else (none)) else (none)))) else (none))) else (some false)))
def impl_Contains.T3 : Bool × List (List Nat × List Nat) := (true, [([], []), ([0], [0]), ([1], [1]), ([2], [2]), ([3, 2], [2, 3]), ([2], [2]), ([5, 2], [2, 5]), ([6, 2], [2, 6]), ([7, 2], [2, 7]), ([4, 8, 2, 2], [2, 4, 8]), ([2], [2]), ([2], [2]), ([11, 2], [2, 11]), ([12, 2], [2, 12]), ([13, 2], [2, 13]), ([10, 14, 2], [2, 10, 14]), ([9, 15, 2], [2, 9, 15]), ([16, 2], [2, 16]), ([2], [2]), ([17, 18, 2], [2, 17, 18]), ([2, 19], [2, 19]), ([20, 9, 0, 1, 2, 3, 4, 5, 6, 7, 8, 9, 10, 11, 12, 13, 14, 15, 16, 17, 18, 19, 20], [20])])
def impl_Contains.B3 : List Nat := [0, 1, 3, 7, 15, 7, 39, 103, 231, 511, 7, 7, 2055, 6151, 14343, 31751, 65535, 131071, 7, 524287, 1048575, 2097151]
theorem impl_Contains.tab3 : rtab .any (opsOf Try.f112 3) = impl_Contains.T3 := by kernel_rfl
theorem impl_Contains.bits3 : waitsOk impl_Contains.T3.2 impl_Contains.B3 = true := by kernel_rfl
theorem impl_Contains.calls (k : Nat) (A0_0 : Option Addr) (c0_0 : Nat) (l0_0 : List Int) (a1 : Int) (r : Bool) (w : World) (hr0_0 : Kd.C (Kd.int .i64) w A0_0 l0_0.length l0_0) (hc0_0 : l0_0.length ≤ c0_0) (h : impl_Contains.f k l0_0 a1 = some r) :
 Calls Try.prog 112 #[.agg #[.slice A0_0 l0_0.length c0_0], .int .i64 a1] w fun e w' => e = .returned (.bool r) ∧ Below w.heap.size w w' := by
 have hu41 := Try.underlying41
 have HR0_0 := Aside0.mk hr0_0
 have HC0_0 := Aside0.mk hc0_0
 clear hr0_0 hc0_0
 have HB := Aside0.mk (Below.refl w.heap.size w)
 have H := h
 clear h
 unfold impl_Contains.f at H
 by_cases c3 : a1 < 0
 ·rw [if_pos c3] at H
  have c3b0 : decide (a1 < 0) = true := decide_eq_true c3
  clear c3
  obtain rfl := Option.some.inj H
  go_enter Try.func112, Try.ntmps112
  go_wp2_with (first | ((with_reducible refine gate_dst (N := 2) rfl ?_); refine be_ 2 #[.slice A0_0 l0_0.length c0_0] 41 fun gb325 hg w4 hbox hb => ?_; have BK325 := Aside0.mk (hbox); have GW325 := ge_ hg HB; have GE325 := ge_ hg HB; replace HB := bs_ HB hb; clear hb hbox hg))
  go_ret
  exact ⟨er_, bl_ HB.out⟩
 ·rw [if_neg c3] at H
  have c3b0 : decide (a1 < 0) = false := decide_eq_false c3
  clear c3
  obtain ⟨t326, A5, H⟩ := ob_ H
  (try dsimp only at H)
  by_cases c6 : t326 = true
  ·subst c6
   rw [if_pos rfl] at H
   by_cases c7 : a1 ≥ 200
   ·rw [if_pos c7] at H
    have c7b0 : decide (200 ≤ a1) = true := decide_eq_true c7
    clear c7
    obtain rfl := Option.some.inj H
    go_enter Try.func112, Try.ntmps112
    try go_wp2_with (first | ((with_reducible refine gate_dst (N := 2) rfl ?_); refine be_ 2 #[.slice A0_0 l0_0.length c0_0] 41 fun gb325 hg w8 hbox hb => ?_; have BK325 := Aside0.mk (hbox); have GW325 := ge_ hg HB; have GE325 := ge_ hg HB; replace HB := bs_ HB hb; clear hb hbox hg; have hcz9_0 := bc_ BK325; have hfz9_0 := blk_frozen BK325.out 0) | (go_at_call 92; (with_reducible refine (impl_IsSemigroup.calls k _ _ l0_0 true _ ?side1 ?side2 A5.out).mono ?_); (case side1 => exact cs_ HR0_0 HB); (case side2 => exact HC0_0.out); rintro e w10 ⟨rfl, hb⟩; replace BK325 := bb_ BK325 hb; replace HB := bs_ HB hb; (try clear hb); (try clear hb2); (try clear hk); (try clear hi)))
    replace BK325 := Aside0.mk (blk_drew BK325.out)
    replace HB := Aside0.mk (below_drew1 HB.out)
    refine start_ (n := 22) (S := fun w' => True) (ds := []) (fl_ 22 0) (by kernel_rfl) rfl rfl trivial (fun hHeld => ?_); refine with_tabW impl_Contains.tab3 impl_Contains.bits3 (fun HT_ HW_ => ?_)
    generalize w10.drew = w11 at BK325 HB hHeld ⊢
    refine pu_ 0 12 (fl_ 22 1) ?_
    refine pu_ 1 13 (fl_ 22 2) ?_
    refine pu_ 2 14 (fl_ 22 3) ?_
    refine un_ 3 15 (fl_ 22 4) ?_
    refine un_ 4 16 (fl_ 22 5) ?_
    refine un_ 5 17 (fl_ 22 6) ?_
    refine un_ 6 18 (fl_ 22 7) ?_
    refine un_ 7 19 (fl_ 22 8) ?_
    refine un_ 8 20 (fl_ 22 9) ?_
    refine un_ 9 21 (fl_ 22 10) ?_
    refine un_ 10 22 (fl_ 22 11) ?_
    refine un_ 11 23 (fl_ 22 12) ?_
    refine un_ 12 24 (fl_ 22 13) ?_
    refine un_ 13 25 (fl_ 22 14) ?_
    refine un_ 14 26 (fl_ 22 15) ?_
    refine un_ 15 27 (fl_ 22 16) ?_
    refine un_ 16 28 (fl_ 22 17) ?_
    refine un_ 17 29 (fl_ 22 18) ?_
    refine un_ 18 30 (fl_ 22 19) ?_
    refine un_ 19 31 (fl_ 22 20) ?_
    refine pu_ 20 32 (fl_ 22 21) ?_
    refine pu_ 21 4 (fl_ 22 22) ?_
    refine done_ (done_of HT_.out (by kernel_rfl)) ?_
    try go_wp2
    go_ret
    exact ⟨er_, bl_ HB.out⟩
   ·rw [if_neg c7] at H
    have c7b0 : decide (200 ≤ a1) = false := decide_eq_false c7
    clear c7
    by_cases c12 : 0 < (l0_0.length : Int)
    ·rw [if_pos c12] at H
     have c12b0 : decide (0 < (l0_0.length : Int)) = true := decide_eq_true c12
     have c12b1 : decide (0 < l0_0.length) = true := decide_eq_true (by omega)
     clear c12
     obtain ⟨t328, A13, H⟩ := ob_ H
     (try dsimp only at H)
     by_cases c14 : (rd l0_0 0) = 0
     ·rw [if_pos c14] at H
      exact absurd H (by simp)
     ·rw [if_neg c14] at H
      have c14b0 : ((rd l0_0 0) == 0) = false := beq_eq_false_iff_ne.mpr c14
      have c14b1 : ((rd l0_0 0) != 0) = true := bne_iff_ne.mpr c14
      obtain ⟨ji15, hji15⟩ : ∃ j_ : Int, (Int.tmod a1 (rd l0_0 0)) = j_ := ⟨_, rfl⟩
      replace H : (if 0 ≤ (ji15) then (if (ji15) < (t328.length : Int) then (some (decide ((rd t328 (ji15)) ≤ a1))) else (none)) else (none)) = some r := by first | (rw [hji15] at H; exact H) | (simp only [hji15] at H ⊢; exact H)
      (try rw [hji15] at A5)
      (try rw [hji15] at A13)
      by_cases c16 : 0 ≤ (ji15)
      ·rw [if_pos c16] at H
       have c16b0 : decide (0 ≤ (ji15)) = true := decide_eq_true c16
       clear c16
       by_cases c17 : (ji15) < (t328.length : Int)
       ·rw [if_pos c17] at H
        have c17b0 : decide ((ji15) < (t328.length : Int)) = true := decide_eq_true c17
        clear c17
        obtain rfl := Option.some.inj H
        go_enter Try.func112, Try.ntmps112
        try go_wp2_with (first | ((with_reducible refine gate_dst (N := 2) rfl ?_); refine be_ 2 #[.slice A0_0 l0_0.length c0_0] 41 fun gb325 hg w18 hbox hb => ?_; have BK325 := Aside0.mk (hbox); have GW325 := ge_ hg HB; have GE325 := ge_ hg HB; replace HB := bs_ HB hb; clear hb hbox hg; have hcz19_0 := bc_ BK325; have hfz19_0 := blk_frozen BK325.out 0) | (go_at_call 92; (with_reducible refine (impl_IsSemigroup.calls k _ _ l0_0 true _ ?side1 ?side2 A5.out).mono ?_); (case side1 => exact cs_ HR0_0 HB); (case side2 => exact HC0_0.out); rintro e w20 ⟨rfl, hb⟩; replace BK325 := bb_ BK325 hb; replace HB := bs_ HB hb; (try clear hb); (try clear hb2); (try clear hk); (try clear hi)))
        replace BK325 := Aside0.mk (blk_drew BK325.out)
        replace HB := Aside0.mk (below_drew1 HB.out)
        have p327 : 0 ≤ (0 : Int) := (by omega)
        have q327 : 0 < (l0_0.length : Int) := od_
        obtain ⟨ad327, e327, hx327_0⟩ := Kd.at_int HR0_0.out 0 p327 q327
        have hw327_0 := hx327_0
        (try rw [show ((0 : Int)).toNat = 0 from rfl] at hw327_0)
        (try rw [show 0 * 1 = 0 from rfl] at hw327_0)
        (try rw [Addr.add_zero'] at hw327_0)
        cases e327
        have qi327 : (0 < l0_0.length) = True := eq_true (by omega)
        (try rw [show ((0 : Int)).toNat = 0 from rfl] at hx327_0)
        (try rw [Addr.add_zero'] at hx327_0)
        replace hx327_0 := (HB.out.cell (World.block_lt_of_cell? w _ hx327_0)).trans hx327_0
        replace p327 := eq_true p327
        replace q327 := eq_true q327
        have p331 : 0 ≤ (0 : Int) := (by omega)
        have q331 : 0 < (l0_0.length : Int) := od_
        obtain ⟨ad331, e331, hx331_0⟩ := Kd.at_int HR0_0.out 0 p331 q331
        have hw331_0 := hx331_0
        (try rw [show ((0 : Int)).toNat = 0 from rfl] at hw331_0)
        (try rw [show 0 * 1 = 0 from rfl] at hw331_0)
        (try rw [Addr.add_zero'] at hw331_0)
        obtain rfl : ad327 = ad331 := (by injection e331)
        have qi331 : (0 < l0_0.length) = True := eq_true (by omega)
        (try rw [show ((0 : Int)).toNat = 0 from rfl] at hx331_0)
        (try rw [Addr.add_zero'] at hx331_0)
        replace hx331_0 := (HB.out.cell (World.block_lt_of_cell? w _ hx331_0)).trans hx331_0
        replace p331 := eq_true p331
        replace q331 := eq_true q331
        refine start_ (n := 22) (S := fun w' => w'.cell? ⟨gb325, 0, none⟩ = some (.slice (some ad327) l0_0.length c0_0) ∧ w'.cell? ad327 = some (.int .i64 (rd l0_0 0)) ∧ w'.cell? ad327 = some (.int .i64 (rd l0_0 0))) (ds := []) (fl_ 22 0) (by kernel_rfl) rfl rfl ⟨(blk_cell BK325.out 0).trans rfl, ((HB.out.cell (World.block_lt_of_cell? w _ hw327_0)).trans hw327_0), ((HB.out.cell (World.block_lt_of_cell? w _ hw331_0)).trans hw331_0)⟩ (fun hHeld => ?_); refine with_tabW impl_Contains.tab3 impl_Contains.bits3 (fun HT_ HW_ => ?_)
        generalize w20.drew = w21 at BK325 HB hx327_0 hx331_0 hHeld ⊢
        refine pu_ 0 12 (fl_ 22 1) ?_
        refine pu_ 1 13 (fl_ 22 2) ?_
        refine pu_ 2 14 (fl_ 22 3) ?_
        refine pu_ 3 15 (fl_ 22 4) ?_
        refine pu_ 5 17 (fm_ 22 47) ?_
        refine pu_ 10 22 (fm_ 22 1071) ?_
        refine pu_ 11 23 (fm_ 22 3119) ?_
        refine pu_ 18 30 (fm_ 22 265263) ?_
        refine ta_ 4 16 (fm_ 22 265279) ?_
        refine ta_ 6 18 (fm_ 22 265343) ?_
        refine pu_ 7 19 (fm_ 22 265471) ?_
        refine ta_ 8 20 (fm_ 22 265727) ?_
        refine ta_ 12 24 (fm_ 22 269823) ?_
        refine pu_ 13 25 (fm_ 22 278015) ?_
        refine ta_ 14 26 (fm_ 22 294399) ?_
        refine pu_ 15 27 (fm_ 22 327167) ?_
        refine on_ 9 21 (fm_ 22 327679) fun K hK => ?_
        refine go_ Try.func133 #[.slice (some ad327) l0_0.length c0_0, .int .i64 (rd l0_0 0)] ?_
        with_reducible refine (impl_leasts.calls k _ _ l0_0 (rd l0_0 0) t328 _ ?side1 ?side2 A13.out).mono ?_
        (case side1 => exact cs_ HR0_0 HB)
        (case side2 => exact HC0_0.out)
        rintro e w22 ⟨v329, rfl, ho0, hb⟩
        refine ⟨_, rfl, ?_⟩
        have HO330 := rl_ ho0 HB
        replace BK325 := bb_ BK325 hb
        replace HB := bs_ HB hb
        (try clear hb)
        (try clear hb2)
        (try clear hk)
        (try clear hi)
        (try clear ho0)
        obtain ⟨Ao23, co23, eo23⟩ := Kd.R_slice HO330.out
        (first | subst eo23 | (injection eo23 with f1_ f2_ f3_; have f4_ := f1_.symm; have f5_ := f3_.symm; clear f1_ f2_ f3_; subst f4_; subst f5_))
        have p332 : 0 ≤ ((ji15) : Int) := od_
        have q332 : (ji15) < (t328.length : Int) := od_
        obtain ⟨ad332, e332, hx332_0⟩ := Kd.at_int (Kd.R_reads' HO330.out).2.2 (ji15) p332 q332
        cases e332
        replace p332 := eq_true p332
        replace q332 := eq_true q332
        refine hK.out _ _ ⟨(blk_cell BK325.out 0).trans rfl, ((HB.out.cell (World.block_lt_of_cell? w _ hw327_0)).trans hw327_0), ((HB.out.cell (World.block_lt_of_cell? w _ hw331_0)).trans hw331_0)⟩ (fun hHeld => ?_)
        clear hK K
        refine no_ 21 ?_
        refine pu_ 16 28 (fm_ 22 393215) ?_
        have HSall_ := hHeld
        refine on_ 17 29 (fl_ 22 19) fun K hK => ?_
        refine value_ (w1 := ?_) (v := ?_) (by rfl) rfl ?_ ?_
        rotate_left 2
        ·go_simp
         constructor
         ·rfl
         ·rfl
        refine hK.out _ _ HSall_ (fun hHeld => ?_)
        clear hK K HSall_
        refine no_ 29 ?_
        refine pu_ 19 31 (fl_ 22 20) ?_
        refine pu_ 20 32 (fl_ 22 21) ?_
        refine pu_ 21 4 (fl_ 22 22) ?_
        refine done_ (done_of HT_.out (by kernel_rfl)) ?_
        try go_wp2
        go_ret
        exact ⟨by first | rfl | (simp [errW_none, errW_some] <;> rfl) | (simp only [← hji15]; first | rfl | (simp [errW_none, errW_some] <;> rfl)) | (simp [*, errW_none, errW_some] <;> rfl), bl_ HB.out⟩
       ·rw [if_neg c17] at H
        exact absurd H (by simp)
      ·rw [if_neg c16] at H
       exact absurd H (by simp)
    ·rw [if_neg c12] at H
     exact absurd H (by simp)
  ·obtain rfl := Bool.eq_false_iff.mpr c6
   rw [if_neg nf_] at H
   obtain rfl := Option.some.inj H
   go_enter Try.func112, Try.ntmps112
   go_wp2_with (first | ((with_reducible refine gate_dst (N := 2) rfl ?_); refine be_ 2 #[.slice A0_0 l0_0.length c0_0] 41 fun gb325 hg w24 hbox hb => ?_; have BK325 := Aside0.mk (hbox); have GW325 := ge_ hg HB; have GE325 := ge_ hg HB; replace HB := bs_ HB hb; clear hb hbox hg; have hcz25_0 := bc_ BK325; have hfz25_0 := blk_frozen BK325.out 0) | (go_at_call 92; (with_reducible refine (impl_IsSemigroup.calls k _ _ l0_0 false _ ?side1 ?side2 A5.out).mono ?_); (case side1 => exact cs_ HR0_0 HB); (case side2 => exact HC0_0.out); rintro e w26 ⟨rfl, hb⟩; replace BK325 := bb_ BK325 hb; replace HB := bs_ HB hb; (try clear hb); (try clear hb2); (try clear hk); (try clear hi)))
   go_ret
   exact ⟨er_, bl_ HB.out⟩
def slices_Index_int_int.l0 : Nat → List Int → Int → Int → Int → Option (Int)
 | 0, _, _, _, _ => none
 | k + 1, x0, x1, x7, x8 => if x8 < x7 then (if 0 ≤ x8 then (if x8 < (x0.length : Int) then (if x1 = (rd x0 x8) then (some x8) else (slices_Index_int_int.l0 k x0 x1 x7 (wrap64 (x8 + 1)))) else (none)) else (none)) else (some (-1))
def slices_Index_int_int.f (k : Nat) (l0 : List Int) (a1 : Int) : Option (Int) := slices_Index_int_int.l0 k l0 a1 (l0.length : Int) 0
theorem slices_Index_int_int.calls (k : Nat) (A0 : Option Addr) (c0 : Nat) (l0 : List Int) (a1 : Int) (r : Int) (w : World) (hr0 : Kd.C (Kd.int .i64) w A0 l0.length l0) (hc0 : l0.length ≤ c0) (h : slices_Index_int_int.f k l0 a1 = some r) :
 Calls Try.prog 143 #[.slice A0 l0.length c0, .int .i64 a1] w fun e w' => e = .returned (.int .i64 r) ∧ Drawn0 w w' := by
 have HR0 := Aside0.mk hr0
 have HC0 := Aside0.mk hc0
 clear hr0 hc0
 have H := h
 clear h
 unfold slices_Index_int_int.f at H
 have H' := Aside0.mk H
 clear H
 go_enter Try.func143, Try.ntmps143
 go_wp2
 go_loopg [8] k (fun kq v8 w' => ∃ (x8_1 : Int), v8 = .int .i64 x8_1 ∧ Aside0 (slices_Index_int_int.l0 kq l0 a1 (l0.length : Int) x8_1 = some r) ∧ Aside0 (kq ≤ k) ∧ Drawn0 w w')
 case atStart => exact ⟨(0), sd_, H', ⟨Nat.le_refl _⟩, dr_⟩
 case round =>
  clear H'
  try clear c1
  try clear p2
  obtain ⟨x8_1, rfl, HA, HK1, ⟨m1, rfl⟩⟩ := hrel
  cases gk with
  | zero => exact absurd HA.out (by simp [slices_Index_int_int.l0])
  | succ k1 =>
   have H := HA.out
   clear HA
   simp only [slices_Index_int_int.l0] at H
   by_cases c3 : x8_1 < (l0.length : Int)
   ·rw [if_pos c3] at H
    have c3b0 : decide (x8_1 < (l0.length : Int)) = true := decide_eq_true c3
    clear c3
    by_cases c4 : 0 ≤ x8_1
    ·rw [if_pos c4] at H
     have c4b0 : decide (0 ≤ x8_1) = true := decide_eq_true c4
     clear c4
     by_cases c5 : x8_1 < (l0.length : Int)
     ·rw [if_pos c5] at H
      have c5b0 : decide (x8_1 < (l0.length : Int)) = true := decide_eq_true c5
      clear c5
      by_cases c6 : a1 = (rd l0 x8_1)
      ·rw [if_pos c6] at H
       have c6b0 : (a1 == (rd l0 x8_1)) = true := beq_iff_eq.mpr c6
       have c6b1 : (a1 != (rd l0 x8_1)) = false := bne_eq_false_iff_eq.mpr c6
       clear c6
       obtain rfl := Option.some.inj H
       have p333 : 0 ≤ (x8_1 : Int) := od_
       have q333 : x8_1 < (l0.length : Int) := od_
       obtain ⟨ad333, e333, hx333_0⟩ := Kd.at_int HR0.out x8_1 p333 q333
       cases e333
       replace p333 := eq_true p333
       replace q333 := eq_true q333
       go_wp2
       go_ret
       exact ⟨sd_, dr_⟩
      ·rw [if_neg c6] at H
       have c6b0 : (a1 == (rd l0 x8_1)) = false := beq_eq_false_iff_ne.mpr c6
       have c6b1 : (a1 != (rd l0 x8_1)) = true := bne_iff_ne.mpr c6
       have H' := Aside0.mk H
       clear H
       have p333 : 0 ≤ (x8_1 : Int) := od_
       have q333 : x8_1 < (l0.length : Int) := od_
       obtain ⟨ad333, e333, hx333_0⟩ := Kd.at_int HR0.out x8_1 p333 q333
       cases e333
       replace p333 := eq_true p333
       replace q333 := eq_true q333
       go_wp2
       go_roundg k1
       case measure => have := HK1.out; omega
       case rel => exact ⟨(wrap64 (x8_1 + 1)), sd_, H', ⟨by have := HK1.out; omega⟩, dr_⟩
     ·rw [if_neg c5] at H
      exact absurd H (by simp)
    ·rw [if_neg c4] at H
     exact absurd H (by simp)
   ·rw [if_neg c3] at H
    have c3b0 : decide (x8_1 < (l0.length : Int)) = false := decide_eq_false c3
    clear c3
    obtain rfl := Option.some.inj H
    go_wp2
    go_ret
    exact ⟨sd_, dr_⟩
def slices_Contains_int_int.f (k : Nat) (l0 : List Int) (a1 : Int) : Option (Bool) := (slices_Index_int_int.f k l0 a1).bind fun t334 => (some (decide (t334 ≥ 0)))
theorem slices_Contains_int_int.calls (k : Nat) (A0 : Option Addr) (c0 : Nat) (l0 : List Int) (a1 : Int) (r : Bool) (w : World) (hr0 : Kd.C (Kd.int .i64) w A0 l0.length l0) (hc0 : l0.length ≤ c0) (h : slices_Contains_int_int.f k l0 a1 = some r) :
 Calls Try.prog 113 #[.slice A0 l0.length c0, .int .i64 a1] w fun e w' => e = .returned (.bool r) ∧ Drawn0 w w' := by
 have HR0 := Aside0.mk hr0
 have HC0 := Aside0.mk hc0
 clear hr0 hc0
 have H := h
 clear h
 unfold slices_Contains_int_int.f at H
 obtain ⟨t334, A3, H⟩ := ob_ H
 (try dsimp only at H)
 obtain rfl := Option.some.inj H
 go_enter Try.func113, Try.ntmps113
 go_wp2_with (first | ((with_reducible refine gate_callee (f := 143) rfl ?_); refine gl_ 7 Try.func143 #[.slice A0 l0.length c0, .int .i64 a1] ?_; (with_reducible refine (slices_Index_int_int.calls k _ _ l0 a1 t334 _ ?side1 ?side2 A3.out).mono ?_); (case side1 => repeat (first | exact HR0.out | (with_reducible refine Kd.C_alloc ?_ _) | (with_reducible refine Kd.C_drewN ?_ _) | (with_reducible refine Kd.C_drew ?_))); (case side2 => exact HC0.out); rintro e w' ⟨rfl, ⟨nd, rfl⟩⟩; refine ⟨_, rfl, ?_⟩))
 go_ret
 exact ⟨sd_, dr_⟩
mutual
def impl_GlueOf.j0 : Nat → Int → Int → Bool → List Int → List Int → Option (List Int × Bool)
 | 0, _, _, _, _, _ => none
 | k + 1, x2, x3, x36, x336000, x337000 => if x36 = true then (some (([] : List Int), false)) else ((impl_within.f x2 1 60).bind fun t342 => (if t342 = true then ((impl_within.f x3 1 60).bind fun t343 => (if t343 = true then ((impl_GcdOf.f k x2 x3).bind fun t344 => (impl_GlueOf.j1 k x2 x3 (t344 != 1) x336000 x337000)) else (impl_GlueOf.j1 k x2 x3 true x336000 x337000))) else (impl_GlueOf.j1 k x2 x3 true x336000 x337000)))
def impl_GlueOf.j1 : Nat → Int → Int → Bool → List Int → List Int → Option (List Int × Bool)
 | 0, _, _, _, _, _ => none
 | k + 1, x2, x3, x51, x336000, x337000 => if x51 = true then (some (([] : List Int), false)) else (impl_GlueOf.l0 k x2 x3 (([] : List Int)) x336000 (x336000.length : Int) 0 x337000)
def impl_GlueOf.l0 : Nat → Int → Int → List Int → List Int → Int → Int → List Int → Option (List Int × Bool)
 | 0, _, _, _, _, _, _, _ => none
 | k + 1, x2, x3, x10, x55, x56, x57, x337000 => if x57 < x56 then (if 0 ≤ x57 then (if x57 < (x55.length : Int) then (if x10.length < 17592186044416 then (impl_GlueOf.l0 k x2 x3 (x10 ++ [wrap64 (x2 * (rd x55 x57))]) x55 x56 (wrap64 (x57 + 1)) x337000) else (none)) else (none)) else (none)) else (impl_GlueOf.l1 k x3 x10 x337000 (x337000.length : Int) 0)
def impl_GlueOf.l1 : Nat → Int → List Int → List Int → Int → Int → Option (List Int × Bool)
 | 0, _, _, _, _, _ => none
 | k + 1, x3, x10, x69, x70, x71 => if x71 < x70 then (if 0 ≤ x71 then (if x71 < (x69.length : Int) then (if x10.length < 17592186044416 then (impl_GlueOf.l1 k x3 (x10 ++ [wrap64 (x3 * (rd x69 x71))]) x69 x70 (wrap64 (x71 + 1))) else (none)) else (none)) else (none)) else ((impl_FromGens.f k x10).bind fun bt356 => (some (bt356.1, bt356.2)))
end
def impl_GlueOf.f (k : Nat) (l0_0 : List Int) (l1_0 : List Int) (a2 : Int) (a3 : Int) : Option (List Int × Bool) := (impl_Contains.f k l1_0 a2).bind fun t338 => (if t338 = true then ((slices_Contains_int_int.f k l1_0 a2).bind fun t339 => (if t339 = true then (impl_GlueOf.j0 k a2 a3 true l0_0 l1_0) else ((impl_Contains.f k l0_0 a3).bind fun t340 => (if t340 = true then ((slices_Contains_int_int.f k l0_0 a3).bind fun t341 => (impl_GlueOf.j0 k a2 a3 t341 l0_0 l1_0)) else (impl_GlueOf.j0 k a2 a3 true l0_0 l1_0))))) else (impl_GlueOf.j0 k a2 a3 true l0_0 l1_0))
theorem impl_GlueOf.calls (k : Nat) (A0_0 : Option Addr) (c0_0 : Nat) (l0_0 : List Int) (A1_0 : Option Addr) (c1_0 : Nat) (l1_0 : List Int) (a2 : Int) (a3 : Int) (r1 : List Int) (r2 : Bool) (w : World) (hr0_0 : Kd.C (Kd.int .i64) w A0_0 l0_0.length l0_0) (hc0_0 : l0_0.length ≤ c0_0) (hr1_0 : Kd.C (Kd.int .i64) w A1_0 l1_0.length l1_0) (hc1_0 : l1_0.length ≤ c1_0) (h : impl_GlueOf.f k l0_0 l1_0 a2 a3 = some (r1, r2)) :
 Calls Try.prog 56 #[.agg #[.slice A0_0 l0_0.length c0_0], .agg #[.slice A1_0 l1_0.length c1_0], .int .i64 a2, .int .i64 a3] w fun e w' => ∃ v0_ : Value, e = .returned (.tuple #[.agg #[v0_], .bool r2]) ∧ Kd.R (Kd.int .i64) 3 w' w.heap.size (fun _ => True) v0_ r1 ∧ Below w.heap.size w w' := by
 have hu41 := Try.underlying41
 have HR0_0 := Aside0.mk hr0_0
 have HC0_0 := Aside0.mk hc0_0
 clear hr0_0 hc0_0
 have HR1_0 := Aside0.mk hr1_0
 have HC1_0 := Aside0.mk hc1_0
 clear hr1_0 hc1_0
 have HB := Aside0.mk (Below.refl w.heap.size w)
 have H := h
 clear h
 unfold impl_GlueOf.f at H
 have HC5 := Aside0.mk H
 clear H
 go_enter Try.func56, Try.ntmps56
 go_upto_region 1 with (first | ((with_reducible refine gate_dst (N := 4) rfl ?_); refine be_ 4 #[.slice A0_0 l0_0.length c0_0] 41 fun gb335 hg w6 hbox hb => ?_; have BK335 := Aside0.mk (hbox); have GW335 := ge_ hg HB; have GE335 := ge_ hg HB; replace HB := bs_ HB hb; clear hb hbox hg) | ((with_reducible refine gate_dst (N := 5) rfl ?_); refine be_ 5 #[.slice A1_0 l1_0.length c1_0] 41 fun gb336 hg w7 hbox hb => ?_; have BK336 := Aside0.mk (hbox); have GW336 := ge_ hg HB; have GE336 := ge_ hg HB; replace HB := bs_ HB hb; have NB335_336 := nl_ hg BK335; have NB336_335 := ng_ hg BK335; replace BK335 := bb_ BK335 hb; clear hb hbox hg) | ((with_reducible refine gate_dst (N := 8) rfl ?_); refine be_ 8 #[.slice none 0 0] 41 fun gb337 hg w8 hbox hb => ?_; have BK337 := Aside0.mk (hbox); have GW337 := ge_ hg HB; have GE337 := ge_ hg HB; replace HB := bs_ HB hb; have NB335_337 := nl_ hg BK335; have NB337_335 := ng_ hg BK335; replace BK335 := bb_ BK335 hb; have NB336_337 := nl_ hg BK336; have NB337_336 := ng_ hg BK336; replace BK336 := bb_ BK336 hb; clear hb hbox hg))
 (try simp only [Act.put, List.setIfInBounds_toArray, List.set_cons_zero, List.set_cons_succ])
 go_cut [36] (fun v36 wc => ∃ (kq : Nat) (x36_4 : Bool), v36 = .bool x36_4 ∧ Aside0 (impl_GlueOf.j0 kq a2 a3 x36_4 l0_0 l1_0 = some (r1, r2)) ∧ Aside0 (kq ≤ k) ∧ Aside0 (wc.heap[gb335]? = some (.cells #[(.slice A0_0 l0_0.length c0_0)] 41 (0, 0))) ∧ Aside0 (wc.heap[gb336]? = some (.cells #[(.slice A1_0 l1_0.length c1_0)] 41 (0, 0))) ∧ Aside0 (wc.heap[gb337]? = some (.cells #[(.slice none 0 0)] 41 (0, 0))) ∧ Aside0 (Below w.heap.size w wc))
 case first =>
  have H := HC5.out
  clear HC5
  obtain ⟨t338, A9, H⟩ := ob_ H
  (try dsimp only at H)
  by_cases c10 : t338 = true
  ·subst c10
   rw [if_pos rfl] at H
   obtain ⟨t339, A11, H⟩ := ob_ H
   (try dsimp only at H)
   by_cases c12 : t339 = true
   ·subst c12
    rw [if_pos rfl] at H
    have H' := Aside0.mk H
    clear H
    have hnb13 := NB336_335.out
    have hnc13 := NB335_336.out
    have hnb14 := NB336_337.out
    have hnc14 := NB337_336.out
    have hcz15_0 := bc_ BK336
    have hfz15_0 := blk_frozen BK336.out 0
    go_wp2_with (first | ((with_reducible refine gate_callee (f := 112) rfl ?_); refine gl_ 17 Try.func112 #[.agg #[.slice A1_0 l1_0.length c1_0], .int .i64 a2] ?_; (with_reducible refine (impl_Contains.calls k _ _ l1_0 a2 true _ ?side1 ?side2 A9.out).mono ?_); (case side1 => exact cs_ HR1_0 HB); (case side2 => exact HC1_0.out); rintro e w16 ⟨rfl, hb⟩; refine ⟨_, rfl, ?_⟩; replace BK335 := bb_ BK335 hb; replace BK336 := bb_ BK336 hb; replace BK337 := bb_ BK337 hb; replace HB := bs_ HB hb; (try clear hb); (try clear hb2); (try clear hk); (try clear hi); have hcz17_0 := bc_ BK336; have hfz17_0 := blk_frozen BK336.out 0) | (go_at_call 113; (with_reducible refine (slices_Contains_int_int.calls k _ _ l1_0 a2 true _ ?side1 ?side2 A11.out).mono ?_); (case side1 => exact cs_ HR1_0 HB); (case side2 => exact HC1_0.out); rintro e w' ⟨rfl, ⟨nd, rfl⟩⟩))
    go_meet
    case rel => exact ⟨_, (true), sd_, H', ⟨le_⟩, ⟨bk_ BK335.out⟩, ⟨bk_ BK336.out⟩, ⟨bk_ BK337.out⟩, ⟨bl_ HB.out⟩⟩
   ·obtain rfl := Bool.eq_false_iff.mpr c12
    rw [if_neg nf_] at H
    obtain ⟨t340, A18, H⟩ := ob_ H
    (try dsimp only at H)
    by_cases c19 : t340 = true
    ·subst c19
     rw [if_pos rfl] at H
     obtain ⟨t341, A20, H⟩ := ob_ H
     (try dsimp only at H)
     have H' := Aside0.mk H
     clear H
     have hnb21 := NB336_335.out
     have hnc21 := NB335_336.out
     have hnb22 := NB336_337.out
     have hnc22 := NB337_336.out
     have hcz23_0 := bc_ BK336
     have hfz23_0 := blk_frozen BK336.out 0
     go_wp2_with (first | ((with_reducible refine gate_callee (f := 112) rfl ?_); refine gl_ 17 Try.func112 #[.agg #[.slice A1_0 l1_0.length c1_0], .int .i64 a2] ?_; (with_reducible refine (impl_Contains.calls k _ _ l1_0 a2 true _ ?side1 ?side2 A9.out).mono ?_); (case side1 => exact cs_ HR1_0 HB); (case side2 => exact HC1_0.out); rintro e w24 ⟨rfl, hb⟩; refine ⟨_, rfl, ?_⟩; replace BK335 := bb_ BK335 hb; replace BK336 := bb_ BK336 hb; replace BK337 := bb_ BK337 hb; replace HB := bs_ HB hb; (try clear hb); (try clear hb2); (try clear hk); (try clear hi); have hcz25_0 := bc_ BK336; have hfz25_0 := blk_frozen BK336.out 0) | (go_at_call 113; (with_reducible refine (slices_Contains_int_int.calls k _ _ l1_0 a2 false _ ?side1 ?side2 A11.out).mono ?_); (case side1 => exact cs_ HR1_0 HB); (case side2 => exact HC1_0.out); rintro e w' ⟨rfl, ⟨nd, rfl⟩⟩; have hnb26 := NB335_337.out; have hnc26 := NB337_335.out; have hcz27_0 := bc_ BK335; have hfz27_0 := blk_frozen BK335.out 0) | (go_at_call 112; (with_reducible refine (impl_Contains.calls k _ _ l0_0 a3 true _ ?side1 ?side2 A18.out).mono ?_); (case side1 => exact cs_ HR0_0 HB); (case side2 => exact HC0_0.out); rintro e w28 ⟨rfl, hb⟩; replace BK335 := bb_ BK335 hb; replace BK336 := bb_ BK336 hb; replace BK337 := bb_ BK337 hb; replace HB := bs_ HB hb; (try clear hb); (try clear hb2); (try clear hk); (try clear hi); have hcz29_0 := bc_ BK335; have hfz29_0 := blk_frozen BK335.out 0) | (go_at_call 113; (with_reducible refine (slices_Contains_int_int.calls k _ _ l0_0 a3 t341 _ ?side1 ?side2 A20.out).mono ?_); (case side1 => exact cs_ HR0_0 HB); (case side2 => exact HC0_0.out); rintro e w' ⟨rfl, ⟨nd, rfl⟩⟩))
     go_meet
     case rel => exact ⟨_, (t341), sd_, H', ⟨le_⟩, ⟨bk_ BK335.out⟩, ⟨bk_ BK336.out⟩, ⟨bk_ BK337.out⟩, ⟨bl_ HB.out⟩⟩
    ·obtain rfl := Bool.eq_false_iff.mpr c19
     rw [if_neg nf_] at H
     have H' := Aside0.mk H
     clear H
     have hnb30 := NB336_335.out
     have hnc30 := NB335_336.out
     have hnb31 := NB336_337.out
     have hnc31 := NB337_336.out
     have hcz32_0 := bc_ BK336
     have hfz32_0 := blk_frozen BK336.out 0
     go_wp2_with (first | ((with_reducible refine gate_callee (f := 112) rfl ?_); refine gl_ 17 Try.func112 #[.agg #[.slice A1_0 l1_0.length c1_0], .int .i64 a2] ?_; (with_reducible refine (impl_Contains.calls k _ _ l1_0 a2 true _ ?side1 ?side2 A9.out).mono ?_); (case side1 => exact cs_ HR1_0 HB); (case side2 => exact HC1_0.out); rintro e w33 ⟨rfl, hb⟩; refine ⟨_, rfl, ?_⟩; replace BK335 := bb_ BK335 hb; replace BK336 := bb_ BK336 hb; replace BK337 := bb_ BK337 hb; replace HB := bs_ HB hb; (try clear hb); (try clear hb2); (try clear hk); (try clear hi); have hcz34_0 := bc_ BK336; have hfz34_0 := blk_frozen BK336.out 0) | (go_at_call 113; (with_reducible refine (slices_Contains_int_int.calls k _ _ l1_0 a2 false _ ?side1 ?side2 A11.out).mono ?_); (case side1 => exact cs_ HR1_0 HB); (case side2 => exact HC1_0.out); rintro e w' ⟨rfl, ⟨nd, rfl⟩⟩; have hnb35 := NB335_337.out; have hnc35 := NB337_335.out; have hcz36_0 := bc_ BK335; have hfz36_0 := blk_frozen BK335.out 0) | (go_at_call 112; (with_reducible refine (impl_Contains.calls k _ _ l0_0 a3 false _ ?side1 ?side2 A18.out).mono ?_); (case side1 => exact cs_ HR0_0 HB); (case side2 => exact HC0_0.out); rintro e w37 ⟨rfl, hb⟩; replace BK335 := bb_ BK335 hb; replace BK336 := bb_ BK336 hb; replace BK337 := bb_ BK337 hb; replace HB := bs_ HB hb; (try clear hb); (try clear hb2); (try clear hk); (try clear hi)))
     go_meet
     case rel => exact ⟨_, (true), sd_, H', ⟨le_⟩, ⟨bk_ BK335.out⟩, ⟨bk_ BK336.out⟩, ⟨bk_ BK337.out⟩, ⟨bl_ HB.out⟩⟩
  ·obtain rfl := Bool.eq_false_iff.mpr c10
   rw [if_neg nf_] at H
   have H' := Aside0.mk H
   clear H
   have hnb38 := NB336_335.out
   have hnc38 := NB335_336.out
   have hnb39 := NB336_337.out
   have hnc39 := NB337_336.out
   have hcz40_0 := bc_ BK336
   have hfz40_0 := blk_frozen BK336.out 0
   go_wp2_with (first | ((with_reducible refine gate_callee (f := 112) rfl ?_); refine gl_ 17 Try.func112 #[.agg #[.slice A1_0 l1_0.length c1_0], .int .i64 a2] ?_; (with_reducible refine (impl_Contains.calls k _ _ l1_0 a2 false _ ?side1 ?side2 A9.out).mono ?_); (case side1 => exact cs_ HR1_0 HB); (case side2 => exact HC1_0.out); rintro e w41 ⟨rfl, hb⟩; refine ⟨_, rfl, ?_⟩; replace BK335 := bb_ BK335 hb; replace BK336 := bb_ BK336 hb; replace BK337 := bb_ BK337 hb; replace HB := bs_ HB hb; (try clear hb); (try clear hb2); (try clear hk); (try clear hi)))
   go_meet
   case rel => exact ⟨_, (true), sd_, H', ⟨le_⟩, ⟨bk_ BK335.out⟩, ⟨bk_ BK336.out⟩, ⟨bk_ BK337.out⟩, ⟨bl_ HB.out⟩⟩
 case rest =>
  clear HC5
  try clear c1
  try clear c2
  try clear p2
  try clear c3
  try clear c5
  try clear c10
  try clear c11
  try clear c12
  try clear c13
  try clear c14
  try clear c19
  try clear c21
  try clear c22
  try clear c26
  try clear c30
  try clear c31
  try clear c35
  try clear c38
  try clear c39
  try clear hcz15_0
  try clear hcz17_0
  try clear hcz23_0
  try clear hcz25_0
  try clear hcz27_0
  try clear hcz29_0
  try clear hcz32_0
  try clear hcz34_0
  try clear hcz36_0
  try clear hcz40_0
  try clear hfz15_0
  try clear hfz17_0
  try clear hfz23_0
  try clear hfz25_0
  try clear hfz27_0
  try clear hfz29_0
  try clear hfz32_0
  try clear hfz34_0
  try clear hfz36_0
  try clear hfz40_0
  obtain ⟨kq, x36_4, rfl, HA, HJ4, BK335, BK336, BK337, HB⟩ := hcut
  cases kq with
  | zero => exact absurd HA.out (by simp [impl_GlueOf.j0])
  | succ kj4 =>
   have H := HA.out
   clear HA
   simp only [impl_GlueOf.j0] at H
   by_cases c42 : x36_4 = true
   ·subst c42
    rw [if_pos rfl] at H
    simp only [Option.some.injEq, Prod.mk.injEq] at H
    obtain ⟨rfl, rfl⟩ := H
    have hnb43 := NB337_335.out
    have hnc43 := NB335_337.out
    have hnb44 := NB337_336.out
    have hnc44 := NB336_337.out
    have hcz45_0 := bc_ BK337
    have hfz45_0 := blk_frozen BK337.out 0
    go_wp2
    refine bodyPost_ret (results_ct rfl _ _ gb337 41 #[.slice none 0 0] (0, 0) _ rfl (by (with_reducible repeat (first | refine blk_drewN ?_ _ | refine blk_drew ?_ | refine blk_alloc ?_ _)); refine blk_put (cs := #[.slice none 0 0]) ?_ 0 _ rfl; (with_reducible repeat (first | refine blk_drewN ?_ _ | refine blk_drew ?_ | refine blk_alloc ?_ _)); exact BK337.out) Try.underlying41 rfl (by kernel_rfl)) rfl ?_
    exact ⟨_, er_, by first | exact Kd.R_nil _ _ _ _ _ | exact Kd.N_nil _ _ _ _ _ | exact Kd.V_nil _ _ _ _ _ | exact Kd.Q_nil _ _ _ _ _ | exact Kd.S_nil _ _ _ _ _, bl_ HB.out⟩
   ·obtain rfl := Bool.eq_false_iff.mpr c42
    rw [if_neg nf_] at H
    have HC46 := Aside0.mk H
    clear H
    go_upto_region 3 with (fail)
    go_cut [51] (fun v51 wc => ∃ (kq : Nat) (x51_45 : Bool), v51 = .bool x51_45 ∧ Aside0 (impl_GlueOf.j1 kq a2 a3 x51_45 l0_0 l1_0 = some (r1, r2)) ∧ Aside0 (kq ≤ kj4) ∧ Aside0 (wc.heap[gb335]? = some (.cells #[(.slice A0_0 l0_0.length c0_0)] 41 (0, 0))) ∧ Aside0 (wc.heap[gb336]? = some (.cells #[(.slice A1_0 l1_0.length c1_0)] 41 (0, 0))) ∧ Aside0 (wc.heap[gb337]? = some (.cells #[(.slice none 0 0)] 41 (0, 0))) ∧ Aside0 (Below w.heap.size w wc))
    case first =>
     have H := HC46.out
     clear HC46
     obtain ⟨t342, A47, H⟩ := ob_ H
     (try dsimp only at H)
     by_cases c48 : t342 = true
     ·subst c48
      rw [if_pos rfl] at H
      obtain ⟨t343, A49, H⟩ := ob_ H
      (try dsimp only at H)
      by_cases c50 : t343 = true
      ·subst c50
       rw [if_pos rfl] at H
       obtain ⟨t344, A51, H⟩ := ob_ H
       (try dsimp only at H)
       have H' := Aside0.mk H
       clear H
       go_wp2_with (first | ((with_reducible refine gate_callee (f := 77) rfl ?_); refine gl_ 39 Try.func77 #[.int .i64 a2, .int .i64 1, .int .i64 60] ?_; (with_reducible refine (impl_within.calls a2 1 60 true _ A47.out).mono ?_); rintro e w' ⟨rfl, ⟨nd, rfl⟩⟩; refine ⟨_, rfl, ?_⟩) | (go_at_call 77; (with_reducible refine (impl_within.calls a3 1 60 true _ A49.out).mono ?_); rintro e w' ⟨rfl, ⟨nd, rfl⟩⟩) | (go_at_call 114; (with_reducible refine (impl_GcdOf.calls kj4 a2 a3 t344 _ A51.out).mono ?_); rintro e w52 ⟨rfl, hb⟩; replace BK335 := bb_ BK335 hb; replace BK336 := bb_ BK336 hb; replace BK337 := bb_ BK337 hb; replace HB := bs_ HB hb; (try clear hb); (try clear hb2); (try clear hk); (try clear hi)))
       go_meet
       case rel => exact ⟨_, ((t344 != 1)), sd_, H', ⟨by have := HJ4.out; first | omega | exact Nat.le_refl _⟩, ⟨bk_ BK335.out⟩, ⟨bk_ BK336.out⟩, ⟨bk_ BK337.out⟩, ⟨bl_ HB.out⟩⟩
      ·obtain rfl := Bool.eq_false_iff.mpr c50
       rw [if_neg nf_] at H
       have H' := Aside0.mk H
       clear H
       go_wp2_with (first | ((with_reducible refine gate_callee (f := 77) rfl ?_); refine gl_ 39 Try.func77 #[.int .i64 a2, .int .i64 1, .int .i64 60] ?_; (with_reducible refine (impl_within.calls a2 1 60 true _ A47.out).mono ?_); rintro e w' ⟨rfl, ⟨nd, rfl⟩⟩; refine ⟨_, rfl, ?_⟩) | (go_at_call 77; (with_reducible refine (impl_within.calls a3 1 60 false _ A49.out).mono ?_); rintro e w' ⟨rfl, ⟨nd, rfl⟩⟩))
       go_meet
       case rel => exact ⟨_, (true), sd_, H', ⟨by have := HJ4.out; first | omega | exact Nat.le_refl _⟩, ⟨bk_ BK335.out⟩, ⟨bk_ BK336.out⟩, ⟨bk_ BK337.out⟩, ⟨bl_ HB.out⟩⟩
     ·obtain rfl := Bool.eq_false_iff.mpr c48
      rw [if_neg nf_] at H
      have H' := Aside0.mk H
      clear H
      go_wp2_with (first | ((with_reducible refine gate_callee (f := 77) rfl ?_); refine gl_ 39 Try.func77 #[.int .i64 a2, .int .i64 1, .int .i64 60] ?_; (with_reducible refine (impl_within.calls a2 1 60 false _ A47.out).mono ?_); rintro e w' ⟨rfl, ⟨nd, rfl⟩⟩; refine ⟨_, rfl, ?_⟩))
      go_meet
      case rel => exact ⟨_, (true), sd_, H', ⟨by have := HJ4.out; first | omega | exact Nat.le_refl _⟩, ⟨bk_ BK335.out⟩, ⟨bk_ BK336.out⟩, ⟨bk_ BK337.out⟩, ⟨bl_ HB.out⟩⟩
    case rest =>
     clear HC46
     try clear c1
     try clear c2
     try clear p2
     try clear c3
     try clear c4
     try clear c5
     try clear c7
     try clear c10
     try clear c11
     try clear c12
     try clear c13
     try clear c14
     try clear c19
     try clear c21
     try clear c22
     try clear c26
     try clear c30
     try clear c31
     try clear c35
     try clear c38
     try clear c39
     try clear c42
     try clear c43
     try clear c44
     try clear c48
     try clear c50
     try clear hcz15_0
     try clear hcz17_0
     try clear hcz23_0
     try clear hcz25_0
     try clear hcz27_0
     try clear hcz29_0
     try clear hcz32_0
     try clear hcz34_0
     try clear hcz36_0
     try clear hcz40_0
     try clear hcz45_0
     try clear hfz15_0
     try clear hfz17_0
     try clear hfz23_0
     try clear hfz25_0
     try clear hfz27_0
     try clear hfz29_0
     try clear hfz32_0
     try clear hfz34_0
     try clear hfz36_0
     try clear hfz40_0
     try clear hfz45_0
     try clear p2
     obtain ⟨kq, x51_45, rfl, HA, HJ45, BK335, BK336, BK337, HB⟩ := hcut
     cases kq with
     | zero => exact absurd HA.out (by simp [impl_GlueOf.j1])
     | succ kj45 =>
      have H := HA.out
      clear HA
      simp only [impl_GlueOf.j1] at H
      by_cases c53 : x51_45 = true
      ·subst c53
       rw [if_pos rfl] at H
       simp only [Option.some.injEq, Prod.mk.injEq] at H
       obtain ⟨rfl, rfl⟩ := H
       have hnb54 := NB337_335.out
       have hnc54 := NB335_337.out
       have hnb55 := NB337_336.out
       have hnc55 := NB336_337.out
       have hcz56_0 := bc_ BK337
       have hfz56_0 := blk_frozen BK337.out 0
       go_wp2
       refine bodyPost_ret (results_ct rfl _ _ gb337 41 #[.slice none 0 0] (0, 0) _ rfl (by (with_reducible repeat (first | refine blk_drewN ?_ _ | refine blk_drew ?_ | refine blk_alloc ?_ _)); refine blk_put (cs := #[.slice none 0 0]) ?_ 0 _ rfl; (with_reducible repeat (first | refine blk_drewN ?_ _ | refine blk_drew ?_ | refine blk_alloc ?_ _)); exact BK337.out) Try.underlying41 rfl (by kernel_rfl)) rfl ?_
       exact ⟨_, er_, by first | exact Kd.R_nil _ _ _ _ _ | exact Kd.N_nil _ _ _ _ _ | exact Kd.V_nil _ _ _ _ _ | exact Kd.Q_nil _ _ _ _ _ | exact Kd.S_nil _ _ _ _ _, bl_ HB.out⟩
      ·obtain rfl := Bool.eq_false_iff.mpr c53
       rw [if_neg nf_] at H
       obtain ⟨y345, hy345⟩ : ∃ y_ : List Int, y_ = (([] : List Int)) := ⟨_, rfl⟩
       replace H : (impl_GlueOf.l0 kj45 a2 a3 y345 l0_0 (l0_0.length : Int) 0 l1_0) = some (r1, r2) := hr_ hy345 H
       have Ny345 := Aside0.mk hy345
       clear hy345
       have H' := Aside0.mk H
       clear H
       go_wp2_with (first | ((with_reducible refine gate_dst (N := 53) rfl ?_); refine Kd.R_lit (Kd.int .i64) _ 3 ?hg (N := 53) ?hd (xs := ([] : List Int)) (inner := []) (ok := fun _ => True) (okp := fun _ => True) ?hr ?hp (fun _ hk => hk) trivial (Below.refl _ _) (Nat.le_refl _) (by simp) ?_; (case hd => rfl); (case hg => rfl); (case hr => first | (go_simp; done) | (go_simp; rfl)); (case hp => exact (Reps.none _ _)); intro v346 w57 ho58 hb hg_ hnew_; clear hg_ hnew_; (first | rw [← Ny345.out] at ho58 | (simp only [Int.reduceToNat] at ho58; rw [← Ny345.out] at ho58)); have HO347 := rl_ ho58 HB; replace BK335 := bb_ BK335 hb; replace BK336 := bb_ BK336 hb; replace BK337 := bb_ BK337 hb; replace HB := bs_ HB hb; clear hb ho58; have hnb59 := NB335_336.out; have hnc59 := NB336_335.out; have hnb60 := NB335_337.out; have hnc60 := NB337_335.out; have hcz61_0 := bc_ BK335; have hfz61_0 := blk_frozen BK335.out 0))
       go_loopg [10, 57] kj45 (fun kq v10 v57 w' => ∃ (x10_3 : List Int) (x57_3 : Int), v57 = .int .i64 x57_3 ∧ Aside0 (impl_GlueOf.l0 kq a2 a3 x10_3 l0_0 (l0_0.length : Int) x57_3 l1_0 = some (r1, r2)) ∧ Aside0 (kq ≤ kj45) ∧ Aside0 (Kd.R (Kd.int .i64) 3 w' w.heap.size (fun _ => True) v10 x10_3) ∧ Aside0 (w'.heap[gb335]? = some (.cells #[(.slice A0_0 l0_0.length c0_0)] 41 (0, 0))) ∧ Aside0 (w'.heap[gb336]? = some (.cells #[(.slice A1_0 l1_0.length c1_0)] 41 (0, 0))) ∧ Aside0 (w'.heap[gb337]? = some (.cells #[(.slice none 0 0)] 41 (0, 0))) ∧ Aside0 (Below w.heap.size w w'))
       case atStart => exact ⟨(y345), (0), sd_, H', ⟨Nat.le_refl _⟩, ⟨kr_ HO347.out⟩, ⟨bk_ BK335.out⟩, ⟨bk_ BK336.out⟩, ⟨bk_ BK337.out⟩, ⟨bl_ HB.out⟩⟩
       case round =>
        clear H'
        try clear c1
        try clear c2
        try clear p2
        try clear c3
        try clear c4
        try clear c5
        try clear c6
        try clear c7
        try clear c10
        try clear c11
        try clear c12
        try clear c13
        try clear c14
        try clear c19
        try clear c21
        try clear c22
        try clear c26
        try clear c30
        try clear c31
        try clear c35
        try clear c38
        try clear c39
        try clear c42
        try clear c43
        try clear c44
        try clear c48
        try clear c50
        try clear c53
        try clear c54
        try clear c55
        try clear c56
        try clear c59
        try clear c60
        try clear hcz15_0
        try clear hcz17_0
        try clear hcz23_0
        try clear hcz25_0
        try clear hcz27_0
        try clear hcz29_0
        try clear hcz32_0
        try clear hcz34_0
        try clear hcz36_0
        try clear hcz40_0
        try clear hcz45_0
        try clear hcz56_0
        try clear hcz61_0
        try clear hfz15_0
        try clear hfz17_0
        try clear hfz23_0
        try clear hfz25_0
        try clear hfz27_0
        try clear hfz29_0
        try clear hfz32_0
        try clear hfz34_0
        try clear hfz36_0
        try clear hfz40_0
        try clear hfz45_0
        try clear hfz56_0
        try clear hfz61_0
        try clear p2
        obtain ⟨x10_3, x57_3, rfl, HA, HK3, HO_10, BK335, BK336, BK337, HB⟩ := hrel
        cases gk with
        | zero => exact absurd HA.out (by simp [impl_GlueOf.l0])
        | succ k3 =>
         have H := HA.out
         clear HA
         simp only [impl_GlueOf.l0] at H
         by_cases c62 : x57_3 < (l0_0.length : Int)
         ·rw [if_pos c62] at H
          have c62b0 : decide (x57_3 < (l0_0.length : Int)) = true := decide_eq_true c62
          clear c62
          by_cases c63 : 0 ≤ x57_3
          ·rw [if_pos c63] at H
           have c63b0 : decide (0 ≤ x57_3) = true := decide_eq_true c63
           clear c63
           by_cases c64 : x57_3 < (l0_0.length : Int)
           ·rw [if_pos c64] at H
            have c64b0 : decide (x57_3 < (l0_0.length : Int)) = true := decide_eq_true c64
            clear c64
            by_cases c65 : x10_3.length < 17592186044416
            ·rw [if_pos c65] at H
             have LMc65 := Aside0.mk c65
             clear c65
             obtain ⟨y349, hy349⟩ : ∃ y_ : List Int, y_ = (x10_3 ++ [wrap64 (a2 * (rd l0_0 x57_3))]) := ⟨_, rfl⟩
             replace H : (impl_GlueOf.l0 k3 a2 a3 y349 l0_0 (l0_0.length : Int) (wrap64 (x57_3 + 1)) l1_0) = some (r1, r2) := hr_ hy349 H
             have Ny349 := Aside0.mk hy349
             clear hy349
             have H' := Aside0.mk H
             clear H
             have p348 : 0 ≤ (x57_3 : Int) := od_
             have q348 : x57_3 < (l0_0.length : Int) := od_
             obtain ⟨ad348, e348, hx348_0⟩ := Kd.at_int HR0_0.out x57_3 p348 q348
             cases e348
             replace hx348_0 := (HB.out.cell (World.block_lt_of_cell? w _ hx348_0)).trans hx348_0
             replace p348 := eq_true p348
             replace q348 := eq_true q348
             go_wp2_with (first | ((with_reducible refine gate_builtin (b := .append) (xs := #[.tmp 61, .tmp 65]) rfl ?_); at_builtin; refine Kd.R_append (Kd.int .i64) (w0 := w) w.heap.size rfl (.tmp 61) (.tmp 65) 22 3 (.int .i64 0) 8 rfl Try.underlying22 info3 rfl (by decide) (by omega) u10 x10_3 (wrap64 (a2 * (rd l0_0 x57_3))) [.int .i64 (wrap64 (a2 * (rd l0_0 x57_3)))] (fun _ => True) (fun _ => False) rfl rfl ?aP (fun _ hk => hk.elim) ?aF ?aO ?aB ?aS ?aL ?_; (case aP => exact rfl); (case aB => exact (bl_ HB.out)); (case aF => exact (fun _ _ => trivial)); (case aO => exact (kr_ HO_10.out)); (case aS => exact (below_size (bl_ HB.out))); (case aL => have := LMc65.out; omega); intro v350 w66 ho hb hg hat; rw [← Ny349.out] at ho; have n0_ := Aside0.mk (blk_grown (g := gb335) (o := .cells #[.slice (some ad348) l0_0.length c0_0] 41 (0, 0)) (bk_ BK335.out) hg (Kd.R_ne HO_10.out BK335.out (by decide))); have n1_ := Aside0.mk (blk_grown (g := gb336) (o := .cells #[.slice A1_0 l1_0.length c1_0] 41 (0, 0)) (bk_ BK336.out) hg (Kd.R_ne HO_10.out BK336.out (by decide))); have n2_ := Aside0.mk (blk_grown (g := gb337) (o := .cells #[.slice none 0 0] 41 (0, 0)) (bk_ BK337.out) hg (Kd.R_ne HO_10.out BK337.out (by decide))); have n3_ := Aside0.mk (hb); have n4_ := Aside0.mk (ho); clear BK335; clear BK336; clear BK337; clear HB; clear HO_10; have BK335 := n0_; have BK336 := n1_; have BK337 := n2_; have HB := n3_; have HO351 := n4_; clear n0_ n1_ n2_ n3_ n4_; clear ho hb hg hat))
             go_roundg k3
             case measure => have := HJ4.out; have := HJ45.out; have := HK3.out; omega
             case rel => exact ⟨(y349), (wrap64 (x57_3 + 1)), sd_, H', ⟨by have := HJ4.out; have := HJ45.out; have := HK3.out; omega⟩, ⟨kr_ HO351.out⟩, ⟨bk_ BK335.out⟩, ⟨bk_ BK336.out⟩, ⟨bk_ BK337.out⟩, ⟨bl_ HB.out⟩⟩
            ·rw [if_neg c65] at H
             exact absurd H (by simp)
           ·rw [if_neg c64] at H
            exact absurd H (by simp)
          ·rw [if_neg c63] at H
           exact absurd H (by simp)
         ·rw [if_neg c62] at H
          have c62b0 : decide (x57_3 < (l0_0.length : Int)) = false := decide_eq_false c62
          clear c62
          have H' := Aside0.mk H
          clear H
          have hnb67 := NB336_335.out
          have hnc67 := NB335_336.out
          have hnb68 := NB336_337.out
          have hnc68 := NB337_336.out
          have hcz69_0 := bc_ BK336
          have hfz69_0 := blk_frozen BK336.out 0
          go_wp2
          go_loopg [10, 71] k3 (fun kq v10 v71 w' => ∃ (x10_4 : List Int) (x71_4 : Int), v71 = .int .i64 x71_4 ∧ Aside0 (impl_GlueOf.l1 kq a3 x10_4 l1_0 (l1_0.length : Int) x71_4 = some (r1, r2)) ∧ Aside0 (kq ≤ k3) ∧ Aside0 (Kd.R (Kd.int .i64) 3 w' w.heap.size (fun _ => True) v10 x10_4) ∧ Aside0 (w'.heap[gb335]? = some (.cells #[(.slice A0_0 l0_0.length c0_0)] 41 (0, 0))) ∧ Aside0 (w'.heap[gb336]? = some (.cells #[(.slice A1_0 l1_0.length c1_0)] 41 (0, 0))) ∧ Aside0 (w'.heap[gb337]? = some (.cells #[(.slice none 0 0)] 41 (0, 0))) ∧ Aside0 (Below w.heap.size w w'))
          case atStart => exact ⟨(x10_3), (0), sd_, H', ⟨Nat.le_refl _⟩, ⟨kr_ HO_10.out⟩, ⟨bk_ BK335.out⟩, ⟨bk_ BK336.out⟩, ⟨bk_ BK337.out⟩, ⟨bl_ HB.out⟩⟩
          case round =>
           clear H'
           try clear c1
           try clear c2
           try clear p2
           try clear c3
           try clear p3
           try clear q3
           try clear hx3
           try clear c4
           try clear c5
           try clear c6
           try clear p6
           try clear c7
           try clear c10
           try clear c11
           try clear c12
           try clear c13
           try clear c14
           try clear c19
           try clear c21
           try clear c22
           try clear c26
           try clear c30
           try clear c31
           try clear p34
           try clear q34
           try clear hx34
           try clear c35
           try clear c38
           try clear c39
           try clear c42
           try clear c43
           try clear c44
           try clear c48
           try clear c50
           try clear c53
           try clear c54
           try clear c55
           try clear c56
           try clear c59
           try clear c60
           try clear c62
           try clear c62b0
           try clear c63
           try clear c63b0
           try clear c64
           try clear c64b0
           try clear p64
           try clear c65
           try clear c67
           try clear c68
           try clear hcz15_0
           try clear hcz17_0
           try clear hcz23_0
           try clear hcz25_0
           try clear hcz27_0
           try clear hcz29_0
           try clear hcz32_0
           try clear hcz34_0
           try clear hcz36_0
           try clear hcz40_0
           try clear hcz45_0
           try clear hcz56_0
           try clear hcz61_0
           try clear hcz69_0
           try clear hfz15_0
           try clear hfz17_0
           try clear hfz23_0
           try clear hfz25_0
           try clear hfz27_0
           try clear hfz29_0
           try clear hfz32_0
           try clear hfz34_0
           try clear hfz36_0
           try clear hfz40_0
           try clear hfz45_0
           try clear hfz56_0
           try clear hfz61_0
           try clear hfz69_0
           try clear hx348_0
           try clear p2
           try clear p348
           try clear q348
           obtain ⟨x10_4, x71_4, rfl, HA, HK4, HO_10, BK335, BK336, BK337, HB⟩ := hrel
           cases gk with
           | zero => exact absurd HA.out (by simp [impl_GlueOf.l1])
           | succ k4 =>
            have H := HA.out
            clear HA
            simp only [impl_GlueOf.l1] at H
            by_cases c70 : x71_4 < (l1_0.length : Int)
            ·rw [if_pos c70] at H
             have c70b0 : decide (x71_4 < (l1_0.length : Int)) = true := decide_eq_true c70
             clear c70
             by_cases c71 : 0 ≤ x71_4
             ·rw [if_pos c71] at H
              have c71b0 : decide (0 ≤ x71_4) = true := decide_eq_true c71
              clear c71
              by_cases c72 : x71_4 < (l1_0.length : Int)
              ·rw [if_pos c72] at H
               have c72b0 : decide (x71_4 < (l1_0.length : Int)) = true := decide_eq_true c72
               clear c72
               by_cases c73 : x10_4.length < 17592186044416
               ·rw [if_pos c73] at H
                have LMc73 := Aside0.mk c73
                clear c73
                obtain ⟨y353, hy353⟩ : ∃ y_ : List Int, y_ = (x10_4 ++ [wrap64 (a3 * (rd l1_0 x71_4))]) := ⟨_, rfl⟩
                replace H : (impl_GlueOf.l1 k4 a3 y353 l1_0 (l1_0.length : Int) (wrap64 (x71_4 + 1))) = some (r1, r2) := hr_ hy353 H
                have Ny353 := Aside0.mk hy353
                clear hy353
                have H' := Aside0.mk H
                clear H
                have p352 : 0 ≤ (x71_4 : Int) := od_
                have q352 : x71_4 < (l1_0.length : Int) := od_
                obtain ⟨ad352, e352, hx352_0⟩ := Kd.at_int HR1_0.out x71_4 p352 q352
                cases e352
                replace hx352_0 := (HB.out.cell (World.block_lt_of_cell? w _ hx352_0)).trans hx352_0
                replace p352 := eq_true p352
                replace q352 := eq_true q352
                go_wp2_with (first | ((with_reducible refine gate_builtin (b := .append) (xs := #[.tmp 75, .tmp 79]) rfl ?_); at_builtin; refine Kd.R_append (Kd.int .i64) (w0 := w) w.heap.size rfl (.tmp 75) (.tmp 79) 22 3 (.int .i64 0) 8 rfl Try.underlying22 info3 rfl (by decide) (by omega) u10 x10_4 (wrap64 (a3 * (rd l1_0 x71_4))) [.int .i64 (wrap64 (a3 * (rd l1_0 x71_4)))] (fun _ => True) (fun _ => False) rfl rfl ?aP (fun _ hk => hk.elim) ?aF ?aO ?aB ?aS ?aL ?_; (case aP => exact rfl); (case aB => exact (bl_ HB.out)); (case aF => exact (fun _ _ => trivial)); (case aO => exact (kr_ HO_10.out)); (case aS => exact (below_size (bl_ HB.out))); (case aL => have := LMc73.out; omega); intro v354 w74 ho hb hg hat; rw [← Ny353.out] at ho; have n0_ := Aside0.mk (blk_grown (g := gb335) (o := .cells #[.slice A0_0 l0_0.length c0_0] 41 (0, 0)) (bk_ BK335.out) hg (Kd.R_ne HO_10.out BK335.out (by decide))); have n1_ := Aside0.mk (blk_grown (g := gb336) (o := .cells #[.slice (some ad352) l1_0.length c1_0] 41 (0, 0)) (bk_ BK336.out) hg (Kd.R_ne HO_10.out BK336.out (by decide))); have n2_ := Aside0.mk (blk_grown (g := gb337) (o := .cells #[.slice none 0 0] 41 (0, 0)) (bk_ BK337.out) hg (Kd.R_ne HO_10.out BK337.out (by decide))); have n3_ := Aside0.mk (hb); have n4_ := Aside0.mk (ho); clear BK335; clear BK336; clear BK337; clear HB; clear HO_10; have BK335 := n0_; have BK336 := n1_; have BK337 := n2_; have HB := n3_; have HO355 := n4_; clear n0_ n1_ n2_ n3_ n4_; clear ho hb hg hat))
                go_roundg k4
                case measure => have := HJ4.out; have := HJ45.out; have := HK3.out; have := HK4.out; omega
                case rel => exact ⟨(y353), (wrap64 (x71_4 + 1)), sd_, H', ⟨by have := HJ4.out; have := HJ45.out; have := HK3.out; have := HK4.out; omega⟩, ⟨kr_ HO355.out⟩, ⟨bk_ BK335.out⟩, ⟨bk_ BK336.out⟩, ⟨bk_ BK337.out⟩, ⟨bl_ HB.out⟩⟩
               ·rw [if_neg c73] at H
                exact absurd H (by simp)
              ·rw [if_neg c72] at H
               exact absurd H (by simp)
             ·rw [if_neg c71] at H
              exact absurd H (by simp)
            ·rw [if_neg c70] at H
             have c70b0 : decide (x71_4 < (l1_0.length : Int)) = false := decide_eq_false c70
             clear c70
             replace H := Option.bind_eq_some_iff.mp H
             obtain ⟨⟨t356, t359⟩, A750, H⟩ := H
             (try dsimp only at H)
             have A75 := Aside0.mk A750
             clear A750
             simp only [Option.some.injEq, Prod.mk.injEq] at H
             obtain ⟨rfl, rfl⟩ := H
             obtain ⟨Ao76, co76, eo76⟩ := Kd.R_slice HO_10.out
             subst eo76
             go_wp2_with (first | ((with_reducible refine gate_callee (f := 108) rfl ?_); refine gl_ 83 Try.func108 #[.slice Ao76 x10_4.length co76] ?_; (with_reducible refine (impl_FromGens.calls k4 _ _ x10_4 t356 t359 _ ?side1 ?side2 A75.out).mono ?_); (case side1 => exact rs_ HO_10); (case side2 => exact (Kd.R_reads' HO_10.out).2.1); rintro e w77 ⟨v357, rfl, ho0, hb⟩; refine ⟨_, rfl, ?_⟩; have HO358 := Aside0.mk (Kd.R_lower (Kd.R_new' ho0 (Kd.R_lt (kr_ HO_10.out))) (below_size (bl_ HB.out))); replace HO_10 := Aside0.mk (Kd.R_elder' (kr_ HO_10.out) (Kd.R_base ho0) hb); replace BK335 := bb_ BK335 hb; replace BK336 := bb_ BK336 hb; replace BK337 := bb_ BK337 hb; replace HB := bs_ HB hb; (try clear hb); (try clear hb2); (try clear hk); (try clear hi); (try clear ho0); obtain ⟨Ao78, co78, eo78⟩ := Kd.R_slice HO358.out; subst eo78; have hnb79 := NB337_335.out; have hnc79 := NB335_337.out; have hnb80 := NB337_336.out; have hnc80 := NB336_337.out; have hcz81_0 := bc_ BK337; have hfz81_0 := blk_frozen BK337.out 0))
             refine bodyPost_ret (results_ct rfl _ _ gb337 41 #[.slice Ao78 t356.length co78] (0, 0) _ rfl (by (with_reducible repeat (first | refine blk_drewN ?_ _ | refine blk_drew ?_ | refine blk_alloc ?_ _)); refine blk_put (cs := #[.slice none 0 0]) ?_ 0 _ rfl; (with_reducible repeat (first | refine blk_drewN ?_ _ | refine blk_drew ?_ | refine blk_alloc ?_ _)); exact BK337.out) Try.underlying41 rfl (by kernel_rfl)) rfl ?_
             exact ⟨_, er_, kr_ (Kd.R_mono (Kd.R_far (p := ⟨gb337, 0, none⟩) (Kd.R_types HO358.out BK337.out (by decide)) (fun _ hk => hk.2) (.slice Ao78 t356.length co78)) (fun _ hk => trivial)), bl_ HB.out⟩
end Go.Proofs.Ytbjbolblahlhcaa.PFnGlued
end
