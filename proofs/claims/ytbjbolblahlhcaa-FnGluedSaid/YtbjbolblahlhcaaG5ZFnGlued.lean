/- Part 5 of the claim for FnGlued, of the chain from the printed contracts and the plain laws to the row. It has no condition of its own. -/
import Derived.Test.YtbjbolblahlhcaaG1ZFnGlued
import Derived.Test.YtbjbolblahlhcaaG4ZFnGlued
section
namespace Go.Proofs.Ytbjbolblahlhcaa.PFnGlued
open Go.RowKit Go.Proofs.YtbjbolblahlhcaaW.PrintWords Go.Proofs.YtbjbolblahlhcaaW.PrintLast Go.Proofs.YtbjbolblahlhcaaW.PrintMore
open Go.Proofs.Ytbjbolblahlhcaa.SortW (bk_ kr_ t_ f_)
open Go.Proofs.Ytbjbolblahlhcaa.SqW
attribute [local go_sem] max2_int min2_int max_two min_two max_three min_three max_four min_four
set_option maxHeartbeats 8000000
set_option maxRecDepth 100000
set_option linter.unusedVariables false
set_option linter.unusedSimpArgs false
mutual
def impl_leasts.l0 : Nat → List Int → Int → List Int → Int → Int → Option (List Int)
 | 0, _, _, _, _, _ => none
 | k + 1, x0, x1, x5, x16, x17 => if x17 < x16 then (if 0 ≤ x17 then (if x17 < (x5.length : Int) then (impl_leasts.l0 k x0 x1 (x5.set (x17 : Int).toNat (-1)) x16 (wrap64 (x17 + 1))) else (none)) else (none)) else (if 0 < (x5.length : Int) then (impl_leasts.l1 k x0 x1 (x5.set (0 : Int).toNat 0) true) else (none))
def impl_leasts.l1 : Nat → List Int → Int → List Int → Bool → Option (List Int)
 | 0, _, _, _, _ => none
 | k + 1, x0, x1, x5, x7 => if x7 = true then (impl_leasts.l2 k x0 x1 x5 false (x5.length : Int) 0) else (some x5)
def impl_leasts.l2 : Nat → List Int → Int → List Int → Bool → Int → Int → Option (List Int)
 | 0, _, _, _, _, _, _ => none
 | k + 1, x0, x1, x5, x7, x28, x29 => if x29 < x28 then (if 0 ≤ x29 then (if x29 < (x5.length : Int) then (if (rd x5 x29) < 0 then (impl_leasts.l2 k x0 x1 x5 x7 x28 (wrap64 (x29 + 1))) else (impl_leasts.l3 k x0 x1 x5 x7 x29 (rd x5 x29) x28 x29 x0 (x0.length : Int) 0)) else (none)) else (none)) else (impl_leasts.l1 k x0 x1 x5 x7)
def impl_leasts.l3 : Nat → List Int → Int → List Int → Bool → Int → Int → Int → Int → List Int → Int → Int → Option (List Int)
 | 0, _, _, _, _, _, _, _, _, _, _, _ => none
 | k + 1, x0, x1, x5, x7, x8, x9, x28, x29, x36, x37, x38 => if x38 < x37 then (if 0 ≤ x38 then (if x38 < (x36.length : Int) then (if x1 = 0 then (none) else (if 0 ≤ (Int.tmod (wrap64 (x8 + (rd x36 x38))) x1) then (if (Int.tmod (wrap64 (x8 + (rd x36 x38))) x1) < (x5.length : Int) then (if (rd x5 (Int.tmod (wrap64 (x8 + (rd x36 x38))) x1)) < 0 then (impl_leasts.l3 k x0 x1 (x5.set ((Int.tmod (wrap64 (x8 + (rd x36 x38))) x1) : Int).toNat (wrap64 (x9 + (rd x36 x38)))) true x8 x9 x28 x29 x36 x37 (wrap64 (x38 + 1))) else (if (wrap64 (x9 + (rd x36 x38))) < (rd x5 (Int.tmod (wrap64 (x8 + (rd x36 x38))) x1)) then (impl_leasts.l3 k x0 x1 (x5.set ((Int.tmod (wrap64 (x8 + (rd x36 x38))) x1) : Int).toNat (wrap64 (x9 + (rd x36 x38)))) true x8 x9 x28 x29 x36 x37 (wrap64 (x38 + 1))) else (impl_leasts.l3 k x0 x1 x5 x7 x8 x9 x28 x29 x36 x37 (wrap64 (x38 + 1))))) else (none)) else (none))) else (none)) else (none)) else (impl_leasts.l2 k x0 x1 x5 x7 x28 (wrap64 (x29 + 1)))
end
def impl_leasts.f (k : Nat) (l0 : List Int) (a1 : Int) : Option (List Int) := if 0 ≤ a1 then (if (a1 : Int).toNat ≤ 35184372088832 then ((some (List.replicate (a1 : Int).toNat 0 : List Int)).bind fun y267 => (impl_leasts.l0 k l0 a1 y267 (y267.length : Int) 0)) else (none)) else (none)
theorem impl_leasts.calls (k : Nat) (A0 : Option Addr) (c0 : Nat) (l0 : List Int) (a1 : Int) (r : List Int) (w : World) (hr0 : Kd.C (Kd.int .i64) w A0 l0.length l0) (hc0 : l0.length ≤ c0) (h : impl_leasts.f k l0 a1 = some r) :
 Calls Try.prog 133 #[.slice A0 l0.length c0, .int .i64 a1] w fun e w' => ∃ v0_ : Value, e = .returned (v0_) ∧ Kd.R (Kd.int .i64) 3 w' w.heap.size (fun _ => True) v0_ r ∧ Below w.heap.size w w' := by
 have HR0 := Aside0.mk hr0
 have HC0 := Aside0.mk hc0
 clear hr0 hc0
 have HB := Aside0.mk (Below.refl w.heap.size w)
 have H := h
 clear h
 unfold impl_leasts.f at H
 by_cases c3 : 0 ≤ a1
 ·rw [if_pos c3] at H
  have c3b0 := eq_true c3
  have c3b1 : decide (0 ≤ a1) = true := decide_eq_true c3
  clear c3
  by_cases c4 : (a1 : Int).toNat ≤ 35184372088832
  ·rw [if_pos c4] at H
   have c4b0 := eq_true c4
   have c4b1 : decide ((a1 : Int).toNat ≤ 35184372088832) = true := decide_eq_true c4
   clear c4
   obtain ⟨y267, hy267⟩ : ∃ y_ : List Int, y_ = (List.replicate (a1 : Int).toNat 0) := ⟨_, rfl⟩
   replace H : (impl_leasts.l0 k l0 a1 y267 (y267.length : Int) 0) = some r := hr_ hy267 H
   have Ny267 := Aside0.mk hy267
   clear hy267
   have H' := Aside0.mk H
   clear H
   go_enter Try.func133, Try.ntmps133
   go_wp2_with (first | ((with_reducible refine gate_dst (N := 14) rfl ?_); refine Kd.R_make (Kd.int .i64) _ 3 rfl (N := 14) rfl 22 _ _ rfl a1 rfl rfl Try.underlying22 (.int .i64 0) 8 info3 rfl (by decide) (by omega) 0 (ok := fun _ => True) (okp := fun _ => True) rfl (fun _ hk => hk) trivial (od_) (Nat.le_trans (Nat.mul_le_mul_right _ (od_ : a1.toNat ≤ 35184372088832)) (by omega)) (Below.refl _ _) (Nat.le_refl _) ?_; intro v268 w5 ho6 hb hg_ hnew_; clear hg_ hnew_; (first | rw [← Ny267.out] at ho6 | (simp only [Int.reduceToNat] at ho6; rw [← Ny267.out] at ho6)); have HO269 := rl_ ho6 HB; replace HB := bs_ HB hb; clear hb ho6; obtain ⟨Ao7, co7, eo7⟩ := Kd.R_slice HO269.out; subst eo7))
   go_loopg [17] k (fun kq v17 w' => ∃ (x5_1 : List Int) (x17_1 : Int), v17 = .int .i64 x17_1 ∧ Aside0 (impl_leasts.l0 kq l0 a1 x5_1 (y267.length : Int) x17_1 = some r) ∧ Aside0 (kq ≤ k) ∧ Aside0 (Kd.R (Kd.int .i64) 3 w' w.heap.size (fun _ => True) (.slice Ao7 y267.length co7) x5_1) ∧ Aside0 (Below w.heap.size w w'))
   case atStart => exact ⟨(y267), (0), sd_, H', ⟨Nat.le_refl _⟩, ⟨kr_ HO269.out⟩, ⟨bl_ HB.out⟩⟩
   case round =>
    clear H'
    try clear c1
    try clear p2
    try clear c3
    try clear c3b0
    try clear c3b1
    try clear c4
    try clear c4b0
    try clear c4b1
    obtain ⟨x5_1, x17_1, rfl, HA, HK1, HO_5, HB⟩ := hrel
    have hl5_1 := (Kd.R_reads' HO_5.out).1
    rw [hl5_1] at HO_5
    (try simp only [hl5_1])
    cases gk with
    | zero => exact absurd HA.out (by simp [impl_leasts.l0])
    | succ k1 =>
     have H := HA.out
     clear HA
     simp only [impl_leasts.l0] at H
     by_cases c8 : x17_1 < (y267.length : Int)
     ·rw [if_pos c8] at H
      have c8b0 : decide (x17_1 < (y267.length : Int)) = true := decide_eq_true c8
      (try simp only [hl5_1] at c8b0)
      clear c8
      by_cases c9 : 0 ≤ x17_1
      ·rw [if_pos c9] at H
       have c9b0 : decide (0 ≤ x17_1) = true := decide_eq_true c9
       clear c9
       by_cases c10 : x17_1 < (x5_1.length : Int)
       ·rw [if_pos c10] at H
        have c10b0 : decide (x17_1 < (x5_1.length : Int)) = true := decide_eq_true c10
        (try simp only [hl5_1] at c10b0)
        clear c10
        obtain ⟨y270, hy270⟩ : ∃ y_ : List Int, y_ = (x5_1.set (x17_1 : Int).toNat (-1)) := ⟨_, rfl⟩
        replace H : (impl_leasts.l0 k1 l0 a1 y270 (y267.length : Int) (wrap64 (x17_1 + 1))) = some r := hr_ hy270 H
        have Ny270 := Aside0.mk hy270
        clear hy270
        have H' := Aside0.mk H
        clear H
        have p11 : 0 ≤ (x17_1 : Int) := od_
        have q11 : (x17_1 : Int) < ((x5_1.length : Int) : Int) := od_
        obtain ⟨go11, co11, eo11, gb11, gl11, cl11, HG11⟩ := Kd.R_form HO_5.out (by omega)
        (first | cases eo11 | (injection eo11 with ea_ en_ ec_; (first | subst ea_ | (injection ea_ with ea_; subst ea_)); subst ec_; clear en_))
        have GB11 := Aside0.mk gb11
        have GG11 := Aside0.mk HG11
        clear gb11 gl11 HG11
        obtain ⟨hx11_0, hf11_0⟩ := Kd.R_celln 0 HO_5.out (x17_1 : Int) p11 q11
        replace p11 := eq_true p11
        replace q11 := eq_true q11
        have HP12 := Kd.R_putg HO_5.out (x17_1 : Int) (-1)
        go_wp2_with (first | ((with_reducible refine gate_store (t := 3) (p := 22) rfl ?_); refine store_event (t := 3) (p := 22) (v := ?vo_w13) (w1 := (wr.setCell ⟨go11, (x17_1 : Int).toNat, none⟩ (.int .i64 (-1)))) ?hg ?ho ?hn ?hr ?_; (case ho => rfl); (case hg => rfl); (case hn => rfl); (case hr => first | (go_simp; done) | (go_simp; rfl)); intro w13 hw; have hg : wr.grownBy w13 (some go11) := (by rw [hw]; exact HP12.2); have hp_ : Kd.R (Kd.int .i64) 3 w13 w.heap.size (fun _ => True) (.slice (some ⟨go11, 0, none⟩) x5_1.length co7) y270 := (by rw [hw, Ny270.out]; exact HP12.1); clear HP12; replace HO_5 := Aside0.mk (hp_); replace HB := Aside0.mk ((by rw [hw]; exact below_set (HB.out) GB11.out : Below w.heap.size w w13)); clear hg hw hp_))
        (try simp only [← hl5_1])
        go_roundg k1
        case measure => have := HK1.out; omega
        case rel => exact ⟨(y270), (wrap64 (x17_1 + 1)), sd_, H', ⟨by have := HK1.out; omega⟩, ⟨by (try simp only [hl5_1]); (with_reducible repeat (first | apply Kd.R_alloc | apply Kd.R_drewN | apply Kd.R_drew)); exact HO_5.out⟩, ⟨bl_ HB.out⟩⟩
       ·rw [if_neg c10] at H
        exact absurd H (by simp)
      ·rw [if_neg c9] at H
       exact absurd H (by simp)
     ·rw [if_neg c8] at H
      have c8b0 : decide (x17_1 < (y267.length : Int)) = false := decide_eq_false c8
      (try simp only [hl5_1] at c8b0)
      clear c8
      by_cases c14 : 0 < (x5_1.length : Int)
      ·rw [if_pos c14] at H
       have c14b0 : decide (0 < (x5_1.length : Int)) = true := decide_eq_true c14
       (try simp only [hl5_1] at c14b0)
       have c14b1 : decide (0 < x5_1.length) = true := decide_eq_true (by omega)
       (try simp only [hl5_1] at c14b1)
       clear c14
       obtain ⟨y271, hy271⟩ : ∃ y_ : List Int, y_ = (x5_1.set (0 : Int).toNat 0) := ⟨_, rfl⟩
       replace H : (impl_leasts.l1 k1 l0 a1 y271 true) = some r := hr_ hy271 H
       have Ny271 := Aside0.mk hy271
       clear hy271
       have H' := Aside0.mk H
       clear H
       have p15 : 0 ≤ (0 : Int) := (by omega)
       have q15 : (0 : Int) < ((x5_1.length : Int) : Int) := od_
       have qi15 : (0 < x5_1.length) = True := eq_true (by omega)
       obtain ⟨go15, co15, eo15, gb15, gl15, cl15, HG15⟩ := Kd.R_form HO_5.out (by omega)
       (first | cases eo15 | (injection eo15 with ea_ en_ ec_; (first | subst ea_ | (injection ea_ with ea_; subst ea_)); subst ec_; clear en_))
       have GB15 := Aside0.mk gb15
       have GG15 := Aside0.mk HG15
       clear gb15 gl15 HG15
       obtain ⟨hx15_0, hf15_0⟩ := Kd.R_celln 0 HO_5.out (0 : Int) p15 q15
       (try rw [show ((0 : Int)).toNat = 0 from rfl] at hx15_0)
       (try simp only [Nat.reduceMul, Nat.zero_mul, Nat.zero_add, Nat.reduceAdd] at hx15_0)
       (try rw [show ((0 : Int)).toNat = 0 from rfl] at hf15_0)
       (try simp only [Nat.reduceMul, Nat.zero_mul, Nat.zero_add, Nat.reduceAdd] at hf15_0)
       replace p15 := eq_true p15
       replace q15 := eq_true q15
       have HP16 := Kd.R_putg HO_5.out (0 : Int) 0
       go_wp2_with (first | ((with_reducible refine gate_store (t := 3) (p := 25) rfl ?_); refine store_event (t := 3) (p := 25) (v := ?vo_w17) (w1 := (wr.setCell ⟨go15, (0 : Int).toNat, none⟩ (.int .i64 0))) ?hg ?ho ?hn ?hr ?_; (case ho => rfl); (case hg => rfl); (case hn => rfl); (case hr => first | (go_simp; done) | (go_simp; rfl)); intro w17 hw; have hg : wr.grownBy w17 (some go15) := (by rw [hw]; exact HP16.2); have hp_ : Kd.R (Kd.int .i64) 3 w17 w.heap.size (fun _ => True) (.slice (some ⟨go15, 0, none⟩) x5_1.length co7) y271 := (by rw [hw, Ny271.out]; exact HP16.1); clear HP16; replace HO_5 := Aside0.mk (hp_); replace HB := Aside0.mk ((by rw [hw]; exact below_set (HB.out) GB15.out : Below w.heap.size w w17)); clear hg hw hp_))
       go_loopg [7] k1 (fun kq v7 w' => ∃ (x5_2 : List Int) (x7_2 : Bool), v7 = .bool x7_2 ∧ Aside0 (impl_leasts.l1 kq l0 a1 x5_2 x7_2 = some r) ∧ Aside0 (kq ≤ k1) ∧ Aside0 (Kd.R (Kd.int .i64) 3 w' w.heap.size (fun _ => True) (.slice (some ⟨go15, 0, none⟩) x5_1.length co7) x5_2) ∧ Aside0 (Below w.heap.size w w'))
       case atStart => exact ⟨(y271), (true), sd_, H', ⟨Nat.le_refl _⟩, ⟨by (try simp only [hl5_1]); (with_reducible repeat (first | apply Kd.R_alloc | apply Kd.R_drewN | apply Kd.R_drew)); exact HO_5.out⟩, ⟨bl_ HB.out⟩⟩
       case round =>
        clear H'
        try clear c1
        try clear p1
        try clear q1
        try clear hx1
        try clear qi1
        try clear p2
        try clear c3
        try clear c3b0
        try clear c3b1
        try clear c4
        try clear c4b0
        try clear c4b1
        try clear p6
        try clear c8
        try clear c8b0
        try clear c9
        try clear c9b0
        try clear c10
        try clear c10b0
        try clear p11
        try clear q11
        try clear hx11
        try clear hf11
        try clear c13
        try clear c14
        try clear c14b0
        try clear c14b1
        try clear p15
        try clear q15
        try clear hx15
        try clear qi15
        try clear hf15
        try clear hx11_0
        try clear hx15_0
        try clear p11
        try clear p15
        try clear p2
        try clear q11
        try clear q15
        obtain ⟨x5_2, x7_2, rfl, HA, HK2, HO_5, HB⟩ := hrel
        have hl5_2 := (Kd.R_reads' HO_5.out).1
        rw [hl5_2] at HO_5
        (try simp only [hl5_2])
        cases gk with
        | zero => exact absurd HA.out (by simp [impl_leasts.l1])
        | succ k2 =>
         have H := HA.out
         clear HA
         simp only [impl_leasts.l1] at H
         by_cases c18 : x7_2 = true
         ·subst c18
          rw [if_pos rfl] at H
          have H' := Aside0.mk H
          clear H
          go_wp2
          go_loopg [7, 29] k2 (fun kq v7 v29 w' => ∃ (x5_3 : List Int) (x7_3 : Bool) (x29_3 : Int), v7 = .bool x7_3 ∧ v29 = .int .i64 x29_3 ∧ Aside0 (impl_leasts.l2 kq l0 a1 x5_3 x7_3 (x5_2.length : Int) x29_3 = some r) ∧ Aside0 (kq ≤ k2) ∧ Aside0 (Kd.R (Kd.int .i64) 3 w' w.heap.size (fun _ => True) (.slice (some ⟨go15, 0, none⟩) x5_2.length co7) x5_3) ∧ Aside0 (Below w.heap.size w w'))
          case atStart => exact ⟨(x5_2), (false), (0), sd_, sd_, H', ⟨Nat.le_refl _⟩, ⟨by (try simp only [hl5_1]); (try simp only [hl5_2]); (with_reducible repeat (first | apply Kd.R_alloc | apply Kd.R_drewN | apply Kd.R_drew)); exact HO_5.out⟩, ⟨bl_ HB.out⟩⟩
          case round =>
           clear H'
           try clear c1
           try clear p1
           try clear q1
           try clear hx1
           try clear qi1
           try clear p2
           try clear c3
           try clear c3b0
           try clear c3b1
           try clear c4
           try clear c4b0
           try clear c4b1
           try clear p6
           try clear c8
           try clear c8b0
           try clear c9
           try clear c9b0
           try clear c10
           try clear c10b0
           try clear p11
           try clear q11
           try clear hx11
           try clear hf11
           try clear c13
           try clear c14
           try clear c14b0
           try clear c14b1
           try clear p15
           try clear q15
           try clear hx15
           try clear qi15
           try clear hf15
           try clear c18
           try clear hx11_0
           try clear hx15_0
           try clear p1
           try clear p11
           try clear p15
           try clear p2
           try clear p6
           try clear q1
           try clear q11
           try clear q15
           obtain ⟨x5_3, x7_3, x29_3, rfl, rfl, HA, HK3, HO_5, HB⟩ := hrel
           have hl5_3 := (Kd.R_reads' HO_5.out).1
           rw [hl5_3] at HO_5
           (try simp only [hl5_3])
           cases gk with
           | zero => exact absurd HA.out (by simp [impl_leasts.l2])
           | succ k3 =>
            have H := HA.out
            clear HA
            simp only [impl_leasts.l2] at H
            by_cases c19 : x29_3 < (x5_2.length : Int)
            ·rw [if_pos c19] at H
             have c19b0 : decide (x29_3 < (x5_2.length : Int)) = true := decide_eq_true c19
             (try simp only [hl5_1, hl5_2, hl5_3] at c19b0)
             clear c19
             by_cases c20 : 0 ≤ x29_3
             ·rw [if_pos c20] at H
              have c20b0 : decide (0 ≤ x29_3) = true := decide_eq_true c20
              clear c20
              by_cases c21 : x29_3 < (x5_3.length : Int)
              ·rw [if_pos c21] at H
               have c21b0 : decide (x29_3 < (x5_3.length : Int)) = true := decide_eq_true c21
               (try simp only [hl5_1, hl5_2, hl5_3] at c21b0)
               clear c21
               by_cases c22 : (rd x5_3 x29_3) < 0
               ·rw [if_pos c22] at H
                have c22b0 : decide ((rd x5_3 x29_3) < 0) = true := decide_eq_true c22
                clear c22
                have H' := Aside0.mk H
                clear H
                have p272 : 0 ≤ (x29_3 : Int) := od_
                have q272 : x29_3 < (x5_3.length : Int) := od_
                obtain ⟨ad272, e272, hx272_0⟩ := Kd.at_int (Kd.R_reads' HO_5.out).2.2 x29_3 p272 q272
                obtain rfl : (⟨go15, 0, none⟩ : Addr) = ad272 := (by injection e272)
                (first | simp only [add_plain] at hx272_0 | simp only [add_at] at hx272_0 | simp only [Addr.add, Nat.zero_add] at hx272_0 | skip)
                replace p272 := eq_true p272
                replace q272 := eq_true q272
                go_wp2
                (try simp only [← hl5_3])
                go_roundg k3
                case measure => have := HK1.out; have := HK2.out; have := HK3.out; omega
                case rel => exact ⟨(x5_3), (x7_3), (wrap64 (x29_3 + 1)), sd_, sd_, H', ⟨by have := HK1.out; have := HK2.out; have := HK3.out; omega⟩, ⟨by (try simp only [hl5_1]); (try simp only [hl5_2]); (try simp only [hl5_3]); (with_reducible repeat (first | apply Kd.R_alloc | apply Kd.R_drewN | apply Kd.R_drew)); exact HO_5.out⟩, ⟨bl_ HB.out⟩⟩
               ·rw [if_neg c22] at H
                have c22b0 : decide ((rd x5_3 x29_3) < 0) = false := decide_eq_false c22
                clear c22
                have H' := Aside0.mk H
                clear H
                have p272 : 0 ≤ (x29_3 : Int) := od_
                have q272 : x29_3 < (x5_3.length : Int) := od_
                obtain ⟨ad272, e272, hx272_0⟩ := Kd.at_int (Kd.R_reads' HO_5.out).2.2 x29_3 p272 q272
                obtain rfl : (⟨go15, 0, none⟩ : Addr) = ad272 := (by injection e272)
                (first | simp only [add_plain] at hx272_0 | simp only [add_at] at hx272_0 | simp only [Addr.add, Nat.zero_add] at hx272_0 | skip)
                replace p272 := eq_true p272
                replace q272 := eq_true q272
                go_wp2
                go_loopg [7, 38] k3 (fun kq v7 v38 w' => ∃ (x5_4 : List Int) (x7_4 : Bool) (x38_4 : Int), v7 = .bool x7_4 ∧ v38 = .int .i64 x38_4 ∧ Aside0 (impl_leasts.l3 kq l0 a1 x5_4 x7_4 x29_3 (rd x5_3 x29_3) (x5_2.length : Int) x29_3 l0 (l0.length : Int) x38_4 = some r) ∧ Aside0 (kq ≤ k3) ∧ Aside0 (Kd.R (Kd.int .i64) 3 w' w.heap.size (fun _ => True) (.slice (some ⟨go15, 0, none⟩) x5_3.length co7) x5_4) ∧ Aside0 (Below w.heap.size w w'))
                case atStart => exact ⟨(x5_3), (x7_3), (0), sd_, sd_, H', ⟨Nat.le_refl _⟩, ⟨by (try simp only [hl5_1]); (try simp only [hl5_2]); (try simp only [hl5_3]); (with_reducible repeat (first | apply Kd.R_alloc | apply Kd.R_drewN | apply Kd.R_drew)); exact HO_5.out⟩, ⟨bl_ HB.out⟩⟩
                case round =>
                 clear H'
                 try clear c1
                 try clear p1
                 try clear q1
                 try clear hx1
                 try clear qi1
                 try clear c2
                 try clear p2
                 try clear q2
                 try clear hx2
                 try clear c3
                 try clear c3b0
                 try clear c3b1
                 try clear c4
                 try clear c4b0
                 try clear c4b1
                 try clear p6
                 try clear c8
                 try clear c8b0
                 try clear c9
                 try clear c9b0
                 try clear c10
                 try clear c10b0
                 try clear p11
                 try clear q11
                 try clear hx11
                 try clear hf11
                 try clear c13
                 try clear c14
                 try clear c14b0
                 try clear c14b1
                 try clear p15
                 try clear q15
                 try clear hx15
                 try clear qi15
                 try clear hf15
                 try clear c18
                 try clear c19
                 try clear c19b0
                 try clear c20
                 try clear c20b0
                 try clear c21
                 try clear c21b0
                 try clear c22
                 try clear c22b0
                 try clear hx11_0
                 try clear hx15_0
                 try clear hx272_0
                 try clear p1
                 try clear p11
                 try clear p15
                 try clear p2
                 try clear p272
                 try clear p6
                 try clear q1
                 try clear q11
                 try clear q15
                 try clear q272
                 obtain ⟨x5_4, x7_4, x38_4, rfl, rfl, HA, HK4, HO_5, HB⟩ := hrel
                 have hl5_4 := (Kd.R_reads' HO_5.out).1
                 rw [hl5_4] at HO_5
                 (try simp only [hl5_4])
                 cases gk with
                 | zero => exact absurd HA.out (by simp [impl_leasts.l3])
                 | succ k4 =>
                  have H := HA.out
                  clear HA
                  simp only [impl_leasts.l3] at H
                  by_cases c23 : x38_4 < (l0.length : Int)
                  ·rw [if_pos c23] at H
                   have c23b0 : decide (x38_4 < (l0.length : Int)) = true := decide_eq_true c23
                   (try simp only [hl5_1, hl5_2, hl5_3, hl5_4] at c23b0)
                   clear c23
                   by_cases c24 : 0 ≤ x38_4
                   ·rw [if_pos c24] at H
                    have c24b0 : decide (0 ≤ x38_4) = true := decide_eq_true c24
                    clear c24
                    by_cases c25 : x38_4 < (l0.length : Int)
                    ·rw [if_pos c25] at H
                     have c25b0 : decide (x38_4 < (l0.length : Int)) = true := decide_eq_true c25
                     (try simp only [hl5_1, hl5_2, hl5_3, hl5_4] at c25b0)
                     clear c25
                     by_cases c26 : a1 = 0
                     ·rw [if_pos c26] at H
                      exact absurd H (by simp)
                     ·rw [if_neg c26] at H
                      have c26b0 : (a1 == 0) = false := beq_eq_false_iff_ne.mpr c26
                      have c26b1 : (a1 != 0) = true := bne_iff_ne.mpr c26
                      obtain ⟨ji27, hji27⟩ : ∃ j_ : Int, (Int.tmod (wrap64 (x29_3 + (rd l0 x38_4))) a1) = j_ := ⟨_, rfl⟩
                      replace H : (if 0 ≤ (ji27) then (if (ji27) < (x5_4.length : Int) then (if (rd x5_4 (ji27)) < 0 then (impl_leasts.l3 k4 l0 a1 (x5_4.set ((ji27) : Int).toNat (wrap64 ((rd x5_3 x29_3) + (rd l0 x38_4)))) true x29_3 (rd x5_3 x29_3) (x5_2.length : Int) x29_3 l0 (l0.length : Int) (wrap64 (x38_4 + 1))) else (if (wrap64 ((rd x5_3 x29_3) + (rd l0 x38_4))) < (rd x5_4 (ji27)) then (impl_leasts.l3 k4 l0 a1 (x5_4.set ((ji27) : Int).toNat (wrap64 ((rd x5_3 x29_3) + (rd l0 x38_4)))) true x29_3 (rd x5_3 x29_3) (x5_2.length : Int) x29_3 l0 (l0.length : Int) (wrap64 (x38_4 + 1))) else (impl_leasts.l3 k4 l0 a1 x5_4 x7_4 x29_3 (rd x5_3 x29_3) (x5_2.length : Int) x29_3 l0 (l0.length : Int) (wrap64 (x38_4 + 1))))) else (none)) else (none)) = some r := by first | (rw [hji27] at H; exact H) | (simp only [hji27] at H ⊢; exact H)
                      by_cases c28 : 0 ≤ (ji27)
                      ·rw [if_pos c28] at H
                       have c28b0 : decide (0 ≤ (ji27)) = true := decide_eq_true c28
                       clear c28
                       by_cases c29 : (ji27) < (x5_4.length : Int)
                       ·rw [if_pos c29] at H
                        have c29b0 : decide ((ji27) < (x5_4.length : Int)) = true := decide_eq_true c29
                        (try simp only [hl5_1, hl5_2, hl5_3, hl5_4] at c29b0)
                        clear c29
                        by_cases c30 : (rd x5_4 (ji27)) < 0
                        ·rw [if_pos c30] at H
                         have c30b0 : decide ((rd x5_4 (ji27)) < 0) = true := decide_eq_true c30
                         clear c30
                         obtain ⟨y275, hy275⟩ : ∃ y_ : List Int, y_ = (x5_4.set ((ji27) : Int).toNat (wrap64 ((rd x5_3 x29_3) + (rd l0 x38_4)))) := ⟨_, rfl⟩
                         replace H : (impl_leasts.l3 k4 l0 a1 y275 true x29_3 (rd x5_3 x29_3) (x5_2.length : Int) x29_3 l0 (l0.length : Int) (wrap64 (x38_4 + 1))) = some r := hr_ hy275 H
                         have Ny275 := Aside0.mk hy275
                         clear hy275
                         have H' := Aside0.mk H
                         clear H
                         have p273 : 0 ≤ (x38_4 : Int) := od_
                         have q273 : x38_4 < (l0.length : Int) := od_
                         obtain ⟨ad273, e273, hx273_0⟩ := Kd.at_int HR0.out x38_4 p273 q273
                         cases e273
                         replace hx273_0 := (HB.out.cell (World.block_lt_of_cell? w _ hx273_0)).trans hx273_0
                         replace p273 := eq_true p273
                         replace q273 := eq_true q273
                         have p274 : 0 ≤ ((ji27) : Int) := od_
                         have q274 : (ji27) < (x5_4.length : Int) := od_
                         obtain ⟨ad274, e274, hx274_0⟩ := Kd.at_int (Kd.R_reads' HO_5.out).2.2 (ji27) p274 q274
                         obtain rfl : (⟨go15, 0, none⟩ : Addr) = ad274 := (by injection e274)
                         (first | simp only [add_plain] at hx274_0 | simp only [add_at] at hx274_0 | simp only [Addr.add, Nat.zero_add] at hx274_0 | skip)
                         replace p274 := eq_true p274
                         replace q274 := eq_true q274
                         have p31 : 0 ≤ ((ji27) : Int) := od_
                         have q31 : ((ji27) : Int) < ((x5_4.length : Int) : Int) := od_
                         obtain ⟨hx31_0, hf31_0⟩ := Kd.R_celln 0 HO_5.out ((ji27) : Int) p31 q31
                         replace p31 := eq_true p31
                         replace q31 := eq_true q31
                         have HP32 := Kd.R_putg HO_5.out ((ji27) : Int) (wrap64 ((rd x5_3 x29_3) + (rd l0 x38_4)))
                         go_wp2_with (first | ((with_reducible refine gate_store (t := 3) (p := 67) rfl ?_); refine store_event (t := 3) (p := 67) (v := ?vo_w33) (w1 := (wr.setCell ⟨go15, ((ji27) : Int).toNat, none⟩ (.int .i64 (wrap64 ((rd x5_3 x29_3) + (rd l0 x38_4)))))) ?hg ?ho ?hn ?hr ?_; (case ho => rfl); (case hg => rfl); (case hn => rfl); (case hr => first | (go_simp; done) | (go_simp; rfl)); intro w33 hw; have hg : wr.grownBy w33 (some go15) := (by rw [hw]; exact HP32.2); have hp_ : Kd.R (Kd.int .i64) 3 w33 w.heap.size (fun _ => True) (.slice (some ⟨go15, 0, none⟩) x5_4.length co7) y275 := (by rw [hw, Ny275.out]; exact HP32.1); clear HP32; replace HO_5 := Aside0.mk (hp_); replace HB := Aside0.mk ((by rw [hw]; exact below_set (HB.out) GB15.out : Below w.heap.size w w33)); clear hg hw hp_))
                         (try simp only [← hl5_4])
                         go_roundg k4
                         case measure => have := HK1.out; have := HK2.out; have := HK3.out; have := HK4.out; omega
                         case rel => exact ⟨(y275), (true), (wrap64 (x38_4 + 1)), sd_, sd_, H', ⟨by have := HK1.out; have := HK2.out; have := HK3.out; have := HK4.out; omega⟩, ⟨by (try simp only [hl5_1]); (try simp only [hl5_2]); (try simp only [hl5_3]); (try simp only [hl5_4]); (with_reducible repeat (first | apply Kd.R_alloc | apply Kd.R_drewN | apply Kd.R_drew)); exact HO_5.out⟩, ⟨bl_ HB.out⟩⟩
                        ·rw [if_neg c30] at H
                         have c30b0 : decide ((rd x5_4 (ji27)) < 0) = false := decide_eq_false c30
                         clear c30
                         by_cases c34 : (wrap64 ((rd x5_3 x29_3) + (rd l0 x38_4))) < (rd x5_4 (ji27))
                         ·rw [if_pos c34] at H
                          have c34b0 : decide ((wrap64 ((rd x5_3 x29_3) + (rd l0 x38_4))) < (rd x5_4 (ji27))) = true := decide_eq_true c34
                          clear c34
                          obtain ⟨y277, hy277⟩ : ∃ y_ : List Int, y_ = (x5_4.set ((ji27) : Int).toNat (wrap64 ((rd x5_3 x29_3) + (rd l0 x38_4)))) := ⟨_, rfl⟩
                          replace H : (impl_leasts.l3 k4 l0 a1 y277 true x29_3 (rd x5_3 x29_3) (x5_2.length : Int) x29_3 l0 (l0.length : Int) (wrap64 (x38_4 + 1))) = some r := hr_ hy277 H
                          have Ny277 := Aside0.mk hy277
                          clear hy277
                          have H' := Aside0.mk H
                          clear H
                          have p273 : 0 ≤ (x38_4 : Int) := od_
                          have q273 : x38_4 < (l0.length : Int) := od_
                          obtain ⟨ad273, e273, hx273_0⟩ := Kd.at_int HR0.out x38_4 p273 q273
                          cases e273
                          replace hx273_0 := (HB.out.cell (World.block_lt_of_cell? w _ hx273_0)).trans hx273_0
                          replace p273 := eq_true p273
                          replace q273 := eq_true q273
                          have p274 : 0 ≤ ((ji27) : Int) := od_
                          have q274 : (ji27) < (x5_4.length : Int) := od_
                          obtain ⟨ad274, e274, hx274_0⟩ := Kd.at_int (Kd.R_reads' HO_5.out).2.2 (ji27) p274 q274
                          obtain rfl : (⟨go15, 0, none⟩ : Addr) = ad274 := (by injection e274)
                          (first | simp only [add_plain] at hx274_0 | simp only [add_at] at hx274_0 | simp only [Addr.add, Nat.zero_add] at hx274_0 | skip)
                          replace p274 := eq_true p274
                          replace q274 := eq_true q274
                          have p276 : 0 ≤ ((ji27) : Int) := od_
                          have q276 : (ji27) < (x5_4.length : Int) := od_
                          obtain ⟨ad276, e276, hx276_0⟩ := Kd.at_int (Kd.R_reads' HO_5.out).2.2 (ji27) p276 q276
                          obtain rfl : (⟨go15, 0, none⟩ : Addr) = ad276 := (by injection e276)
                          (first | simp only [add_plain] at hx276_0 | simp only [add_at] at hx276_0 | simp only [Addr.add, Nat.zero_add] at hx276_0 | skip)
                          replace p276 := eq_true p276
                          replace q276 := eq_true q276
                          have p35 : 0 ≤ ((ji27) : Int) := od_
                          have q35 : ((ji27) : Int) < ((x5_4.length : Int) : Int) := od_
                          obtain ⟨hx35_0, hf35_0⟩ := Kd.R_celln 0 HO_5.out ((ji27) : Int) p35 q35
                          replace p35 := eq_true p35
                          replace q35 := eq_true q35
                          have HP36 := Kd.R_putg HO_5.out ((ji27) : Int) (wrap64 ((rd x5_3 x29_3) + (rd l0 x38_4)))
                          go_wp2_with (first | ((with_reducible refine gate_store (t := 3) (p := 67) rfl ?_); refine store_event (t := 3) (p := 67) (v := ?vo_w37) (w1 := (wr.setCell ⟨go15, ((ji27) : Int).toNat, none⟩ (.int .i64 (wrap64 ((rd x5_3 x29_3) + (rd l0 x38_4)))))) ?hg ?ho ?hn ?hr ?_; (case ho => rfl); (case hg => rfl); (case hn => rfl); (case hr => first | (go_simp; done) | (go_simp; rfl)); intro w37 hw; have hg : wr.grownBy w37 (some go15) := (by rw [hw]; exact HP36.2); have hp_ : Kd.R (Kd.int .i64) 3 w37 w.heap.size (fun _ => True) (.slice (some ⟨go15, 0, none⟩) x5_4.length co7) y277 := (by rw [hw, Ny277.out]; exact HP36.1); clear HP36; replace HO_5 := Aside0.mk (hp_); replace HB := Aside0.mk ((by rw [hw]; exact below_set (HB.out) GB15.out : Below w.heap.size w w37)); clear hg hw hp_))
                          (try simp only [← hl5_4])
                          go_roundg k4
                          case measure => have := HK1.out; have := HK2.out; have := HK3.out; have := HK4.out; omega
                          case rel => exact ⟨(y277), (true), (wrap64 (x38_4 + 1)), sd_, sd_, H', ⟨by have := HK1.out; have := HK2.out; have := HK3.out; have := HK4.out; omega⟩, ⟨by (try simp only [hl5_1]); (try simp only [hl5_2]); (try simp only [hl5_3]); (try simp only [hl5_4]); (with_reducible repeat (first | apply Kd.R_alloc | apply Kd.R_drewN | apply Kd.R_drew)); exact HO_5.out⟩, ⟨bl_ HB.out⟩⟩
                         ·rw [if_neg c34] at H
                          have c34b0 : decide ((wrap64 ((rd x5_3 x29_3) + (rd l0 x38_4))) < (rd x5_4 (ji27))) = false := decide_eq_false c34
                          clear c34
                          have H' := Aside0.mk H
                          clear H
                          have p273 : 0 ≤ (x38_4 : Int) := od_
                          have q273 : x38_4 < (l0.length : Int) := od_
                          obtain ⟨ad273, e273, hx273_0⟩ := Kd.at_int HR0.out x38_4 p273 q273
                          cases e273
                          replace hx273_0 := (HB.out.cell (World.block_lt_of_cell? w _ hx273_0)).trans hx273_0
                          replace p273 := eq_true p273
                          replace q273 := eq_true q273
                          have p274 : 0 ≤ ((ji27) : Int) := od_
                          have q274 : (ji27) < (x5_4.length : Int) := od_
                          obtain ⟨ad274, e274, hx274_0⟩ := Kd.at_int (Kd.R_reads' HO_5.out).2.2 (ji27) p274 q274
                          obtain rfl : (⟨go15, 0, none⟩ : Addr) = ad274 := (by injection e274)
                          (first | simp only [add_plain] at hx274_0 | simp only [add_at] at hx274_0 | simp only [Addr.add, Nat.zero_add] at hx274_0 | skip)
                          replace p274 := eq_true p274
                          replace q274 := eq_true q274
                          have p276 : 0 ≤ ((ji27) : Int) := od_
                          have q276 : (ji27) < (x5_4.length : Int) := od_
                          obtain ⟨ad276, e276, hx276_0⟩ := Kd.at_int (Kd.R_reads' HO_5.out).2.2 (ji27) p276 q276
                          obtain rfl : (⟨go15, 0, none⟩ : Addr) = ad276 := (by injection e276)
                          (first | simp only [add_plain] at hx276_0 | simp only [add_at] at hx276_0 | simp only [Addr.add, Nat.zero_add] at hx276_0 | skip)
                          replace p276 := eq_true p276
                          replace q276 := eq_true q276
                          go_wp2
                          (try simp only [← hl5_4])
                          go_roundg k4
                          case measure => have := HK1.out; have := HK2.out; have := HK3.out; have := HK4.out; omega
                          case rel => exact ⟨(x5_4), (x7_4), (wrap64 (x38_4 + 1)), sd_, sd_, H', ⟨by have := HK1.out; have := HK2.out; have := HK3.out; have := HK4.out; omega⟩, ⟨by (try simp only [hl5_1]); (try simp only [hl5_2]); (try simp only [hl5_3]); (try simp only [hl5_4]); (with_reducible repeat (first | apply Kd.R_alloc | apply Kd.R_drewN | apply Kd.R_drew)); exact HO_5.out⟩, ⟨bl_ HB.out⟩⟩
                       ·rw [if_neg c29] at H
                        exact absurd H (by simp)
                      ·rw [if_neg c28] at H
                       exact absurd H (by simp)
                    ·rw [if_neg c25] at H
                     exact absurd H (by simp)
                   ·rw [if_neg c24] at H
                    exact absurd H (by simp)
                  ·rw [if_neg c23] at H
                   have c23b0 : decide (x38_4 < (l0.length : Int)) = false := decide_eq_false c23
                   (try simp only [hl5_1, hl5_2, hl5_3, hl5_4] at c23b0)
                   clear c23
                   have H' := Aside0.mk H
                   clear H
                   go_wp2
                   (try simp only [← hl5_3, ← hl5_4])
                   go_roundg k4
                   case measure => have := HK1.out; have := HK2.out; have := HK3.out; have := HK4.out; omega
                   case rel => exact ⟨(x5_4), (x7_4), (wrap64 (x29_3 + 1)), sd_, sd_, H', ⟨by have := HK1.out; have := HK2.out; have := HK3.out; have := HK4.out; omega⟩, ⟨by (try simp only [hl5_1]); (try simp only [hl5_2]); (try simp only [hl5_3]); (try simp only [hl5_4]); (with_reducible repeat (first | apply Kd.R_alloc | apply Kd.R_drewN | apply Kd.R_drew)); exact HO_5.out⟩, ⟨bl_ HB.out⟩⟩
              ·rw [if_neg c21] at H
               exact absurd H (by simp)
             ·rw [if_neg c20] at H
              exact absurd H (by simp)
            ·rw [if_neg c19] at H
             have c19b0 : decide (x29_3 < (x5_2.length : Int)) = false := decide_eq_false c19
             (try simp only [hl5_1, hl5_2, hl5_3] at c19b0)
             clear c19
             have H' := Aside0.mk H
             clear H
             go_wp2
             (try simp only [← hl5_2, ← hl5_3])
             go_roundg k3
             case measure => have := HK1.out; have := HK2.out; have := HK3.out; omega
             case rel => exact ⟨(x5_3), (x7_3), sd_, H', ⟨by have := HK1.out; have := HK2.out; have := HK3.out; omega⟩, ⟨by (try simp only [hl5_1]); (try simp only [hl5_2]); (try simp only [hl5_3]); (with_reducible repeat (first | apply Kd.R_alloc | apply Kd.R_drewN | apply Kd.R_drew)); exact HO_5.out⟩, ⟨bl_ HB.out⟩⟩
         ·obtain rfl := Bool.eq_false_iff.mpr c18
          rw [if_neg nf_] at H
          obtain rfl := Option.some.inj H
          go_wp2
          go_ret
          exact ⟨_, er_, kr_ HO_5.out, bl_ HB.out⟩
      ·rw [if_neg c14] at H
       exact absurd H (by simp)
  ·rw [if_neg c4] at H
   exact absurd H (by simp)
 ·rw [if_neg c3] at H
  exact absurd H (by simp)
def impl_Generates.f (k : Nat) (l0 : List Int) (a1 : Int) : Option (Bool) := (impl_usable.f k l0).bind fun t278 => (if t278 = true then ((impl_within.f a1 0 1000000).bind fun t279 => (if t279 = true then (if 0 < (l0.length : Int) then ((impl_leasts.f k l0 (rd l0 0)).bind fun t281 => (if (rd l0 0) = 0 then (none) else (if 0 ≤ (Int.tmod a1 (rd l0 0)) then (if (Int.tmod a1 (rd l0 0)) < (t281.length : Int) then (if (rd t281 (Int.tmod a1 (rd l0 0))) ≥ 0 then (some (decide ((rd t281 (Int.tmod a1 (rd l0 0))) ≤ a1))) else (some false)) else (none)) else (none)))) else (none)) else (some false))) else (some false))
def impl_Generates.T3 : Bool × List (List Nat × List Nat) := (true, [([], []), ([], []), ([1], [1]), ([2], [2]), ([0, 3], [0, 3]), ([], []), ([], []), ([6], [6]), ([7], [7]), ([5, 8], [5, 8]), ([4, 9], [4, 9]), ([10], [10]), ([11, 4, 0, 1, 2, 3, 4, 5, 6, 7, 8, 9, 10, 11], [11])])
def impl_Generates.B3 : List Nat := [0, 0, 2, 6, 15, 0, 0, 64, 192, 480, 1023, 2047, 4095]
theorem impl_Generates.tab3 : rtab .any (opsOf Try.f124 3) = impl_Generates.T3 := by kernel_rfl
theorem impl_Generates.bits3 : waitsOk impl_Generates.T3.2 impl_Generates.B3 = true := by kernel_rfl
theorem impl_Generates.calls (k : Nat) (A0 : Option Addr) (c0 : Nat) (l0 : List Int) (a1 : Int) (r : Bool) (w : World) (hr0 : Kd.C (Kd.int .i64) w A0 l0.length l0) (hc0 : l0.length ≤ c0) (h : impl_Generates.f k l0 a1 = some r) :
 Calls Try.prog 124 #[.slice A0 l0.length c0, .int .i64 a1] w fun e w' => e = .returned (.bool r) ∧ Below w.heap.size w w' := by
 have HR0 := Aside0.mk hr0
 have HC0 := Aside0.mk hc0
 clear hr0 hc0
 have HB := Aside0.mk (Below.refl w.heap.size w)
 have H := h
 clear h
 unfold impl_Generates.f at H
 obtain ⟨t278, A3, H⟩ := ob_ H
 (try dsimp only at H)
 by_cases c4 : t278 = true
 ·subst c4
  rw [if_pos rfl] at H
  obtain ⟨t279, A5, H⟩ := ob_ H
  (try dsimp only at H)
  by_cases c6 : t279 = true
  ·subst c6
   rw [if_pos rfl] at H
   by_cases c7 : 0 < (l0.length : Int)
   ·rw [if_pos c7] at H
    have c7b0 : decide (0 < (l0.length : Int)) = true := decide_eq_true c7
    have c7b1 : decide (0 < l0.length) = true := decide_eq_true (by omega)
    clear c7
    obtain ⟨t281, A8, H⟩ := ob_ H
    (try dsimp only at H)
    by_cases c9 : (rd l0 0) = 0
    ·rw [if_pos c9] at H
     exact absurd H (by simp)
    ·rw [if_neg c9] at H
     have c9b0 : ((rd l0 0) == 0) = false := beq_eq_false_iff_ne.mpr c9
     have c9b1 : ((rd l0 0) != 0) = true := bne_iff_ne.mpr c9
     obtain ⟨ji10, hji10⟩ : ∃ j_ : Int, (Int.tmod a1 (rd l0 0)) = j_ := ⟨_, rfl⟩
     replace H : (if 0 ≤ (ji10) then (if (ji10) < (t281.length : Int) then (if (rd t281 (ji10)) ≥ 0 then (some (decide ((rd t281 (ji10)) ≤ a1))) else (some false)) else (none)) else (none)) = some r := by first | (rw [hji10] at H; exact H) | (simp only [hji10] at H ⊢; exact H)
     (try rw [hji10] at A3)
     (try rw [hji10] at A5)
     (try rw [hji10] at A8)
     by_cases c11 : 0 ≤ (ji10)
     ·rw [if_pos c11] at H
      have c11b0 : decide (0 ≤ (ji10)) = true := decide_eq_true c11
      clear c11
      by_cases c12 : (ji10) < (t281.length : Int)
      ·rw [if_pos c12] at H
       have c12b0 : decide ((ji10) < (t281.length : Int)) = true := decide_eq_true c12
       clear c12
       by_cases c13 : (rd t281 (ji10)) ≥ 0
       ·rw [if_pos c13] at H
        have c13b0 : decide (0 ≤ (rd t281 (ji10))) = true := decide_eq_true c13
        clear c13
        obtain rfl := Option.some.inj H
        go_enter Try.func124, Try.ntmps124
        try go_wp2_with (first | ((with_reducible refine gate_callee (f := 121) rfl ?_); refine gl_ 7 Try.func121 #[.slice A0 l0.length c0] ?_; (with_reducible refine (impl_usable.calls k _ _ l0 true _ ?side1 ?side2 A3.out).mono ?_); (case side1 => repeat (first | exact HR0.out | (with_reducible refine Kd.C_alloc ?_ _) | (with_reducible refine Kd.C_drewN ?_ _) | (with_reducible refine Kd.C_drew ?_))); (case side2 => exact HC0.out); rintro e w' ⟨rfl, ⟨nd, rfl⟩⟩; refine ⟨_, rfl, ?_⟩) | (go_at_call 77; (with_reducible refine (impl_within.calls a1 0 1000000 true _ A5.out).mono ?_); rintro e w' ⟨rfl, ⟨nd, rfl⟩⟩))
        replace HB := Aside0.mk (below_drew1 HB.out)
        have p280 : 0 ≤ (0 : Int) := (by omega)
        have q280 : 0 < (l0.length : Int) := od_
        obtain ⟨ad280, e280, hx280_0⟩ := Kd.at_int HR0.out 0 p280 q280
        have hw280_0 := hx280_0
        (try rw [show ((0 : Int)).toNat = 0 from rfl] at hw280_0)
        (try rw [show 0 * 1 = 0 from rfl] at hw280_0)
        (try rw [Addr.add_zero'] at hw280_0)
        cases e280
        have qi280 : (0 < l0.length) = True := eq_true (by omega)
        (try rw [show ((0 : Int)).toNat = 0 from rfl] at hx280_0)
        (try rw [Addr.add_zero'] at hx280_0)
        replace hx280_0 := (HB.out.cell (World.block_lt_of_cell? w _ hx280_0)).trans hx280_0
        replace p280 := eq_true p280
        replace q280 := eq_true q280
        have p284 : 0 ≤ (0 : Int) := (by omega)
        have q284 : 0 < (l0.length : Int) := od_
        obtain ⟨ad284, e284, hx284_0⟩ := Kd.at_int HR0.out 0 p284 q284
        have hw284_0 := hx284_0
        (try rw [show ((0 : Int)).toNat = 0 from rfl] at hw284_0)
        (try rw [show 0 * 1 = 0 from rfl] at hw284_0)
        (try rw [Addr.add_zero'] at hw284_0)
        obtain rfl : ad280 = ad284 := (by injection e284)
        have qi284 : (0 < l0.length) = True := eq_true (by omega)
        (try rw [show ((0 : Int)).toNat = 0 from rfl] at hx284_0)
        (try rw [Addr.add_zero'] at hx284_0)
        replace hx284_0 := (HB.out.cell (World.block_lt_of_cell? w _ hx284_0)).trans hx284_0
        replace p284 := eq_true p284
        replace q284 := eq_true q284
        refine start_ (n := 13) (S := fun w' => w'.cell? ad280 = some (.int .i64 (rd l0 0)) ∧ w'.cell? ad280 = some (.int .i64 (rd l0 0))) (ds := []) (fl_ 13 0) (by kernel_rfl) rfl rfl ⟨((HB.out.cell (World.block_lt_of_cell? w _ hw280_0)).trans hw280_0), ((HB.out.cell (World.block_lt_of_cell? w _ hw284_0)).trans hw284_0)⟩ (fun hHeld => ?_); refine with_tabW impl_Generates.tab3 impl_Generates.bits3 (fun HT_ HW_ => ?_)
        generalize w.drew = w14 at HB hx280_0 hx284_0 hHeld ⊢
        refine pu_ 0 14 (fl_ 13 1) ?_
        refine pu_ 1 15 (fl_ 13 2) ?_
        refine pu_ 2 16 (fl_ 13 3) ?_
        refine pu_ 5 19 (fm_ 13 39) ?_
        refine pu_ 6 20 (fm_ 13 103) ?_
        refine pu_ 7 21 (fm_ 13 231) ?_
        refine ta_ 3 17 (fm_ 13 239) ?_
        refine ta_ 8 22 (fm_ 13 495) ?_
        refine pu_ 9 23 (fm_ 13 1007) ?_
        refine on_ 4 18 (fl_ 13 10) fun K hK => ?_
        refine go_ Try.func133 #[.slice (some ad280) l0.length c0, .int .i64 (rd l0 0)] ?_
        with_reducible refine (impl_leasts.calls k _ _ l0 (rd l0 0) t281 _ ?side1 ?side2 A8.out).mono ?_
        (case side1 => exact cs_ HR0 HB)
        (case side2 => exact HC0.out)
        rintro e w15 ⟨v282, rfl, ho0, hb⟩
        refine ⟨_, rfl, ?_⟩
        have HO283 := rl_ ho0 HB
        replace HB := bs_ HB hb
        (try clear hb)
        (try clear hb2)
        (try clear hk)
        (try clear hi)
        (try clear ho0)
        obtain ⟨Ao16, co16, eo16⟩ := Kd.R_slice HO283.out
        (first | subst eo16 | (injection eo16 with f1_ f2_ f3_; have f4_ := f1_.symm; have f5_ := f3_.symm; clear f1_ f2_ f3_; subst f4_; subst f5_))
        have p285 : 0 ≤ ((ji10) : Int) := od_
        have q285 : (ji10) < (t281.length : Int) := od_
        obtain ⟨ad285, e285, hx285_0⟩ := Kd.at_int (Kd.R_reads' HO283.out).2.2 (ji10) p285 q285
        cases e285
        replace p285 := eq_true p285
        replace q285 := eq_true q285
        refine hK.out _ _ ⟨((HB.out.cell (World.block_lt_of_cell? w _ hw280_0)).trans hw280_0), ((HB.out.cell (World.block_lt_of_cell? w _ hw284_0)).trans hw284_0)⟩ (fun hHeld => ?_)
        clear hK K
        refine no_ 18 ?_
        refine pu_ 10 24 (fl_ 13 11) ?_
        have HSall_ := hHeld
        refine on_ 11 25 (fl_ 13 12) fun K hK => ?_
        refine value_ (w1 := ?_) (v := ?_) (by rfl) rfl ?_ ?_
        rotate_left 2
        ·go_simp
         constructor
         ·rfl
         ·rfl
        refine hK.out _ _ HSall_ (fun hHeld => ?_)
        clear hK K HSall_
        refine no_ 25 ?_
        refine pu_ 12 5 (fl_ 13 13) ?_
        refine done_ (done_of HT_.out (by kernel_rfl)) ?_
        try go_wp2
        go_ret
        exact ⟨by first | rfl | (simp [errW_none, errW_some] <;> rfl) | (simp only [← hji10]; first | rfl | (simp [errW_none, errW_some] <;> rfl)) | (simp [*, errW_none, errW_some] <;> rfl), bl_ HB.out⟩
       ·rw [if_neg c13] at H
        have c13b0 : decide (0 ≤ (rd t281 (ji10))) = false := decide_eq_false c13
        clear c13
        obtain rfl := Option.some.inj H
        go_enter Try.func124, Try.ntmps124
        try go_wp2_with (first | ((with_reducible refine gate_callee (f := 121) rfl ?_); refine gl_ 7 Try.func121 #[.slice A0 l0.length c0] ?_; (with_reducible refine (impl_usable.calls k _ _ l0 true _ ?side1 ?side2 A3.out).mono ?_); (case side1 => repeat (first | exact HR0.out | (with_reducible refine Kd.C_alloc ?_ _) | (with_reducible refine Kd.C_drewN ?_ _) | (with_reducible refine Kd.C_drew ?_))); (case side2 => exact HC0.out); rintro e w' ⟨rfl, ⟨nd, rfl⟩⟩; refine ⟨_, rfl, ?_⟩) | (go_at_call 77; (with_reducible refine (impl_within.calls a1 0 1000000 true _ A5.out).mono ?_); rintro e w' ⟨rfl, ⟨nd, rfl⟩⟩))
        replace HB := Aside0.mk (below_drew1 HB.out)
        have p280 : 0 ≤ (0 : Int) := (by omega)
        have q280 : 0 < (l0.length : Int) := od_
        obtain ⟨ad280, e280, hx280_0⟩ := Kd.at_int HR0.out 0 p280 q280
        have hw280_0 := hx280_0
        (try rw [show ((0 : Int)).toNat = 0 from rfl] at hw280_0)
        (try rw [show 0 * 1 = 0 from rfl] at hw280_0)
        (try rw [Addr.add_zero'] at hw280_0)
        cases e280
        have qi280 : (0 < l0.length) = True := eq_true (by omega)
        (try rw [show ((0 : Int)).toNat = 0 from rfl] at hx280_0)
        (try rw [Addr.add_zero'] at hx280_0)
        replace hx280_0 := (HB.out.cell (World.block_lt_of_cell? w _ hx280_0)).trans hx280_0
        replace p280 := eq_true p280
        replace q280 := eq_true q280
        have p284 : 0 ≤ (0 : Int) := (by omega)
        have q284 : 0 < (l0.length : Int) := od_
        obtain ⟨ad284, e284, hx284_0⟩ := Kd.at_int HR0.out 0 p284 q284
        have hw284_0 := hx284_0
        (try rw [show ((0 : Int)).toNat = 0 from rfl] at hw284_0)
        (try rw [show 0 * 1 = 0 from rfl] at hw284_0)
        (try rw [Addr.add_zero'] at hw284_0)
        obtain rfl : ad280 = ad284 := (by injection e284)
        have qi284 : (0 < l0.length) = True := eq_true (by omega)
        (try rw [show ((0 : Int)).toNat = 0 from rfl] at hx284_0)
        (try rw [Addr.add_zero'] at hx284_0)
        replace hx284_0 := (HB.out.cell (World.block_lt_of_cell? w _ hx284_0)).trans hx284_0
        replace p284 := eq_true p284
        replace q284 := eq_true q284
        refine start_ (n := 13) (S := fun w' => w'.cell? ad280 = some (.int .i64 (rd l0 0)) ∧ w'.cell? ad280 = some (.int .i64 (rd l0 0))) (ds := []) (fl_ 13 0) (by kernel_rfl) rfl rfl ⟨((HB.out.cell (World.block_lt_of_cell? w _ hw280_0)).trans hw280_0), ((HB.out.cell (World.block_lt_of_cell? w _ hw284_0)).trans hw284_0)⟩ (fun hHeld => ?_); refine with_tabW impl_Generates.tab3 impl_Generates.bits3 (fun HT_ HW_ => ?_)
        generalize w.drew = w17 at HB hx280_0 hx284_0 hHeld ⊢
        refine pu_ 0 14 (fl_ 13 1) ?_
        refine pu_ 1 15 (fl_ 13 2) ?_
        refine pu_ 2 16 (fl_ 13 3) ?_
        refine pu_ 5 19 (fm_ 13 39) ?_
        refine pu_ 6 20 (fm_ 13 103) ?_
        refine pu_ 7 21 (fm_ 13 231) ?_
        refine ta_ 3 17 (fm_ 13 239) ?_
        refine ta_ 8 22 (fm_ 13 495) ?_
        refine pu_ 9 23 (fm_ 13 1007) ?_
        refine on_ 4 18 (fl_ 13 10) fun K hK => ?_
        refine go_ Try.func133 #[.slice (some ad280) l0.length c0, .int .i64 (rd l0 0)] ?_
        with_reducible refine (impl_leasts.calls k _ _ l0 (rd l0 0) t281 _ ?side1 ?side2 A8.out).mono ?_
        (case side1 => exact cs_ HR0 HB)
        (case side2 => exact HC0.out)
        rintro e w18 ⟨v282, rfl, ho0, hb⟩
        refine ⟨_, rfl, ?_⟩
        have HO283 := rl_ ho0 HB
        replace HB := bs_ HB hb
        (try clear hb)
        (try clear hb2)
        (try clear hk)
        (try clear hi)
        (try clear ho0)
        obtain ⟨Ao19, co19, eo19⟩ := Kd.R_slice HO283.out
        (first | subst eo19 | (injection eo19 with f1_ f2_ f3_; have f4_ := f1_.symm; have f5_ := f3_.symm; clear f1_ f2_ f3_; subst f4_; subst f5_))
        have p285 : 0 ≤ ((ji10) : Int) := od_
        have q285 : (ji10) < (t281.length : Int) := od_
        obtain ⟨ad285, e285, hx285_0⟩ := Kd.at_int (Kd.R_reads' HO283.out).2.2 (ji10) p285 q285
        cases e285
        replace p285 := eq_true p285
        replace q285 := eq_true q285
        refine hK.out _ _ ⟨((HB.out.cell (World.block_lt_of_cell? w _ hw280_0)).trans hw280_0), ((HB.out.cell (World.block_lt_of_cell? w _ hw284_0)).trans hw284_0)⟩ (fun hHeld => ?_)
        clear hK K
        refine no_ 18 ?_
        refine pu_ 10 24 (fl_ 13 11) ?_
        have HSall_ := hHeld
        refine on_ 11 25 (fl_ 13 12) fun K hK => ?_
        refine value_ (w1 := ?_) (v := ?_) (by rfl) rfl ?_ ?_
        rotate_left 2
        ·go_simp
         constructor
         ·rfl
         ·rfl
        refine hK.out _ _ HSall_ (fun hHeld => ?_)
        clear hK K HSall_
        refine no_ 25 ?_
        refine pu_ 12 5 (fl_ 13 13) ?_
        refine done_ (done_of HT_.out (by kernel_rfl)) ?_
        try go_wp2
        go_ret
        exact ⟨by first | rfl | (simp [errW_none, errW_some] <;> rfl) | (simp only [← hji10]; first | rfl | (simp [errW_none, errW_some] <;> rfl)) | (simp [*, errW_none, errW_some] <;> rfl), bl_ HB.out⟩
      ·rw [if_neg c12] at H
       exact absurd H (by simp)
     ·rw [if_neg c11] at H
      exact absurd H (by simp)
   ·rw [if_neg c7] at H
    exact absurd H (by simp)
  ·obtain rfl := Bool.eq_false_iff.mpr c6
   rw [if_neg nf_] at H
   obtain rfl := Option.some.inj H
   go_enter Try.func124, Try.ntmps124
   go_wp2_with (first | ((with_reducible refine gate_callee (f := 121) rfl ?_); refine gl_ 7 Try.func121 #[.slice A0 l0.length c0] ?_; (with_reducible refine (impl_usable.calls k _ _ l0 true _ ?side1 ?side2 A3.out).mono ?_); (case side1 => repeat (first | exact HR0.out | (with_reducible refine Kd.C_alloc ?_ _) | (with_reducible refine Kd.C_drewN ?_ _) | (with_reducible refine Kd.C_drew ?_))); (case side2 => exact HC0.out); rintro e w' ⟨rfl, ⟨nd, rfl⟩⟩; refine ⟨_, rfl, ?_⟩) | (go_at_call 77; (with_reducible refine (impl_within.calls a1 0 1000000 false _ A5.out).mono ?_); rintro e w' ⟨rfl, ⟨nd, rfl⟩⟩))
   go_ret
   exact ⟨er_, bl_ HB.out⟩
 ·obtain rfl := Bool.eq_false_iff.mpr c4
  rw [if_neg nf_] at H
  obtain rfl := Option.some.inj H
  go_enter Try.func124, Try.ntmps124
  go_wp2_with (first | ((with_reducible refine gate_callee (f := 121) rfl ?_); refine gl_ 7 Try.func121 #[.slice A0 l0.length c0] ?_; (with_reducible refine (impl_usable.calls k _ _ l0 false _ ?side1 ?side2 A3.out).mono ?_); (case side1 => repeat (first | exact HR0.out | (with_reducible refine Kd.C_alloc ?_ _) | (with_reducible refine Kd.C_drewN ?_ _) | (with_reducible refine Kd.C_drew ?_))); (case side2 => exact HC0.out); rintro e w' ⟨rfl, ⟨nd, rfl⟩⟩; refine ⟨_, rfl, ?_⟩))
  go_ret
  exact ⟨er_, bl_ HB.out⟩
mutual
def impl_IsSemigroup.j0 : Nat → List Int → Bool → Option (Bool)
 | 0, _, _ => none
 | k + 1, x3, x27 => if x27 = true then (some false) else (impl_IsSemigroup.l0 k x3 1)
def impl_IsSemigroup.l0 : Nat → List Int → Int → Option (Bool)
 | 0, _, _ => none
 | k + 1, x3, x4 => if x4 < (x3.length : Int) then (if 0 ≤ x4 then (if x4 ≤ (x3.length : Int) then ((impl_Generates.f k (x3.take (x4 : Int).toNat) (rd x3 x4)).bind fun t293 => (if t293 = true then (some false) else (impl_IsSemigroup.l0 k x3 (wrap64 (x4 + 1))))) else (none)) else (none)) else (if 0 < (x3.length : Int) then ((impl_leasts.f k x3 (rd x3 0)).bind fun t295 => (impl_IsSemigroup.l1 k x3 t295 (t295.length : Int) 0)) else (none))
def impl_IsSemigroup.l1 : Nat → List Int → List Int → Int → Int → Option (Bool)
 | 0, _, _, _, _ => none
 | k + 1, x3, x46, x47, x48 => if x48 < x47 then (if 0 ≤ x48 then (if x48 < (x46.length : Int) then (if 0 < (x3.length : Int) then (if (wrap64 ((rd x46 x48) - (rd x3 0))) ≥ 200 then (some false) else (impl_IsSemigroup.l1 k x3 x46 x47 (wrap64 (x48 + 1)))) else (none)) else (none)) else (none)) else (some true)
end
def impl_IsSemigroup.f (k : Nat) (l0_0 : List Int) : Option (Bool) := (impl_within.f (l0_0.length : Int) 1 12).bind fun t287 => (if t287 = true then ((impl_allWithin.f k l0_0 1 60).bind fun t288 => (if t288 = true then ((impl_IsAscending.f k l0_0).bind fun t289 => (if t289 = true then ((impl_GcdOfList.f k l0_0).bind fun t290 => (impl_IsSemigroup.j0 k l0_0 (t290 != 1))) else (impl_IsSemigroup.j0 k l0_0 true))) else (impl_IsSemigroup.j0 k l0_0 true))) else (impl_IsSemigroup.j0 k l0_0 true))
def impl_IsSemigroup.T7 : Bool × List (List Nat × List Nat) := (true, [([], []), ([], []), ([0, 1], [0, 1]), ([], []), ([], []), ([3, 4], [3, 4]), ([5], [5]), ([2, 6], [2, 6])])
def impl_IsSemigroup.B7 : List Nat := [0, 0, 3, 0, 0, 24, 56, 127]
theorem impl_IsSemigroup.tab7 : rtab .any (opsOf Try.f92 7) = impl_IsSemigroup.T7 := by kernel_rfl
theorem impl_IsSemigroup.bits7 : waitsOk impl_IsSemigroup.T7.2 impl_IsSemigroup.B7 = true := by kernel_rfl
theorem impl_IsSemigroup.calls (k : Nat) (A0_0 : Option Addr) (c0_0 : Nat) (l0_0 : List Int) (r : Bool) (w : World) (hr0_0 : Kd.C (Kd.int .i64) w A0_0 l0_0.length l0_0) (hc0_0 : l0_0.length ≤ c0_0) (h : impl_IsSemigroup.f k l0_0 = some r) :
 Calls Try.prog 92 #[.agg #[.slice A0_0 l0_0.length c0_0]] w fun e w' => e = .returned (.bool r) ∧ Below w.heap.size w w' := by
 have hu41 := Try.underlying41
 have HR0_0 := Aside0.mk hr0_0
 have HC0_0 := Aside0.mk hc0_0
 clear hr0_0 hc0_0
 have HB := Aside0.mk (Below.refl w.heap.size w)
 have H := h
 clear h
 unfold impl_IsSemigroup.f at H
 have HC2 := Aside0.mk H
 clear H
 go_enter Try.func92, Try.ntmps92
 go_upto_region 2 with (first | ((with_reducible refine gate_dst (N := 1) rfl ?_); refine be_ 1 #[.slice A0_0 l0_0.length c0_0] 41 fun gb286 hg w3 hbox hb => ?_; have BK286 := Aside0.mk (hbox); have GW286 := ge_ hg HB; have GE286 := ge_ hg HB; replace HB := bs_ HB hb; clear hb hbox hg; have hcz4_0 := bc_ BK286; have hfz4_0 := blk_frozen BK286.out 0))
 (try simp only [Act.put, List.setIfInBounds_toArray, List.set_cons_zero, List.set_cons_succ])
 go_cut [27] (fun v27 wc => ∃ (kq : Nat) (x27_1 : Bool), v27 = .bool x27_1 ∧ Aside0 (impl_IsSemigroup.j0 kq l0_0 x27_1 = some r) ∧ Aside0 (kq ≤ k) ∧ Aside0 (wc.heap[gb286]? = some (.cells #[(.slice A0_0 l0_0.length c0_0)] 41 (0, 0))) ∧ Aside0 (Below w.heap.size w wc))
 case first =>
  have H := HC2.out
  clear HC2
  obtain ⟨t287, A5, H⟩ := ob_ H
  (try dsimp only at H)
  by_cases c6 : t287 = true
  ·subst c6
   rw [if_pos rfl] at H
   obtain ⟨t288, A7, H⟩ := ob_ H
   (try dsimp only at H)
   by_cases c8 : t288 = true
   ·subst c8
    rw [if_pos rfl] at H
    obtain ⟨t289, A9, H⟩ := ob_ H
    (try dsimp only at H)
    by_cases c10 : t289 = true
    ·subst c10
     rw [if_pos rfl] at H
     obtain ⟨t290, A11, H⟩ := ob_ H
     (try dsimp only at H)
     have H' := Aside0.mk H
     clear H
     go_wp2_with (first | ((with_reducible refine gate_callee (f := 77) rfl ?_); refine gl_ 11 Try.func77 #[.int .i64 (l0_0.length : Int), .int .i64 1, .int .i64 12] ?_; (with_reducible refine (impl_within.calls (l0_0.length : Int) 1 12 true _ A5.out).mono ?_); rintro e w' ⟨rfl, ⟨nd, rfl⟩⟩; refine ⟨_, rfl, ?_⟩) | (go_at_call 88; (with_reducible refine (impl_allWithin.calls k _ _ l0_0 1 60 true _ ?side1 ?side2 A7.out).mono ?_); (case side1 => exact cs_ HR0_0 HB); (case side2 => exact HC0_0.out); rintro e w' ⟨rfl, ⟨nd, rfl⟩⟩) | (go_at_call 89; (with_reducible refine (impl_IsAscending.calls k _ _ l0_0 true _ ?side1 ?side2 A9.out).mono ?_); (case side1 => exact cs_ HR0_0 HB); (case side2 => exact HC0_0.out); rintro e w' ⟨rfl, ⟨nd, rfl⟩⟩) | (go_at_call 122; (with_reducible refine (impl_GcdOfList.calls k _ _ l0_0 t290 _ ?side1 ?side2 A11.out).mono ?_); (case side1 => exact cs_ HR0_0 HB); (case side2 => exact HC0_0.out); rintro e w12 ⟨rfl, hb⟩; replace BK286 := bb_ BK286 hb; replace HB := bs_ HB hb; (try clear hb); (try clear hb2); (try clear hk); (try clear hi)))
     go_meet
     case rel => exact ⟨_, ((t290 != 1)), sd_, H', ⟨le_⟩, ⟨bk_ BK286.out⟩, ⟨bl_ HB.out⟩⟩
    ·obtain rfl := Bool.eq_false_iff.mpr c10
     rw [if_neg nf_] at H
     have H' := Aside0.mk H
     clear H
     go_wp2_with (first | ((with_reducible refine gate_callee (f := 77) rfl ?_); refine gl_ 11 Try.func77 #[.int .i64 (l0_0.length : Int), .int .i64 1, .int .i64 12] ?_; (with_reducible refine (impl_within.calls (l0_0.length : Int) 1 12 true _ A5.out).mono ?_); rintro e w' ⟨rfl, ⟨nd, rfl⟩⟩; refine ⟨_, rfl, ?_⟩) | (go_at_call 88; (with_reducible refine (impl_allWithin.calls k _ _ l0_0 1 60 true _ ?side1 ?side2 A7.out).mono ?_); (case side1 => exact cs_ HR0_0 HB); (case side2 => exact HC0_0.out); rintro e w' ⟨rfl, ⟨nd, rfl⟩⟩) | (go_at_call 89; (with_reducible refine (impl_IsAscending.calls k _ _ l0_0 false _ ?side1 ?side2 A9.out).mono ?_); (case side1 => exact cs_ HR0_0 HB); (case side2 => exact HC0_0.out); rintro e w' ⟨rfl, ⟨nd, rfl⟩⟩))
     go_meet
     case rel => exact ⟨_, (true), sd_, H', ⟨le_⟩, ⟨bk_ BK286.out⟩, ⟨bl_ HB.out⟩⟩
   ·obtain rfl := Bool.eq_false_iff.mpr c8
    rw [if_neg nf_] at H
    have H' := Aside0.mk H
    clear H
    go_wp2_with (first | ((with_reducible refine gate_callee (f := 77) rfl ?_); refine gl_ 11 Try.func77 #[.int .i64 (l0_0.length : Int), .int .i64 1, .int .i64 12] ?_; (with_reducible refine (impl_within.calls (l0_0.length : Int) 1 12 true _ A5.out).mono ?_); rintro e w' ⟨rfl, ⟨nd, rfl⟩⟩; refine ⟨_, rfl, ?_⟩) | (go_at_call 88; (with_reducible refine (impl_allWithin.calls k _ _ l0_0 1 60 false _ ?side1 ?side2 A7.out).mono ?_); (case side1 => exact cs_ HR0_0 HB); (case side2 => exact HC0_0.out); rintro e w' ⟨rfl, ⟨nd, rfl⟩⟩))
    go_meet
    case rel => exact ⟨_, (true), sd_, H', ⟨le_⟩, ⟨bk_ BK286.out⟩, ⟨bl_ HB.out⟩⟩
  ·obtain rfl := Bool.eq_false_iff.mpr c6
   rw [if_neg nf_] at H
   have H' := Aside0.mk H
   clear H
   go_wp2_with (first | ((with_reducible refine gate_callee (f := 77) rfl ?_); refine gl_ 11 Try.func77 #[.int .i64 (l0_0.length : Int), .int .i64 1, .int .i64 12] ?_; (with_reducible refine (impl_within.calls (l0_0.length : Int) 1 12 false _ A5.out).mono ?_); rintro e w' ⟨rfl, ⟨nd, rfl⟩⟩; refine ⟨_, rfl, ?_⟩))
   go_meet
   case rel => exact ⟨_, (true), sd_, H', ⟨le_⟩, ⟨bk_ BK286.out⟩, ⟨bl_ HB.out⟩⟩
 case rest =>
  clear HC2
  try clear c1
  try clear p2
  try clear c6
  try clear c7
  try clear c8
  try clear c9
  try clear c10
  try clear hcz4_0
  try clear hfz4_0
  obtain ⟨kq, x27_1, rfl, HA, HJ1, BK286, HB⟩ := hcut
  cases kq with
  | zero => exact absurd HA.out (by simp [impl_IsSemigroup.j0])
  | succ kj1 =>
   have H := HA.out
   clear HA
   simp only [impl_IsSemigroup.j0] at H
   by_cases c13 : x27_1 = true
   ·subst c13
    rw [if_pos rfl] at H
    obtain rfl := Option.some.inj H
    go_wp2
    go_ret
    exact ⟨er_, bl_ HB.out⟩
   ·obtain rfl := Bool.eq_false_iff.mpr c13
    rw [if_neg nf_] at H
    have H' := Aside0.mk H
    clear H
    go_wp2
    go_loopg [4] kj1 (fun kq v4 w' => ∃ (x4_2 : Int), v4 = .int .i64 x4_2 ∧ Aside0 (impl_IsSemigroup.l0 kq l0_0 x4_2 = some r) ∧ Aside0 (kq ≤ kj1) ∧ Aside0 (w'.heap[gb286]? = some (.cells #[(.slice A0_0 l0_0.length c0_0)] 41 (0, 0))) ∧ Aside0 (Below w.heap.size w w'))
    case atStart => exact ⟨(1), sd_, H', ⟨Nat.le_refl _⟩, ⟨bk_ BK286.out⟩, ⟨bl_ HB.out⟩⟩
    case round =>
     clear H'
     try clear c1
     try clear p2
     try clear c6
     try clear c7
     try clear c8
     try clear c9
     try clear c10
     try clear c13
     try clear hcz4_0
     try clear hfz4_0
     try clear p2
     obtain ⟨x4_2, rfl, HA, HK2, BK286, HB⟩ := hrel
     cases gk with
     | zero => exact absurd HA.out (by simp [impl_IsSemigroup.l0])
     | succ k2 =>
      have H := HA.out
      clear HA
      simp only [impl_IsSemigroup.l0] at H
      by_cases c14 : x4_2 < (l0_0.length : Int)
      ·rw [if_pos c14] at H
       have c14b0 : decide (x4_2 < (l0_0.length : Int)) = true := decide_eq_true c14
       clear c14
       by_cases c15 : 0 ≤ x4_2
       ·rw [if_pos c15] at H
        have c15b0 := eq_true c15
        have c15b1 : decide (0 ≤ x4_2) = true := decide_eq_true c15
        clear c15
        by_cases c16 : x4_2 ≤ (l0_0.length : Int)
        ·rw [if_pos c16] at H
         have c16b0 := eq_true c16
         have c16b1 : decide (x4_2 ≤ (l0_0.length : Int)) = true := decide_eq_true c16
         clear c16
         obtain ⟨t293, A17, H⟩ := ob_ H
         (try dsimp only at H)
         by_cases c18 : t293 = true
         ·subst c18
          rw [if_pos rfl] at H
          obtain rfl := Option.some.inj H
          try go_wp2
          replace BK286 := Aside0.mk (blk_drew BK286.out)
          replace HB := Aside0.mk (below_drew1 HB.out)
          obtain ⟨i020, hi020, _, hsz20, _⟩ := info_parts info3
          obtain ⟨hcut20, hA20, hC20⟩ := print_take_of (P := Try.prog) (Value.int .i64) 0 22 3 .i64 Try.underlying22 hi020 hsz20 A0_0 c0_0 l0_0 x4_2 (od_) (od_) HC0_0.out
          have HR291 := Aside0.mk (Kd.C_of_reads (h1 := fun _ => rfl) (hA20 _ (Kd.reads_of_C HR0_0.out)))
          have HC291 := Aside0.mk hC20
          clear hA20 hC20 hi020 hsz20
          have p292 : 0 ≤ (x4_2 : Int) := od_
          have q292 : x4_2 < (l0_0.length : Int) := od_
          obtain ⟨ad292, e292, hx292_0⟩ := Kd.at_int HR0_0.out x4_2 p292 q292
          have hw292_0 := hx292_0
          cases e292
          replace hx292_0 := (HB.out.cell (World.block_lt_of_cell? w _ hx292_0)).trans hx292_0
          replace p292 := eq_true p292
          replace q292 := eq_true q292
          refine start_ (n := 8) (S := fun w' => w'.cell? (ad292.add (x4_2).toNat) = some (.int .i64 (rd l0_0 x4_2))) (ds := []) (fl_ 8 0) (by kernel_rfl) rfl rfl (((HB.out.cell (World.block_lt_of_cell? w _ hw292_0)).trans hw292_0)) (fun hHeld => ?_); refine with_tabW impl_IsSemigroup.tab7 impl_IsSemigroup.bits7 (fun HT_ HW_ => ?_)
          generalize wr.drew = w19 at BK286 HB HR291 hx292_0 hHeld ⊢
          refine pu_ 0 34 (fl_ 8 1) ?_
          refine pu_ 1 35 (fl_ 8 2) ?_
          refine pu_ 2 36 (fl_ 8 3) ?_
          refine pu_ 3 37 (fl_ 8 4) ?_
          refine pu_ 4 38 (fl_ 8 5) ?_
          refine pu_ 5 39 (fl_ 8 6) ?_
          refine ta_ 6 40 (fl_ 8 7) ?_
          refine on_ 7 41 (fl_ 8 8) fun K hK => ?_
          refine goes_ Try.func124 (by kernel_rfl) rfl #[.slice (some ad292) (l0_0.take (x4_2 : Int).toNat).length c0_0, .int .i64 (rd l0_0 x4_2)] (by rfl) rfl rfl (by (try simp only [List.map_toArray, List.map_cons, List.map_nil]); first | done | (rw [show (l0_0.take (x4_2 : Int).toNat).length = x4_2.toNat from (by rw [List.length_take]; have h_ : (x4_2 : Int) ≤ (l0_0.length : Int) := od_; omega)] <;> rfl) | rfl | (simp only [List.length_drop, List.length_take]; rfl)) ?_
          with_reducible refine (impl_Generates.calls k2 _ _ (l0_0.take (x4_2 : Int).toNat) (rd l0_0 x4_2) true _ ?side1 ?side2 A17.out).mono ?_
          (case side1 => exact cs_ HR291 HB)
          (case side2 => exact HC291.out)
          rintro e w21 ⟨rfl, hb⟩
          refine ⟨_, rfl, ?_⟩
          replace BK286 := bb_ BK286 hb
          replace HB := bs_ HB hb
          (try clear hb)
          (try clear hb2)
          (try clear hk)
          (try clear hi)
          refine hK.out _ _ (((HB.out.cell (World.block_lt_of_cell? w _ hw292_0)).trans hw292_0)) (fun hHeld => ?_)
          clear hK K
          refine no_ 41 ?_
          refine done_ (done_of HT_.out (by kernel_rfl)) ?_
          try go_wp2
          go_ret
          exact ⟨er_, bl_ HB.out⟩
         ·obtain rfl := Bool.eq_false_iff.mpr c18
          rw [if_neg nf_] at H
          have H' := Aside0.mk H
          clear H
          try go_wp2
          replace BK286 := Aside0.mk (blk_drew BK286.out)
          replace HB := Aside0.mk (below_drew1 HB.out)
          obtain ⟨i023, hi023, _, hsz23, _⟩ := info_parts info3
          obtain ⟨hcut23, hA23, hC23⟩ := print_take_of (P := Try.prog) (Value.int .i64) 0 22 3 .i64 Try.underlying22 hi023 hsz23 A0_0 c0_0 l0_0 x4_2 (od_) (od_) HC0_0.out
          have HR291 := Aside0.mk (Kd.C_of_reads (h1 := fun _ => rfl) (hA23 _ (Kd.reads_of_C HR0_0.out)))
          have HC291 := Aside0.mk hC23
          clear hA23 hC23 hi023 hsz23
          have p292 : 0 ≤ (x4_2 : Int) := od_
          have q292 : x4_2 < (l0_0.length : Int) := od_
          obtain ⟨ad292, e292, hx292_0⟩ := Kd.at_int HR0_0.out x4_2 p292 q292
          have hw292_0 := hx292_0
          cases e292
          replace hx292_0 := (HB.out.cell (World.block_lt_of_cell? w _ hx292_0)).trans hx292_0
          replace p292 := eq_true p292
          replace q292 := eq_true q292
          refine start_ (n := 8) (S := fun w' => w'.cell? (ad292.add (x4_2).toNat) = some (.int .i64 (rd l0_0 x4_2))) (ds := []) (fl_ 8 0) (by kernel_rfl) rfl rfl (((HB.out.cell (World.block_lt_of_cell? w _ hw292_0)).trans hw292_0)) (fun hHeld => ?_); refine with_tabW impl_IsSemigroup.tab7 impl_IsSemigroup.bits7 (fun HT_ HW_ => ?_)
          generalize wr.drew = w22 at BK286 HB HR291 hx292_0 hHeld ⊢
          refine pu_ 0 34 (fl_ 8 1) ?_
          refine pu_ 1 35 (fl_ 8 2) ?_
          refine pu_ 2 36 (fl_ 8 3) ?_
          refine pu_ 3 37 (fl_ 8 4) ?_
          refine pu_ 4 38 (fl_ 8 5) ?_
          refine pu_ 5 39 (fl_ 8 6) ?_
          refine ta_ 6 40 (fl_ 8 7) ?_
          refine on_ 7 41 (fl_ 8 8) fun K hK => ?_
          refine goes_ Try.func124 (by kernel_rfl) rfl #[.slice (some ad292) (l0_0.take (x4_2 : Int).toNat).length c0_0, .int .i64 (rd l0_0 x4_2)] (by rfl) rfl rfl (by (try simp only [List.map_toArray, List.map_cons, List.map_nil]); first | done | (rw [show (l0_0.take (x4_2 : Int).toNat).length = x4_2.toNat from (by rw [List.length_take]; have h_ : (x4_2 : Int) ≤ (l0_0.length : Int) := od_; omega)] <;> rfl) | rfl | (simp only [List.length_drop, List.length_take]; rfl)) ?_
          with_reducible refine (impl_Generates.calls k2 _ _ (l0_0.take (x4_2 : Int).toNat) (rd l0_0 x4_2) false _ ?side1 ?side2 A17.out).mono ?_
          (case side1 => exact cs_ HR291 HB)
          (case side2 => exact HC291.out)
          rintro e w24 ⟨rfl, hb⟩
          refine ⟨_, rfl, ?_⟩
          replace BK286 := bb_ BK286 hb
          replace HB := bs_ HB hb
          (try clear hb)
          (try clear hb2)
          (try clear hk)
          (try clear hi)
          refine hK.out _ _ (((HB.out.cell (World.block_lt_of_cell? w _ hw292_0)).trans hw292_0)) (fun hHeld => ?_)
          clear hK K
          refine no_ 41 ?_
          refine done_ (done_of HT_.out (by kernel_rfl)) ?_
          try go_wp2
          go_roundg k2
          case measure => have := HJ1.out; have := HK2.out; omega
          case rel => exact ⟨(wrap64 (x4_2 + 1)), sd_, H', ⟨by have := HJ1.out; have := HK2.out; omega⟩, ⟨bk_ BK286.out⟩, ⟨bl_ HB.out⟩⟩
        ·rw [if_neg c16] at H
         exact absurd H (by simp)
       ·rw [if_neg c15] at H
        exact absurd H (by simp)
      ·rw [if_neg c14] at H
       have c14b0 : decide (x4_2 < (l0_0.length : Int)) = false := decide_eq_false c14
       clear c14
       by_cases c25 : 0 < (l0_0.length : Int)
       ·rw [if_pos c25] at H
        have c25b0 : decide (0 < (l0_0.length : Int)) = true := decide_eq_true c25
        have c25b1 : decide (0 < l0_0.length) = true := decide_eq_true (by omega)
        clear c25
        obtain ⟨t295, A26, H⟩ := ob_ H
        (try dsimp only at H)
        have H' := Aside0.mk H
        clear H
        have p294 : 0 ≤ (0 : Int) := (by omega)
        have q294 : 0 < (l0_0.length : Int) := od_
        obtain ⟨ad294, e294, hx294_0⟩ := Kd.at_int HR0_0.out 0 p294 q294
        cases e294
        have qi294 : (0 < l0_0.length) = True := eq_true (by omega)
        (try rw [show ((0 : Int)).toNat = 0 from rfl] at hx294_0)
        (try rw [Addr.add_zero'] at hx294_0)
        replace hx294_0 := (HB.out.cell (World.block_lt_of_cell? w _ hx294_0)).trans hx294_0
        replace p294 := eq_true p294
        replace q294 := eq_true q294
        go_wp2_with (first | ((with_reducible refine gate_callee (f := 133) rfl ?_); refine gl_ 46 Try.func133 #[.slice (some ad294) l0_0.length c0_0, .int .i64 (rd l0_0 0)] ?_; (with_reducible refine (impl_leasts.calls k2 _ _ l0_0 (rd l0_0 0) t295 _ ?side1 ?side2 A26.out).mono ?_); (case side1 => exact cs_ HR0_0 HB); (case side2 => exact HC0_0.out); rintro e w27 ⟨v296, rfl, ho0, hb⟩; refine ⟨_, rfl, ?_⟩; have HO297 := rl_ ho0 HB; replace BK286 := bb_ BK286 hb; replace HB := bs_ HB hb; (try clear hb); (try clear hb2); (try clear hk); (try clear hi); (try clear ho0); obtain ⟨Ao28, co28, eo28⟩ := Kd.R_slice HO297.out; subst eo28))
        go_loopg [48] k2 (fun kq v48 w' => ∃ (x48_3 : Int), v48 = .int .i64 x48_3 ∧ Aside0 (impl_IsSemigroup.l1 kq l0_0 t295 (t295.length : Int) x48_3 = some r) ∧ Aside0 (kq ≤ k2) ∧ Aside0 (Kd.R (Kd.int .i64) 3 w' w.heap.size (fun _ => True) (.slice Ao28 t295.length co28) t295) ∧ Aside0 (w'.heap[gb286]? = some (.cells #[(.slice (some ad294) l0_0.length c0_0)] 41 (0, 0))) ∧ Aside0 (Below w.heap.size w w'))
        case atStart => exact ⟨(0), sd_, H', ⟨Nat.le_refl _⟩, ⟨kr_ HO297.out⟩, ⟨bk_ BK286.out⟩, ⟨bl_ HB.out⟩⟩
        case round =>
         clear H'
         try clear c1
         try clear c2
         try clear p2
         try clear q2
         try clear hx2
         try clear qi2
         try clear c6
         try clear p6
         try clear c7
         try clear c8
         try clear c9
         try clear c10
         try clear c12
         try clear c13
         try clear c14
         skip
         try clear c15
         try clear c15b0
         try clear c15b1
         try clear c16
         try clear c16b0
         try clear c16b1
         try clear c18
         try clear c25
         try clear c25b0
         try clear c25b1
         try clear hcz4_0
         try clear hfz4_0
         try clear hx292_0
         try clear hx294_0
         try clear p2
         try clear p292
         try clear p294
         try clear q292
         try clear q294
         obtain ⟨x48_3, rfl, HA, HK3, HO_46, BK286, HB⟩ := hrel
         cases gk with
         | zero => exact absurd HA.out (by simp [impl_IsSemigroup.l1])
         | succ k3 =>
          have H := HA.out
          clear HA
          simp only [impl_IsSemigroup.l1] at H
          by_cases c29 : x48_3 < (t295.length : Int)
          ·rw [if_pos c29] at H
           have c29b0 : decide (x48_3 < (t295.length : Int)) = true := decide_eq_true c29
           clear c29
           by_cases c30 : 0 ≤ x48_3
           ·rw [if_pos c30] at H
            have c30b0 : decide (0 ≤ x48_3) = true := decide_eq_true c30
            clear c30
            by_cases c31 : x48_3 < (t295.length : Int)
            ·rw [if_pos c31] at H
             have c31b0 : decide (x48_3 < (t295.length : Int)) = true := decide_eq_true c31
             clear c31
             by_cases c32 : 0 < (l0_0.length : Int)
             ·rw [if_pos c32] at H
              have c32b0 : decide (0 < (l0_0.length : Int)) = true := decide_eq_true c32
              have c32b1 : decide (0 < l0_0.length) = true := decide_eq_true (by omega)
              clear c32
              by_cases c33 : (wrap64 ((rd t295 x48_3) - (rd l0_0 0))) ≥ 200
              ·rw [if_pos c33] at H
               have c33b0 : decide (200 ≤ (wrap64 ((rd t295 x48_3) - (rd l0_0 0)))) = true := decide_eq_true c33
               clear c33
               obtain rfl := Option.some.inj H
               have p298 : 0 ≤ (x48_3 : Int) := od_
               have q298 : x48_3 < (t295.length : Int) := od_
               obtain ⟨ad298, e298, hx298_0⟩ := Kd.at_int (Kd.R_reads' HO_46.out).2.2 x48_3 p298 q298
               cases e298
               replace p298 := eq_true p298
               replace q298 := eq_true q298
               have p299 : 0 ≤ (0 : Int) := (by omega)
               have q299 : 0 < (l0_0.length : Int) := od_
               obtain ⟨ad299, e299, hx299_0⟩ := Kd.at_int HR0_0.out 0 p299 q299
               obtain rfl : ad294 = ad299 := (by injection e299)
               have qi299 : (0 < l0_0.length) = True := eq_true (by omega)
               (try rw [show ((0 : Int)).toNat = 0 from rfl] at hx299_0)
               (try rw [Addr.add_zero'] at hx299_0)
               replace hx299_0 := (HB.out.cell (World.block_lt_of_cell? w _ hx299_0)).trans hx299_0
               replace p299 := eq_true p299
               replace q299 := eq_true q299
               go_wp2
               go_ret
               exact ⟨er_, bl_ HB.out⟩
              ·rw [if_neg c33] at H
               have c33b0 : decide (200 ≤ (wrap64 ((rd t295 x48_3) - (rd l0_0 0)))) = false := decide_eq_false c33
               clear c33
               have H' := Aside0.mk H
               clear H
               have p298 : 0 ≤ (x48_3 : Int) := od_
               have q298 : x48_3 < (t295.length : Int) := od_
               obtain ⟨ad298, e298, hx298_0⟩ := Kd.at_int (Kd.R_reads' HO_46.out).2.2 x48_3 p298 q298
               cases e298
               replace p298 := eq_true p298
               replace q298 := eq_true q298
               have p299 : 0 ≤ (0 : Int) := (by omega)
               have q299 : 0 < (l0_0.length : Int) := od_
               obtain ⟨ad299, e299, hx299_0⟩ := Kd.at_int HR0_0.out 0 p299 q299
               obtain rfl : ad294 = ad299 := (by injection e299)
               have qi299 : (0 < l0_0.length) = True := eq_true (by omega)
               (try rw [show ((0 : Int)).toNat = 0 from rfl] at hx299_0)
               (try rw [Addr.add_zero'] at hx299_0)
               replace hx299_0 := (HB.out.cell (World.block_lt_of_cell? w _ hx299_0)).trans hx299_0
               replace p299 := eq_true p299
               replace q299 := eq_true q299
               go_wp2
               go_roundg k3
               case measure => have := HJ1.out; have := HK2.out; have := HK3.out; omega
               case rel => exact ⟨(wrap64 (x48_3 + 1)), sd_, H', ⟨by have := HJ1.out; have := HK2.out; have := HK3.out; omega⟩, ⟨kr_ HO_46.out⟩, ⟨bk_ BK286.out⟩, ⟨bl_ HB.out⟩⟩
             ·rw [if_neg c32] at H
              exact absurd H (by simp)
            ·rw [if_neg c31] at H
             exact absurd H (by simp)
           ·rw [if_neg c30] at H
            exact absurd H (by simp)
          ·rw [if_neg c29] at H
           have c29b0 : decide (x48_3 < (t295.length : Int)) = false := decide_eq_false c29
           clear c29
           obtain rfl := Option.some.inj H
           go_wp2
           go_ret
           exact ⟨er_, bl_ HB.out⟩
       ·rw [if_neg c25] at H
        exact absurd H (by simp)
def slices_Sort_int_int.f (l0 : List Int) : Option (List Int) := if l0.length < 4611686018427387904 then some (l0.mergeSort fun x y => decide (x ≤ y)) else none
theorem slices_Sort_int_int.calls (P0_ : Nat → Prop) (u9000_ : Value) (l0 : List Int) (r : List Int) (w0 w : World) (hB : Below w0.heap.size w0 w) (ho0 : Kd.R (Kd.int .i64) 3 w w0.heap.size P0_ u9000_ l0) (h : slices_Sort_int_int.f l0 = some r) :
 Calls Try.prog 151 #[u9000_] w fun e w' => e = .returned (.tuple #[]) ∧ Kd.R (Kd.int .i64) 3 w' w0.heap.size (fun k_ => (P0_ k_ ∨ w.heap.size ≤ k_)) u9000_ r ∧ Below w0.heap.size w0 w' ∧ Kept w w' (fun k_ => P0_ k_) := by
 unfold slices_Sort_int_int.f at h
 split at h
 ·rename_i hl
  have hr := Option.some.inj h
  rcases SortW.R_cases ho0 with ⟨hu, hn⟩ | ⟨g, cap, hu, hg, h1, h2⟩
  ·subst hu hn
   refine (Try.slices_Sort_int_none none 0 w).mono ?_
   rintro e w' ⟨rfl, rfl⟩
   exact ⟨rfl, by subst hr; simpa using SortW.R_or ho0, hB, Kept.refl _ _⟩
  ·subst hu
   refine (Try.slices_Sort_int g 0 cap l0 w (SortW.holds_R ho0) hg hl).mono ?_
   rintro e w' ⟨rfl, n, os, rfl⟩
   have hd : (l0.mergeSort fun x y => decide (x ≤ y)).length = l0.length := List.length_mergeSort _
   have := SortW.put_R ho0 (l0.mergeSort fun x y => decide (x ≤ y)) r hd (by rw [← hr]; exact Nat.le_refl _) (by rw [← hr]; exact List.take_of_length_le (Nat.le_refl _)) n os
   rw [show r.length = l0.length by rw [← hr]; exact hd] at this
   exact ⟨rfl, this, SortW.put_below hB ho0 _ n os, SortW.put_kept ho0 _ n os⟩
 ·cases h
def slices_Compact_int_int.f (l0 : List Int) : Option (List Int) := some (Lib.compact l0)
theorem slices_Compact_int_int.calls (P0_ : Nat → Prop) (u9000_ : Value) (l0 : List Int) (r : List Int) (w0 w : World) (hB : Below w0.heap.size w0 w) (ho0 : Kd.R (Kd.int .i64) 3 w w0.heap.size P0_ u9000_ l0) (h : slices_Compact_int_int.f l0 = some r) :
 Calls Try.prog 152 #[u9000_] w fun e w' => ∃ v0_ : Value, e = .returned (v0_) ∧ Kd.R (Kd.int .i64) 3 w' w0.heap.size (fun k_ => (P0_ k_ ∨ w.heap.size ≤ k_)) v0_ r ∧ Below w0.heap.size w0 w' ∧ Kept w w' (fun k_ => P0_ k_) := by
 obtain rfl := Option.some.inj h
 have hle := SortW.compact_le l0
 rcases SortW.R_cases ho0 with ⟨hu, hn⟩ | ⟨g, cap, hu, hg, h1, h2⟩
 ·subst hu hn
  refine (Try.slices_Compact_int_empty none 0 w).mono ?_
  rintro e w' ⟨rfl, rfl⟩
  exact ⟨_, rfl, SortW.R_or ho0, hB, Kept.refl _ _⟩
 ·subst hu
  refine (Try.slices_Compact_int g 0 cap l0 w (SortW.holds_R ho0) (by unfold maxLen at h2; omega) h1).mono ?_
  rintro e w' ⟨rfl, n, rfl⟩
  have hd : (Lib.compact l0 ++ List.replicate (l0.length - (Lib.compact l0).length) 0).length = l0.length := by simp; omega
  have := SortW.put_R ho0 _ (Lib.compact l0) hd (by simp) (by simp) n #[]
  rw [Go.Sort.grow_empty] at this
  have hb := SortW.put_below hB ho0 (Lib.compact l0 ++ List.replicate (l0.length - (Lib.compact l0).length) 0) n #[]
  have hk := SortW.put_kept ho0 (Lib.compact l0 ++ List.replicate (l0.length - (Lib.compact l0).length) 0) n #[]
  rw [Go.Sort.grow_empty] at hb hk
  exact ⟨_, rfl, this, hb, hk⟩
def impl_SortList.f (l0 : List Int) : Option (List Int) := (some (([] : List Int) : List Int)).bind fun y300 => (if y300.length + l0.length < 17592186044416 then ((slices_Sort_int_int.f (y300 ++ l0)).bind fun t306 => ((slices_Compact_int_int.f t306).bind fun t307 => (some t307))) else (none))
theorem impl_SortList.calls (A0 : Option Addr) (c0 : Nat) (l0 : List Int) (r : List Int) (w : World) (hr0 : Kd.C (Kd.int .i64) w A0 l0.length l0) (hc0 : l0.length ≤ c0) (h : impl_SortList.f l0 = some r) :
 Calls Try.prog 141 #[.slice A0 l0.length c0] w fun e w' => ∃ v0_ : Value, e = .returned (v0_) ∧ Kd.R (Kd.int .i64) 3 w' w.heap.size (fun _ => True) v0_ r ∧ Below w.heap.size w w' := by
 have HR0 := Aside0.mk hr0
 have HC0 := Aside0.mk hc0
 clear hr0 hc0
 have HB := Aside0.mk (Below.refl w.heap.size w)
 have H := h
 clear h
 unfold impl_SortList.f at H
 obtain ⟨y300, hy300⟩ : ∃ y_ : List Int, y_ = (([] : List Int)) := ⟨_, rfl⟩
 replace H : (if y300.length + l0.length < 17592186044416 then ((slices_Sort_int_int.f (y300 ++ l0)).bind fun t306 => ((slices_Compact_int_int.f t306).bind fun t307 => (some t307))) else (none)) = some r := hr_ hy300 H
 have Ny300 := Aside0.mk hy300
 clear hy300
 by_cases c2 : y300.length + l0.length < 17592186044416
 ·rw [if_pos c2] at H
  have LMc2 := Aside0.mk c2
  clear c2
  obtain ⟨y303, hy303⟩ : ∃ y_ : List Int, y_ = (y300 ++ l0) := ⟨_, rfl⟩
  replace H : ((slices_Sort_int_int.f y303).bind fun t306 => ((slices_Compact_int_int.f t306).bind fun t307 => (some t307))) = some r := hr_ hy303 H
  have Ny303 := Aside0.mk hy303
  clear hy303
  obtain ⟨t306, A3, H⟩ := ob_ H
  (try dsimp only at H)
  obtain ⟨t307, A4, H⟩ := ob_ H
  (try dsimp only at H)
  obtain rfl := Option.some.inj H
  go_enter Try.func141, Try.ntmps141
  go_wp2_with (first | ((with_reducible refine gate_dst (N := 4) rfl ?_); refine Kd.R_lit (Kd.int .i64) _ 3 ?hg (N := 4) ?hd (xs := ([] : List Int)) (inner := []) (ok := fun _ => True) (okp := fun _ => True) ?hr ?hp (fun _ hk => hk) trivial (Below.refl _ _) (Nat.le_refl _) (by simp) ?_; (case hd => rfl); (case hg => rfl); (case hr => first | (go_simp; done) | (go_simp; rfl)); (case hp => exact (Reps.none _ _)); intro v301 w5 ho6 hb hg_ hnew_; clear hg_ hnew_; (first | rw [← Ny300.out] at ho6 | (simp only [Int.reduceToNat] at ho6; rw [← Ny300.out] at ho6)); have HO302 := rl_ ho6 HB; replace HB := bs_ HB hb; clear hb ho6) | ((with_reducible refine gate_builtin (b := .append) (xs := #[.tmp 4, .tmp 5]) rfl ?_); at_builtin; refine Kd.R_append_rows (Kd.int .i64) (w0 := w) w.heap.size rfl (.tmp 4) (.tmp 5) 22 3 (.int .i64 0) 8 rfl Try.underlying22 info3 rfl (by decide) (by omega) v301 y300 l0 _ _ _ (fun _ => True) (fun _ => False) rfl rfl ?aO ?aR (fun _ _ h => h) (fun _ h => h.elim) ?aF ?aB ?aS ?aL ?_; (case aR => repeat (first | exact (Kd.C_below HR0.out HB.out) | (with_reducible refine Kd.C_alloc ?_ _) | (with_reducible refine Kd.C_drewN ?_ _) | (with_reducible refine Kd.C_drew ?_))); (case aB => exact (bl_ HB.out)); (case aF => exact (fun _ _ => trivial)); (case aO => exact (kr_ HO302.out)); (case aS => exact (below_size (bl_ HB.out))); (case aL => have := LMc2.out; omega); intro v304 w7 ho hb hg hat; rw [← Ny303.out] at ho; have n0_ := Aside0.mk (hb); have n1_ := Aside0.mk (ho); clear HB; clear HO302; have HB := n0_; have HO305 := n1_; clear n0_ n1_; clear ho hb hg hat; obtain ⟨Ao8, co8, eo8⟩ := Kd.R_slice HO305.out; subst eo8) | ((with_reducible refine gate_callee (f := 151) rfl ?_); refine gl_ 8 Try.func151 #[.slice Ao8 y303.length co8] ?_; (with_reducible refine (slices_Sort_int_int.calls (fun k_ => some k_ = (.slice Ao8 y303.length co8 : Value).ownBlock) (.slice Ao8 y303.length co8) y303 t306 w _ ?side1 ?side2 A3.out).mono ?_); (case side1 => exact bl_ HB.out); (case side2 => exact Kd.R_tight rfl HO305.out); rintro e w9 ⟨rfl, hy0, hb, hkp⟩; refine ⟨_, rfl, ?_⟩; replace HO305 := Aside0.mk (Kd.R_reok rfl hy0 (fun k_ e_ => HO305.out.1 k_ e_)); replace HB := Aside0.mk (hb); (try clear hb); (try clear hkp); (try clear hy0)) | ((with_reducible refine gate_callee (f := 152) rfl ?_); refine gl_ 10 Try.func152 #[.slice Ao8 y303.length co8] ?_; (with_reducible refine (slices_Compact_int_int.calls (fun k_ => some k_ = (.slice Ao8 y303.length co8 : Value).ownBlock) (.slice Ao8 y303.length co8) t306 t307 w _ ?side1 ?side2 A4.out).mono ?_); (case side1 => exact bl_ HB.out); (case side2 => exact Kd.R_tight rfl HO305.out); rintro e w10 ⟨v308, rfl, ho0, hb, hkp⟩; refine ⟨_, rfl, ?_⟩; have n0_ := Aside0.mk (Kd.R_mono (ok' := fun k_ => True) ho0 (fun k_ hk_ => trivial)); have n1_ := Aside0.mk (hb); clear HB; clear HO305; have HO309 := n0_; have HB := n1_; clear n0_ n1_; (try clear hb); (try clear hkp); (try clear ho0)))
  go_ret
  exact ⟨_, er_, kr_ HO309.out, bl_ HB.out⟩
 ·rw [if_neg c2] at H
  exact absurd H (by simp)
end Go.Proofs.Ytbjbolblahlhcaa.PFnGlued
end
