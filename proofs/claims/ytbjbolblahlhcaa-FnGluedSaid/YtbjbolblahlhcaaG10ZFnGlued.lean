/- Part 10 of the claim for FnGlued, of the chain from the printed contracts and the plain laws to the row. It has no condition of its own. -/
import Derived.Test.YtbjbolblahlhcaaG1ZFnGlued
import Derived.Test.YtbjbolblahlhcaaG3ZFnGlued
import Derived.Test.YtbjbolblahlhcaaG7ZFnGlued
import Derived.Test.YtbjbolblahlhcaaG9ZFnGlued
namespace Go.Proofs.Ytbjbolblahlhcaa.PFnGlued
open Go.RowKit Go.Proofs.YtbjbolblahlhcaaW.PrintWords Go.Proofs.YtbjbolblahlhcaaW.PrintLast Go.Proofs.YtbjbolblahlhcaaW.PrintMore
open Go.Proofs.Ytbjbolblahlhcaa.SortW (bk_ kr_ t_ f_)
open Go.Proofs.Ytbjbolblahlhcaa.SqW
attribute [local go_sem] max2_int min2_int max_two min_two max_three min_three max_four min_four
set_option maxHeartbeats 8000000
set_option maxRecDepth 100000
set_option linter.unusedVariables false
set_option linter.unusedSimpArgs false
def spec_Join.l0 : Nat → List ByteArray → ByteArray → List Int → Int → Option (ByteArray)
 | 0, _, _, _, _ => none
 | k + 1, x0, x1, x5, x6 => if x6 < (x0.length : Int) then (if x6 > 0 then (if x5.length + x1.size < 140737488355328 then ((some (x5 ++ bytesOf x1 : List Int)).bind fun y596 => (if 0 ≤ x6 then (if y596.length + (rdOf ByteArray.empty x0 x6).size < 140737488355328 then (spec_Join.l0 k x0 x1 (y596 ++ bytesOf (rdOf ByteArray.empty x0 x6)) (wrap64 (x6 + 1))) else (none)) else (none))) else (none)) else (if 0 ≤ x6 then (if x5.length + (rdOf ByteArray.empty x0 x6).size < 140737488355328 then (spec_Join.l0 k x0 x1 (x5 ++ bytesOf (rdOf ByteArray.empty x0 x6)) (wrap64 (x6 + 1))) else (none)) else (none))) else (some (strOfNums x5))
def spec_Join.f (k : Nat) (l0 : List ByteArray) (a1 : ByteArray) : Option (ByteArray) := spec_Join.l0 k l0 a1 (([] : List Int)) 0
theorem spec_Join.calls (k : Nat) (A0 : Option Addr) (c0 : Nat) (l0 : List ByteArray) (a1 : ByteArray) (r : ByteArray) (w : World) (hr0 : Kd.C Kd.string w A0 l0.length l0) (hc0 : l0.length ≤ c0) (h : spec_Join.f k l0 a1 = some r) :
 Calls Try.prog 178 #[.slice A0 l0.length c0, .string a1] w fun e w' => e = .returned (.string r) ∧ Below w.heap.size w w' := by
 have HR0 := Aside0.mk hr0
 have HC0 := Aside0.mk hc0
 clear hr0 hc0
 have HB := Aside0.mk (Below.refl w.heap.size w)
 have H := h
 clear h
 unfold spec_Join.f at H
 obtain ⟨y593, hy593⟩ : ∃ y_ : List Int, y_ = (([] : List Int)) := ⟨_, rfl⟩
 replace H : (spec_Join.l0 k l0 a1 y593 0) = some r := hr_ hy593 H
 have Ny593 := Aside0.mk hy593
 clear hy593
 have H' := Aside0.mk H
 clear H
 go_enter Try.func178, Try.ntmps178
 go_wp2_with (first | ((with_reducible refine gate_dst (N := 7) rfl ?_); refine Kd.R_lit (Kd.int .u8) _ 5 ?hg (N := 7) ?hd (xs := ([] : List Int)) (inner := []) (ok := fun _ => True) (okp := fun _ => True) ?hr ?hp (fun _ hk => hk) trivial (Below.refl _ _) (Nat.le_refl _) (by simp) ?_; (case hd => rfl); (case hg => rfl); (case hr => first | (go_simp; done) | (go_simp; rfl)); (case hp => exact (Reps.none _ _)); intro v594 w3 ho4 hb hg_ hnew_; clear hg_ hnew_; (first | rw [← Ny593.out] at ho4 | (simp only [Int.reduceToNat] at ho4; rw [← Ny593.out] at ho4)); have HO595 := rl_ ho4 HB; replace HB := bs_ HB hb; clear hb ho4))
 go_loopg [5, 6] k (fun kq v5 v6 w' => ∃ (x5_1 : List Int) (x6_1 : Int), v6 = .int .i64 x6_1 ∧ Aside0 (spec_Join.l0 kq l0 a1 x5_1 x6_1 = some r) ∧ Aside0 (kq ≤ k) ∧ Aside0 (Kd.R (Kd.int .u8) 5 w' w.heap.size (fun _ => True) v5 x5_1) ∧ Aside0 (Below w.heap.size w w'))
 case atStart => exact ⟨(y593), (0), sd_, H', ⟨Nat.le_refl _⟩, ⟨kr_ HO595.out⟩, ⟨bl_ HB.out⟩⟩
 case round =>
  clear H'
  try clear c1
  try clear p2
  obtain ⟨x5_1, x6_1, rfl, HA, HK1, HO_5, HB⟩ := hrel
  cases gk with
  | zero => exact absurd HA.out (by simp [spec_Join.l0])
  | succ k1 =>
   have H := HA.out
   clear HA
   simp only [spec_Join.l0] at H
   by_cases c5 : x6_1 < (l0.length : Int)
   ·rw [if_pos c5] at H
    have c5b0 : decide (x6_1 < (l0.length : Int)) = true := decide_eq_true c5
    clear c5
    by_cases c6 : x6_1 > 0
    ·rw [if_pos c6] at H
     have c6b0 : decide (0 < x6_1) = true := decide_eq_true c6
     clear c6
     by_cases c7 : x5_1.length + a1.size < 140737488355328
     ·rw [if_pos c7] at H
      have LMc7 := Aside0.mk c7
      clear c7
      obtain ⟨y596, hy596⟩ : ∃ y_ : List Int, y_ = (x5_1 ++ bytesOf a1) := ⟨_, rfl⟩
      replace H : (if 0 ≤ x6_1 then (if y596.length + (rdOf ByteArray.empty l0 x6_1).size < 140737488355328 then (spec_Join.l0 k1 l0 a1 (y596 ++ bytesOf (rdOf ByteArray.empty l0 x6_1)) (wrap64 (x6_1 + 1))) else (none)) else (none)) = some r := hr_ hy596 H
      have Ny596 := Aside0.mk hy596
      clear hy596
      by_cases c8 : 0 ≤ x6_1
      ·rw [if_pos c8] at H
       have c8b0 : decide (0 ≤ x6_1) = true := decide_eq_true c8
       clear c8
       by_cases c9 : y596.length + (rdOf ByteArray.empty l0 x6_1).size < 140737488355328
       ·rw [if_pos c9] at H
        have LMc9 := Aside0.mk c9
        clear c9
        obtain ⟨y600, hy600⟩ : ∃ y_ : List Int, y_ = (y596 ++ bytesOf (rdOf ByteArray.empty l0 x6_1)) := ⟨_, rfl⟩
        replace H : (spec_Join.l0 k1 l0 a1 y600 (wrap64 (x6_1 + 1))) = some r := hr_ hy600 H
        have Ny600 := Aside0.mk hy600
        clear hy600
        have H' := Aside0.mk H
        clear H
        go_wp2_with (first | (at_builtin; refine print_append_str (w0 := w) w.heap.size rfl (.tmp 16) _ 28 9 5 rfl Try.underlying28 Try.underlying9 info5 u5 x5_1 a1 rfl rfl ?aO ?aB ?aS ?aL ?_; (case aB => exact (bl_ HB.out)); (case aO => exact (Kd.own_of_R (kr_ HO_5.out))); (case aS => exact (below_size (bl_ HB.out))); (case aL => have := LMc7.out; omega); intro v597 w10 ho0 hb hg; have ho := Kd.R_of_own (h1 := fun _ => rfl) (ok := fun _ => True) ho0 (fun _ _ => trivial); clear ho0; have hat := True.intro; rw [← Ny596.out] at ho; change Kd.R (Kd.int .u8) 5 w10 w.heap.size (fun _ => True) v597 y596 at ho; have n0_ := Aside0.mk (hb); have n1_ := Aside0.mk (ho); clear HB; clear HO_5; have HB := n0_; have HO598 := n1_; clear n0_ n1_; clear ho hb hg hat; have p599 : 0 ≤ (x6_1 : Int) := od_; have q599 : x6_1 < (l0.length : Int) := od_; obtain ⟨ad599, e599, hx599_0⟩ := Kd.at_string HR0.out x6_1 p599 q599; cases e599; replace hx599_0 := (HB.out.cell (World.block_lt_of_cell? w _ hx599_0)).trans hx599_0; replace p599 := eq_true p599; replace q599 := eq_true q599) | (at_builtin; refine print_append_str (w0 := w) w.heap.size rfl (.tmp 19) _ 28 9 5 rfl Try.underlying28 Try.underlying9 info5 v597 y596 (rdOf ByteArray.empty l0 x6_1) rfl rfl ?aO ?aB ?aS ?aL ?_; (case aB => exact (bl_ HB.out)); (case aO => exact (Kd.own_of_R (kr_ HO598.out))); (case aS => exact (below_size (bl_ HB.out))); (case aL => have := LMc9.out; omega); intro v601 w11 ho0 hb hg; have ho := Kd.R_of_own (h1 := fun _ => rfl) (ok := fun _ => True) ho0 (fun _ _ => trivial); clear ho0; have hat := True.intro; rw [← Ny600.out] at ho; change Kd.R (Kd.int .u8) 5 w11 w.heap.size (fun _ => True) v601 y600 at ho; have n0_ := Aside0.mk (hb); have n1_ := Aside0.mk (ho); clear HB; clear HO598; have HB := n0_; have HO602 := n1_; clear n0_ n1_; clear ho hb hg hat))
        go_roundg k1
        case measure => have := HK1.out; omega
        case rel => exact ⟨(y600), (wrap64 (x6_1 + 1)), sd_, H', ⟨by have := HK1.out; omega⟩, ⟨kr_ HO602.out⟩, ⟨bl_ HB.out⟩⟩
       ·rw [if_neg c9] at H
        exact absurd H (by simp)
      ·rw [if_neg c8] at H
       exact absurd H (by simp)
     ·rw [if_neg c7] at H
      exact absurd H (by simp)
    ·rw [if_neg c6] at H
     have c6b0 : decide (0 < x6_1) = false := decide_eq_false c6
     clear c6
     by_cases c12 : 0 ≤ x6_1
     ·rw [if_pos c12] at H
      have c12b0 : decide (0 ≤ x6_1) = true := decide_eq_true c12
      clear c12
      by_cases c13 : x5_1.length + (rdOf ByteArray.empty l0 x6_1).size < 140737488355328
      ·rw [if_pos c13] at H
       have LMc13 := Aside0.mk c13
       clear c13
       obtain ⟨y604, hy604⟩ : ∃ y_ : List Int, y_ = (x5_1 ++ bytesOf (rdOf ByteArray.empty l0 x6_1)) := ⟨_, rfl⟩
       replace H : (spec_Join.l0 k1 l0 a1 y604 (wrap64 (x6_1 + 1))) = some r := hr_ hy604 H
       have Ny604 := Aside0.mk hy604
       clear hy604
       have H' := Aside0.mk H
       clear H
       have p603 : 0 ≤ (x6_1 : Int) := od_
       have q603 : x6_1 < (l0.length : Int) := od_
       obtain ⟨ad603, e603, hx603_0⟩ := Kd.at_string HR0.out x6_1 p603 q603
       cases e603
       replace hx603_0 := (HB.out.cell (World.block_lt_of_cell? w _ hx603_0)).trans hx603_0
       replace p603 := eq_true p603
       replace q603 := eq_true q603
       go_wp2_with (first | (at_builtin; refine print_append_str (w0 := w) w.heap.size rfl (.tmp 19) _ 28 9 5 rfl Try.underlying28 Try.underlying9 info5 u5 x5_1 (rdOf ByteArray.empty l0 x6_1) rfl rfl ?aO ?aB ?aS ?aL ?_; (case aB => exact (bl_ HB.out)); (case aO => exact (Kd.own_of_R (kr_ HO_5.out))); (case aS => exact (below_size (bl_ HB.out))); (case aL => have := LMc13.out; omega); intro v605 w14 ho0 hb hg; have ho := Kd.R_of_own (h1 := fun _ => rfl) (ok := fun _ => True) ho0 (fun _ _ => trivial); clear ho0; have hat := True.intro; rw [← Ny604.out] at ho; change Kd.R (Kd.int .u8) 5 w14 w.heap.size (fun _ => True) v605 y604 at ho; have n0_ := Aside0.mk (hb); have n1_ := Aside0.mk (ho); clear HB; clear HO_5; have HB := n0_; have HO606 := n1_; clear n0_ n1_; clear ho hb hg hat))
       go_roundg k1
       case measure => have := HK1.out; omega
       case rel => exact ⟨(y604), (wrap64 (x6_1 + 1)), sd_, H', ⟨by have := HK1.out; omega⟩, ⟨kr_ HO606.out⟩, ⟨bl_ HB.out⟩⟩
      ·rw [if_neg c13] at H
       exact absurd H (by simp)
     ·rw [if_neg c12] at H
      exact absurd H (by simp)
   ·rw [if_neg c5] at H
    have c5b0 : decide (x6_1 < (l0.length : Int)) = false := decide_eq_false c5
    clear c5
    obtain rfl := Option.some.inj H
    have hcv15 := own_string (P := Try.prog) Try.underlying28 Try.underlying5 Try.underlying9 (Kd.own_of_R HO_5.out)
    go_wp2
    go_ret
    exact ⟨er_, bl_ HB.out⟩
def spec_ListText.l0 : Nat → List Int → List ByteArray → Int → Option (ByteArray)
 | 0, _, _, _ => none
 | k + 1, x0, x3, x4 => if x4 < (x0.length : Int) then (if 0 ≤ x4 then ((spec_FormatInt.f k (rd x0 x4)).bind fun t611 => (if x3.length < 8796093022208 then (spec_ListText.l0 k x0 (x3 ++ [t611]) (wrap64 (x4 + 1))) else (none))) else (none)) else ((spec_Join.f k x3 (⟨#[44]⟩ : ByteArray)).bind fun t615 => (some t615))
def spec_ListText.f (k : Nat) (l0 : List Int) : Option (ByteArray) := if (l0.length : Int) = 0 then (some (⟨#[110, 111, 110, 101]⟩ : ByteArray)) else (spec_ListText.l0 k l0 (([] : List ByteArray)) 0)
theorem spec_ListText.calls (k : Nat) (A0 : Option Addr) (c0 : Nat) (l0 : List Int) (r : ByteArray) (w : World) (hr0 : Kd.C (Kd.int .i64) w A0 l0.length l0) (hc0 : l0.length ≤ c0) (h : spec_ListText.f k l0 = some r) :
 Calls Try.prog 164 #[.slice A0 l0.length c0] w fun e w' => e = .returned (.string r) ∧ Below w.heap.size w w' := by
 have HR0 := Aside0.mk hr0
 have HC0 := Aside0.mk hc0
 clear hr0 hc0
 have HB := Aside0.mk (Below.refl w.heap.size w)
 have H := h
 clear h
 unfold spec_ListText.f at H
 by_cases c2 : (l0.length : Int) = 0
 ·rw [if_pos c2] at H
  have c2b0 : ((l0.length : Int) == 0) = true := beq_iff_eq.mpr c2
  have c2b1 : ((l0.length : Int) != 0) = false := bne_eq_false_iff_eq.mpr c2
  clear c2
  obtain rfl := Option.some.inj H
  go_enter Try.func164, Try.ntmps164
  go_wp2
  go_ret
  exact ⟨er_, bl_ HB.out⟩
 ·rw [if_neg c2] at H
  have c2b0 : ((l0.length : Int) == 0) = false := beq_eq_false_iff_ne.mpr c2
  have c2b1 : ((l0.length : Int) != 0) = true := bne_iff_ne.mpr c2
  have c2b2 : ¬ (l0 = []) := fun h_ => c2 (by rw [h_]; rfl)
  obtain ⟨y607, hy607⟩ : ∃ y_ : List ByteArray, y_ = (([] : List ByteArray)) := ⟨_, rfl⟩
  replace H : (spec_ListText.l0 k l0 y607 0) = some r := hr_ hy607 H
  have Ny607 := Aside0.mk hy607
  clear hy607
  have H' := Aside0.mk H
  clear H
  go_enter Try.func164, Try.ntmps164
  go_wp2_with (first | ((with_reducible refine gate_dst (N := 8) rfl ?_); refine Kd.R_lit Kd.string _ 9 ?hg (N := 8) ?hd (xs := ([] : List ByteArray)) (inner := []) (ok := fun _ => True) (okp := fun _ => True) ?hr ?hp (fun _ hk => hk) trivial (Below.refl _ _) (Nat.le_refl _) (by simp) ?_; (case hd => rfl); (case hg => rfl); (case hr => first | (go_simp; done) | (go_simp; rfl)); (case hp => exact (Reps.none _ _)); intro v608 w3 ho4 hb hg_ hnew_; clear hg_ hnew_; (first | rw [← Ny607.out] at ho4 | (simp only [Int.reduceToNat] at ho4; rw [← Ny607.out] at ho4)); have HO609 := rl_ ho4 HB; replace HB := bs_ HB hb; clear hb ho4))
  go_loopg [3, 4] k (fun kq v3 v4 w' => ∃ (x3_1 : List ByteArray) (x4_1 : Int), v4 = .int .i64 x4_1 ∧ Aside0 (spec_ListText.l0 kq l0 x3_1 x4_1 = some r) ∧ Aside0 (kq ≤ k) ∧ Aside0 (Kd.R Kd.string 9 w' w.heap.size (fun _ => True) v3 x3_1) ∧ Aside0 (Below w.heap.size w w'))
  case atStart => exact ⟨(y607), (0), sd_, H', ⟨Nat.le_refl _⟩, ⟨kr_ HO609.out⟩, ⟨bl_ HB.out⟩⟩
  case round =>
   clear H'
   try clear c1
   try clear c2
   try clear c2b0
   try clear c2b1
   try clear c2b2
   try clear p2
   obtain ⟨x3_1, x4_1, rfl, HA, HK1, HO_3, HB⟩ := hrel
   cases gk with
   | zero => exact absurd HA.out (by simp [spec_ListText.l0])
   | succ k1 =>
    have H := HA.out
    clear HA
    simp only [spec_ListText.l0] at H
    by_cases c5 : x4_1 < (l0.length : Int)
    ·rw [if_pos c5] at H
     have c5b0 : decide (x4_1 < (l0.length : Int)) = true := decide_eq_true c5
     clear c5
     by_cases c6 : 0 ≤ x4_1
     ·rw [if_pos c6] at H
      have c6b0 : decide (0 ≤ x4_1) = true := decide_eq_true c6
      clear c6
      obtain ⟨t611, A7, H⟩ := ob_ H
      (try dsimp only at H)
      by_cases c8 : x3_1.length < 8796093022208
      ·rw [if_pos c8] at H
       have LMc8 := Aside0.mk c8
       clear c8
       obtain ⟨y612, hy612⟩ : ∃ y_ : List ByteArray, y_ = (x3_1 ++ [t611]) := ⟨_, rfl⟩
       replace H : (spec_ListText.l0 k1 l0 y612 (wrap64 (x4_1 + 1))) = some r := hr_ hy612 H
       have Ny612 := Aside0.mk hy612
       clear hy612
       have H' := Aside0.mk H
       clear H
       have p610 : 0 ≤ (x4_1 : Int) := od_
       have q610 : x4_1 < (l0.length : Int) := od_
       obtain ⟨ad610, e610, hx610_0⟩ := Kd.at_int HR0.out x4_1 p610 q610
       cases e610
       replace hx610_0 := (HB.out.cell (World.block_lt_of_cell? w _ hx610_0)).trans hx610_0
       replace p610 := eq_true p610
       replace q610 := eq_true q610
       go_wp2_with (first | ((with_reducible refine gate_callee (f := 177) rfl ?_); refine gl_ 20 Try.func177 #[.int .i64 (rd l0 x4_1)] ?_; (with_reducible refine (spec_FormatInt.calls k1 (rd l0 x4_1) t611 _ A7.out).mono ?_); rintro e w9 ⟨rfl, hb⟩; refine ⟨_, rfl, ?_⟩; replace HO_3 := rb_ HO_3 hb; replace HB := bs_ HB hb; (try clear hb); (try clear hb2); (try clear hk); (try clear hi)) | ((with_reducible refine gate_builtin (b := .append) (xs := #[.tmp 15, .tmp 21]) rfl ?_); at_builtin; refine Kd.R_append Kd.string (w0 := w) w.heap.size rfl (.tmp 15) (.tmp 21) 104 9 (.string ⟨#[]⟩) 16 rfl Try.underlying104 info9 rfl (by decide) (by omega) u3 x3_1 t611 [.string t611] (fun _ => True) (fun _ => False) rfl rfl ?aP (fun _ hk => hk.elim) ?aF ?aO ?aB ?aS ?aL ?_; (case aP => exact rfl); (case aB => exact (bl_ HB.out)); (case aF => exact (fun _ _ => trivial)); (case aO => exact (kr_ HO_3.out)); (case aS => exact (below_size (bl_ HB.out))); (case aL => have := LMc8.out; omega); intro v613 w10 ho hb hg hat; rw [← Ny612.out] at ho; have n0_ := Aside0.mk (hb); have n1_ := Aside0.mk (ho); clear HB; clear HO_3; have HB := n0_; have HO614 := n1_; clear n0_ n1_; clear ho hb hg hat))
       go_roundg k1
       case measure => have := HK1.out; omega
       case rel => exact ⟨(y612), (wrap64 (x4_1 + 1)), sd_, H', ⟨by have := HK1.out; omega⟩, ⟨kr_ HO614.out⟩, ⟨bl_ HB.out⟩⟩
      ·rw [if_neg c8] at H
       exact absurd H (by simp)
     ·rw [if_neg c6] at H
      exact absurd H (by simp)
    ·rw [if_neg c5] at H
     have c5b0 : decide (x4_1 < (l0.length : Int)) = false := decide_eq_false c5
     clear c5
     obtain ⟨t615, A11, H⟩ := ob_ H
     (try dsimp only at H)
     obtain rfl := Option.some.inj H
     obtain ⟨Ao12, co12, eo12⟩ := Kd.R_slice HO_3.out
     subst eo12
     go_wp2_with (first | ((with_reducible refine gate_callee (f := 178) rfl ?_); refine gl_ 24 Try.func178 #[.slice Ao12 x3_1.length co12, .string (⟨#[44]⟩ : ByteArray)] ?_; (with_reducible refine (spec_Join.calls k1 _ _ x3_1 (⟨#[44]⟩ : ByteArray) t615 _ ?side1 ?side2 A11.out).mono ?_); (case side1 => exact rs_ HO_3); (case side2 => exact (Kd.R_reads' HO_3.out).2.1); rintro e w13 ⟨rfl, hb⟩; refine ⟨_, rfl, ?_⟩; replace HO_3 := rb_ HO_3 hb; replace HB := bs_ HB hb; (try clear hb); (try clear hb2); (try clear hk); (try clear hi)))
     go_ret
     exact ⟨er_, bl_ HB.out⟩
def spec_SemigroupText.f (k : Nat) (l0_0 : List Int) : Option (ByteArray) := (spec_IsSemigroup.f k l0_0).bind fun t617 => (if t617 = true then ((spec_ListText.f k l0_0).bind fun t618 => (if 1 + t618.size ≤ 9223372036854775807 then (if ((⟨#[60]⟩ : ByteArray) ++ t618).size + 1 ≤ 9223372036854775807 then (some (((⟨#[60]⟩ : ByteArray) ++ t618) ++ (⟨#[62]⟩ : ByteArray))) else (none)) else (none))) else (some (⟨#[]⟩ : ByteArray)))
theorem spec_SemigroupText.calls (k : Nat) (A0_0 : Option Addr) (c0_0 : Nat) (l0_0 : List Int) (r : ByteArray) (w : World) (hr0_0 : Kd.C (Kd.int .i64) w A0_0 l0_0.length l0_0) (hc0_0 : l0_0.length ≤ c0_0) (h : spec_SemigroupText.f k l0_0 = some r) :
 Calls Try.prog 159 #[.agg #[.slice A0_0 l0_0.length c0_0]] w fun e w' => e = .returned (.string r) ∧ Below w.heap.size w w' := by
 have hu41 := Try.underlying41
 have HR0_0 := Aside0.mk hr0_0
 have HC0_0 := Aside0.mk hc0_0
 clear hr0_0 hc0_0
 have HB := Aside0.mk (Below.refl w.heap.size w)
 have H := h
 clear h
 unfold spec_SemigroupText.f at H
 obtain ⟨t617, A2, H⟩ := ob_ H
 (try dsimp only at H)
 by_cases c3 : t617 = true
 ·subst c3
  rw [if_pos rfl] at H
  obtain ⟨t618, A4, H⟩ := ob_ H
  (try dsimp only at H)
  by_cases c5 : 1 + t618.size ≤ 9223372036854775807
  ·rw [if_pos c5] at H
   have c5b0 := eq_true c5
   have c5b1 : decide (1 + t618.size ≤ 9223372036854775807) = true := decide_eq_true c5
   try have c5b2 : (9223372036854775807 < 1 + t618.size) = False := eq_false (Nat.not_lt.2 c5)
   by_cases c6 : ((⟨#[60]⟩ : ByteArray) ++ t618).size + 1 ≤ 9223372036854775807
   ·rw [if_pos c6] at H
    have c6b0 := eq_true c6
    (try (have c6s := c6; simp only [ByteArray.size_append] at c6s; (try simp only [show (⟨#[60]⟩ : ByteArray).size = 1 from rfl] at c6s)))
    have c6b1 : decide (((⟨#[60]⟩ : ByteArray) ++ t618).size + 1 ≤ 9223372036854775807) = true := decide_eq_true c6
    try have c6b2 : (9223372036854775807 < ((⟨#[60]⟩ : ByteArray) ++ t618).size + 1) = False := eq_false (Nat.not_lt.2 c6)
    obtain rfl := Option.some.inj H
    go_enter Try.func159, Try.ntmps159
    go_wp2_with (first | ((with_reducible refine gate_dst (N := 1) rfl ?_); refine be_ 1 #[.slice A0_0 l0_0.length c0_0] 41 fun gb616 hg w7 hbox hb => ?_; have BK616 := Aside0.mk (hbox); have GW616 := ge_ hg HB; have GE616 := ge_ hg HB; replace HB := bs_ HB hb; clear hb hbox hg; have hcz8_0 := bc_ BK616; have hfz8_0 := blk_frozen BK616.out 0) | ((with_reducible refine gate_callee (f := 41) rfl ?_); refine gl_ 4 Try.func41 #[.agg #[.slice A0_0 l0_0.length c0_0]] ?_; (with_reducible refine (spec_IsSemigroup.calls k _ _ l0_0 true _ ?side1 ?side2 A2.out).mono ?_); (case side1 => exact cs_ HR0_0 HB); (case side2 => exact HC0_0.out); rintro e w9 ⟨rfl, hb⟩; refine ⟨_, rfl, ?_⟩; replace BK616 := bb_ BK616 hb; replace HB := bs_ HB hb; (try clear hb); (try clear hb2); (try clear hk); (try clear hi); have hcz10_0 := bc_ BK616; have hfz10_0 := blk_frozen BK616.out 0) | ((with_reducible refine gate_callee (f := 164) rfl ?_); refine gl_ 8 Try.func164 #[.slice A0_0 l0_0.length c0_0] ?_; (with_reducible refine (spec_ListText.calls k _ _ l0_0 t618 _ ?side1 ?side2 A4.out).mono ?_); (case side1 => exact cs_ HR0_0 HB); (case side2 => exact HC0_0.out); rintro e w11 ⟨rfl, hb⟩; refine ⟨_, rfl, ?_⟩; replace BK616 := bb_ BK616 hb; replace HB := bs_ HB hb; (try clear hb); (try clear hb2); (try clear hk); (try clear hi)))
    go_ret
    exact ⟨er_, bl_ HB.out⟩
   ·rw [if_neg c6] at H
    exact absurd H (by simp)
  ·rw [if_neg c5] at H
   exact absurd H (by simp)
 ·obtain rfl := Bool.eq_false_iff.mpr c3
  rw [if_neg nf_] at H
  obtain rfl := Option.some.inj H
  go_enter Try.func159, Try.ntmps159
  go_wp2_with (first | ((with_reducible refine gate_dst (N := 1) rfl ?_); refine be_ 1 #[.slice A0_0 l0_0.length c0_0] 41 fun gb616 hg w12 hbox hb => ?_; have BK616 := Aside0.mk (hbox); have GW616 := ge_ hg HB; have GE616 := ge_ hg HB; replace HB := bs_ HB hb; clear hb hbox hg; have hcz13_0 := bc_ BK616; have hfz13_0 := blk_frozen BK616.out 0) | ((with_reducible refine gate_callee (f := 41) rfl ?_); refine gl_ 4 Try.func41 #[.agg #[.slice A0_0 l0_0.length c0_0]] ?_; (with_reducible refine (spec_IsSemigroup.calls k _ _ l0_0 false _ ?side1 ?side2 A2.out).mono ?_); (case side1 => exact cs_ HR0_0 HB); (case side2 => exact HC0_0.out); rintro e w14 ⟨rfl, hb⟩; refine ⟨_, rfl, ?_⟩; replace BK616 := bb_ BK616 hb; replace HB := bs_ HB hb; (try clear hb); (try clear hb2); (try clear hk); (try clear hi)))
  go_ret
  exact ⟨er_, bl_ HB.out⟩
def spec_ParseSemigroup.f (k : Nat) (a0 : ByteArray) : Option (List Int × Bool) := if (a0.size : Int) < 2 then (some (([] : List Int), false)) else (if 1 ≤ (wrap64 ((a0.size : Int) - 1)) then (if (wrap64 ((a0.size : Int) - 1)) ≤ (a0.size : Int) then ((spec_ParseList.f k (a0.extract 1 ((wrap64 ((a0.size : Int) - 1)) : Int).toNat)).bind fun bt620 => (if bt620.2 = true then ((spec_SemigroupText.f k bt620.1).bind fun t625 => (if t625.toList = a0.toList then (some (bt620.1, true)) else (some (([] : List Int), false)))) else (some (([] : List Int), false)))) else (none)) else (none))
theorem spec_ParseSemigroup.calls (k : Nat) (a0 : ByteArray) (r1 : List Int) (r2 : Bool) (w : World) (h : spec_ParseSemigroup.f k a0 = some (r1, r2)) :
 Calls Try.prog 146 #[.string a0] w fun e w' => ∃ v0_ : Value, e = .returned (.tuple #[.agg #[v0_], .bool r2]) ∧ Kd.R (Kd.int .i64) 3 w' w.heap.size (fun _ => True) v0_ r1 ∧ Below w.heap.size w w' := by
 have hu41 := Try.underlying41
 have HB := Aside0.mk (Below.refl w.heap.size w)
 have H := h
 clear h
 unfold spec_ParseSemigroup.f at H
 by_cases c2 : (a0.size : Int) < 2
 ·rw [if_pos c2] at H
  have c2b0 : decide ((a0.size : Int) < 2) = true := decide_eq_true c2
  have c2b1 : decide (a0.size < 2) = true := decide_eq_true (by omega)
  clear c2
  simp only [Option.some.injEq, Prod.mk.injEq] at H
  obtain ⟨rfl, rfl⟩ := H
  go_enter Try.func146, Try.ntmps146
  go_wp2_with (first | ((with_reducible refine gate_dst (N := 2) rfl ?_); refine be_ 2 #[.slice none 0 0] 41 fun gb619 hg w3 hbox hb => ?_; have BK619 := Aside0.mk (hbox); have GW619 := ge_ hg HB; have GE619 := ge_ hg HB; replace HB := bs_ HB hb; clear hb hbox hg; have hcz4_0 := bc_ BK619; have hfz4_0 := blk_frozen BK619.out 0))
  refine bodyPost_ret (results_ct rfl _ _ gb619 41 #[.slice none 0 0] (0, 0) _ rfl (by (with_reducible repeat (first | refine blk_drewN ?_ _ | refine blk_drew ?_ | refine blk_alloc ?_ _)); refine blk_put (cs := #[.slice none 0 0]) ?_ 0 _ rfl; (with_reducible repeat (first | refine blk_drewN ?_ _ | refine blk_drew ?_ | refine blk_alloc ?_ _)); exact BK619.out) Try.underlying41 rfl (by kernel_rfl)) rfl ?_
  exact ⟨_, er_, by first | exact Kd.R_nil _ _ _ _ _ | exact Kd.N_nil _ _ _ _ _ | exact Kd.V_nil _ _ _ _ _ | exact Kd.Q_nil _ _ _ _ _ | exact Kd.S_nil _ _ _ _ _, bl_ HB.out⟩
 ·rw [if_neg c2] at H
  have c2b0 : decide ((a0.size : Int) < 2) = false := decide_eq_false c2
  have c2b1 : decide (a0.size < 2) = false := decide_eq_false (by omega)
  clear c2
  by_cases c5 : 1 ≤ (wrap64 ((a0.size : Int) - 1))
  ·rw [if_pos c5] at H
   have c5b0 := eq_true c5
   have c5b1 : decide (1 ≤ (wrap64 ((a0.size : Int) - 1))) = true := decide_eq_true c5
   clear c5
   by_cases c6 : (wrap64 ((a0.size : Int) - 1)) ≤ (a0.size : Int)
   ·rw [if_pos c6] at H
    have c6b0 := eq_true c6
    (try (have c6s := c6; simp only [ByteArray.size_append] at c6s; (try simp only [show (⟨#[60]⟩ : ByteArray).size = 1 from rfl] at c6s)))
    have c6b1 : decide ((wrap64 ((a0.size : Int) - 1)) ≤ (a0.size : Int)) = true := decide_eq_true c6
    clear c6
    replace H := Option.bind_eq_some_iff.mp H
    obtain ⟨⟨t620, t621⟩, A70, H⟩ := H
    (try dsimp only at H)
    have A7 := Aside0.mk A70
    clear A70
    by_cases c8 : t621 = true
    ·subst c8
     rw [if_pos rfl] at H
     obtain ⟨t625, A9, H⟩ := ob_ H
     (try dsimp only at H)
     by_cases c10 : t625.toList = a0.toList
     ·rw [if_pos c10] at H
      have c10b0 : (t625.toList == a0.toList) = true := beq_iff_eq.mpr c10
      have c10b1 : (t625.toList != a0.toList) = false := bne_eq_false_iff_eq.mpr c10
      clear c10
      simp only [Option.some.injEq, Prod.mk.injEq] at H
      obtain ⟨rfl, rfl⟩ := H
      go_enter Try.func146, Try.ntmps146
      go_wp2_with (first | ((with_reducible refine gate_dst (N := 2) rfl ?_); refine be_ 2 #[.slice none 0 0] 41 fun gb619 hg w11 hbox hb => ?_; have BK619 := Aside0.mk (hbox); have GW619 := ge_ hg HB; have GE619 := ge_ hg HB; replace HB := bs_ HB hb; clear hb hbox hg) | ((with_reducible refine gate_callee (f := 158) rfl ?_); refine gl_ 17 Try.func158 #[.string (a0.extract 1 ((wrap64 ((a0.size : Int) - 1)) : Int).toNat)] ?_; (with_reducible refine (spec_ParseList.calls k (a0.extract 1 ((wrap64 ((a0.size : Int) - 1)) : Int).toNat) t620 true _ A7.out).mono ?_); rintro e w12 ⟨v622, rfl, ho0, hb⟩; refine ⟨_, rfl, ?_⟩; have HO623 := rl_ ho0 HB; replace BK619 := bb_ BK619 hb; replace HB := bs_ HB hb; (try clear hb); (try clear hb2); (try clear hk); (try clear hi); (try clear ho0); obtain ⟨Ao13, co13, eo13⟩ := Kd.R_slice HO623.out; subst eo13) | ((with_reducible refine gate_dst (N := 6) rfl ?_); refine be_ 6 #[.slice none 0 0] 41 fun gb624 hg w14 hbox hb => ?_; replace HO623 := rb_ HO623 hb; have BK624 := Aside0.mk (hbox); have GW624 := ge_ hg HB; have GE624 := ge_ hg HB; replace HB := bs_ HB hb; have NB619_624 := nl_ hg BK619; have NB624_619 := ng_ hg BK619; replace BK619 := bb_ BK619 hb; clear hb hbox hg; have hnb15 := NB624_619.out; have hnc15 := NB619_624.out; have hcz16_0 := bc_ BK624; have hfz16_0 := blk_frozen BK624.out 0) | (go_at_call 159; (with_reducible refine (spec_SemigroupText.calls k _ _ t620 t625 _ ?side1 ?side2 A9.out).mono ?_); (case side1 => refine (Kd.R_reads' (e := 3) (base := w.heap.size) (ok := fun k_ => True) (n := t620.length) (c := co13) ?_).2.2; exact (kr_ ((Kd.R_mono (Kd.R_far (p := ⟨gb624, 0, none⟩) (Kd.R_types HO623.out BK624.out (by decide)) (fun _ hk => hk.2) (.slice Ao13 t620.length co13)) (fun _ h_ => h_.1))))); (case side2 => exact (Kd.R_reads' HO623.out).2.1); rintro e w17 ⟨rfl, hb⟩; replace HO623 := Aside0.mk (Kd.R_below (kr_ ((Kd.R_mono (Kd.R_far (p := ⟨gb624, 0, none⟩) (Kd.R_types HO623.out BK624.out (by decide)) (fun _ hk => hk.2) (.slice Ao13 t620.length co13)) (fun _ h_ => h_.1)))) hb); replace BK619 := Aside0.mk (blk_below (g := gb619) (o := .cells #[.slice none 0 0] 41 (0, 0)) (bf_ BK619.out) hb); replace BK624 := Aside0.mk (blk_below (g := gb624) (o := .cells #[.slice Ao13 t620.length co13] 41 (0, 0)) (by (with_reducible repeat (first | refine blk_drewN ?_ _ | refine blk_drew ?_ | refine blk_alloc ?_ _)); refine blk_put (cs := #[.slice none 0 0]) ?_ 0 _ rfl; (with_reducible repeat (first | refine blk_drewN ?_ _ | refine blk_drew ?_ | refine blk_alloc ?_ _)); exact BK624.out) hb); replace HB := bs_ HB hb; (try clear hb); (try clear hb2); (try clear hk); (try clear hi); have hcz18_0 := bc_ BK624; have hfz18_0 := blk_frozen BK624.out 0; have hcz19_0 := bc_ BK619; have hfz19_0 := blk_frozen BK619.out 0))
      refine bodyPost_ret (results_ct rfl _ _ gb619 41 #[.slice Ao13 t620.length co13] (0, 0) _ rfl (by (with_reducible repeat (first | refine blk_drewN ?_ _ | refine blk_drew ?_ | refine blk_alloc ?_ _)); refine blk_put (cs := #[.slice none 0 0]) ?_ 0 _ rfl; (with_reducible repeat (first | refine blk_drewN ?_ _ | refine blk_drew ?_ | refine blk_alloc ?_ _)); exact BK619.out) Try.underlying41 rfl (by kernel_rfl)) rfl ?_
      exact ⟨_, er_, kr_ (Kd.R_mono (Kd.R_far (p := ⟨gb619, 0, none⟩) (Kd.R_types HO623.out BK619.out (by decide)) (fun _ hk => hk.2) (.slice Ao13 t620.length co13)) (fun _ hk => trivial)), bl_ HB.out⟩
     ·rw [if_neg c10] at H
      have c10b0 : (t625.toList == a0.toList) = false := beq_eq_false_iff_ne.mpr c10
      have c10b1 : (t625.toList != a0.toList) = true := bne_iff_ne.mpr c10
      simp only [Option.some.injEq, Prod.mk.injEq] at H
      obtain ⟨rfl, rfl⟩ := H
      go_enter Try.func146, Try.ntmps146
      go_wp2_with (first | ((with_reducible refine gate_dst (N := 2) rfl ?_); refine be_ 2 #[.slice none 0 0] 41 fun gb619 hg w20 hbox hb => ?_; have BK619 := Aside0.mk (hbox); have GW619 := ge_ hg HB; have GE619 := ge_ hg HB; replace HB := bs_ HB hb; clear hb hbox hg) | ((with_reducible refine gate_callee (f := 158) rfl ?_); refine gl_ 17 Try.func158 #[.string (a0.extract 1 ((wrap64 ((a0.size : Int) - 1)) : Int).toNat)] ?_; (with_reducible refine (spec_ParseList.calls k (a0.extract 1 ((wrap64 ((a0.size : Int) - 1)) : Int).toNat) t620 true _ A7.out).mono ?_); rintro e w21 ⟨v622, rfl, ho0, hb⟩; refine ⟨_, rfl, ?_⟩; have HO623 := rl_ ho0 HB; replace BK619 := bb_ BK619 hb; replace HB := bs_ HB hb; (try clear hb); (try clear hb2); (try clear hk); (try clear hi); (try clear ho0); obtain ⟨Ao22, co22, eo22⟩ := Kd.R_slice HO623.out; subst eo22) | ((with_reducible refine gate_dst (N := 6) rfl ?_); refine be_ 6 #[.slice none 0 0] 41 fun gb624 hg w23 hbox hb => ?_; replace HO623 := rb_ HO623 hb; have BK624 := Aside0.mk (hbox); have GW624 := ge_ hg HB; have GE624 := ge_ hg HB; replace HB := bs_ HB hb; have NB619_624 := nl_ hg BK619; have NB624_619 := ng_ hg BK619; replace BK619 := bb_ BK619 hb; clear hb hbox hg; have hnb24 := NB624_619.out; have hnc24 := NB619_624.out; have hcz25_0 := bc_ BK624; have hfz25_0 := blk_frozen BK624.out 0) | (go_at_call 159; (with_reducible refine (spec_SemigroupText.calls k _ _ t620 t625 _ ?side1 ?side2 A9.out).mono ?_); (case side1 => refine (Kd.R_reads' (e := 3) (base := w.heap.size) (ok := fun k_ => True) (n := t620.length) (c := co22) ?_).2.2; exact (kr_ ((Kd.R_mono (Kd.R_far (p := ⟨gb624, 0, none⟩) (Kd.R_types HO623.out BK624.out (by decide)) (fun _ hk => hk.2) (.slice Ao22 t620.length co22)) (fun _ h_ => h_.1))))); (case side2 => exact (Kd.R_reads' HO623.out).2.1); rintro e w26 ⟨rfl, hb⟩; replace HO623 := Aside0.mk (Kd.R_below (kr_ ((Kd.R_mono (Kd.R_far (p := ⟨gb624, 0, none⟩) (Kd.R_types HO623.out BK624.out (by decide)) (fun _ hk => hk.2) (.slice Ao22 t620.length co22)) (fun _ h_ => h_.1)))) hb); replace BK619 := Aside0.mk (blk_below (g := gb619) (o := .cells #[.slice none 0 0] 41 (0, 0)) (bf_ BK619.out) hb); replace BK624 := Aside0.mk (blk_below (g := gb624) (o := .cells #[.slice Ao22 t620.length co22] 41 (0, 0)) (by (with_reducible repeat (first | refine blk_drewN ?_ _ | refine blk_drew ?_ | refine blk_alloc ?_ _)); refine blk_put (cs := #[.slice none 0 0]) ?_ 0 _ rfl; (with_reducible repeat (first | refine blk_drewN ?_ _ | refine blk_drew ?_ | refine blk_alloc ?_ _)); exact BK624.out) hb); replace HB := bs_ HB hb; (try clear hb); (try clear hb2); (try clear hk); (try clear hi); have hcz27_0 := bc_ BK619; have hfz27_0 := blk_frozen BK619.out 0))
      refine bodyPost_ret (results_ct rfl _ _ gb619 41 #[.slice none 0 0] (0, 0) _ rfl (by (with_reducible repeat (first | refine blk_drewN ?_ _ | refine blk_drew ?_ | refine blk_alloc ?_ _)); refine blk_put (cs := #[.slice none 0 0]) ?_ 0 _ rfl; (with_reducible repeat (first | refine blk_drewN ?_ _ | refine blk_drew ?_ | refine blk_alloc ?_ _)); exact BK619.out) Try.underlying41 rfl (by kernel_rfl)) rfl ?_
      exact ⟨_, er_, by first | exact Kd.R_nil _ _ _ _ _ | exact Kd.N_nil _ _ _ _ _ | exact Kd.V_nil _ _ _ _ _ | exact Kd.Q_nil _ _ _ _ _ | exact Kd.S_nil _ _ _ _ _, bl_ HB.out⟩
    ·obtain rfl := Bool.eq_false_iff.mpr c8
     rw [if_neg nf_] at H
     simp only [Option.some.injEq, Prod.mk.injEq] at H
     obtain ⟨rfl, rfl⟩ := H
     go_enter Try.func146, Try.ntmps146
     go_wp2_with (first | ((with_reducible refine gate_dst (N := 2) rfl ?_); refine be_ 2 #[.slice none 0 0] 41 fun gb619 hg w28 hbox hb => ?_; have BK619 := Aside0.mk (hbox); have GW619 := ge_ hg HB; have GE619 := ge_ hg HB; replace HB := bs_ HB hb; clear hb hbox hg) | ((with_reducible refine gate_callee (f := 158) rfl ?_); refine gl_ 17 Try.func158 #[.string (a0.extract 1 ((wrap64 ((a0.size : Int) - 1)) : Int).toNat)] ?_; (with_reducible refine (spec_ParseList.calls k (a0.extract 1 ((wrap64 ((a0.size : Int) - 1)) : Int).toNat) t620 false _ A7.out).mono ?_); rintro e w29 ⟨v622, rfl, ho0, hb⟩; refine ⟨_, rfl, ?_⟩; have HO623 := rl_ ho0 HB; replace BK619 := bb_ BK619 hb; replace HB := bs_ HB hb; (try clear hb); (try clear hb2); (try clear hk); (try clear hi); (try clear ho0); obtain ⟨Ao30, co30, eo30⟩ := Kd.R_slice HO623.out; subst eo30) | ((with_reducible refine gate_dst (N := 6) rfl ?_); refine be_ 6 #[.slice none 0 0] 41 fun gb624 hg w31 hbox hb => ?_; replace HO623 := rb_ HO623 hb; have BK624 := Aside0.mk (hbox); have GW624 := ge_ hg HB; have GE624 := ge_ hg HB; replace HB := bs_ HB hb; have NB619_624 := nl_ hg BK619; have NB624_619 := ng_ hg BK619; replace BK619 := bb_ BK619 hb; clear hb hbox hg; have hnb32 := NB624_619.out; have hnc32 := NB619_624.out; have hcz33_0 := bc_ BK624; have hfz33_0 := blk_frozen BK624.out 0; have hcz34_0 := bc_ BK619; have hfz34_0 := blk_frozen BK619.out 0))
     refine bodyPost_ret (results_ct rfl _ _ gb619 41 #[.slice none 0 0] (0, 0) _ rfl (by (with_reducible repeat (first | refine blk_drewN ?_ _ | refine blk_drew ?_ | refine blk_alloc ?_ _)); refine blk_put (cs := #[.slice none 0 0]) ?_ 0 _ rfl; (with_reducible repeat (first | refine blk_drewN ?_ _ | refine blk_drew ?_ | refine blk_alloc ?_ _)); refine blk_far ?_ NB619_624.out _; (with_reducible repeat (first | refine blk_drewN ?_ _ | refine blk_drew ?_ | refine blk_alloc ?_ _)); exact BK619.out) Try.underlying41 rfl (by kernel_rfl)) rfl ?_
     exact ⟨_, er_, by first | exact Kd.R_nil _ _ _ _ _ | exact Kd.N_nil _ _ _ _ _ | exact Kd.V_nil _ _ _ _ _ | exact Kd.Q_nil _ _ _ _ _ | exact Kd.S_nil _ _ _ _ _, bl_ HB.out⟩
   ·rw [if_neg c6] at H
    exact absurd H (by simp)
  ·rw [if_neg c5] at H
   exact absurd H (by simp)
def spec_l1Pick.f (s0_0 : List Int) (s0_1 : Int) (s0_2 : Int) (l1 : List ByteArray) : Option (ByteArray × Int × Int) := (spec_l1Below.f s0_0 s0_1 s0_2 (l1.length : Int)).bind fun bt626 => (if 0 ≤ bt626.1 then (if bt626.1 < (l1.length : Int) then (some (rdOf ByteArray.empty l1 bt626.1, bt626.2.1, bt626.2.2)) else (none)) else (none))
theorem spec_l1Pick.calls (g : Nat) (s0_0 : List Int) (s0_1 : Int) (s0_2 : Int) (A1 : Option Addr) (c1 : Nat) (l1 : List ByteArray) (r1 : ByteArray) (r2 : Int) (r3 : Int) (w0 w : World) (hI : IsS95 w0 w g s0_0 s0_1 s0_2) (hB : Below w0.heap.size w0 w) (hr1 : Kd.C Kd.string w A1 l1.length l1) (hc1 : l1.length ≤ c1) (hf1 : ∀ ad, A1 = some ad → 0 < l1.length → ad.block ≠ g) (h : spec_l1Pick.f s0_0 s0_1 s0_2 l1 = some (r1, r2, r3)) :
 Calls Try.prog 147 #[.pointer (some ⟨g, 0, none⟩), .slice A1 l1.length c1] w fun e w' => e = .returned (.string r1) ∧ IsS95 w0 w' g s0_0 r2 r3 ∧ Below w0.heap.size w0 w' ∧ KeepBut w w' g none := by
 have HR1 := Aside0.mk hr1
 have HC1 := Aside0.mk hc1
 clear hr1 hc1
 have HI0 := Aside0.mk hI
 have HK := Aside0.mk (KeepBut.refl w g none)
 have HL := Aside0.mk hB.size
 clear hI
 have HW0 := Aside0.mk hB.size
 have HB := Aside0.mk hB
 clear hB
 have H := h
 clear h
 unfold spec_l1Pick.f at H
 replace H := Option.bind_eq_some_iff.mp H
 obtain ⟨⟨t626, t627, t628⟩, A30, H⟩ := H
 (try dsimp only at H)
 have A3 := Aside0.mk A30
 clear A30
 by_cases c4 : 0 ≤ t626
 ·rw [if_pos c4] at H
  have c4b0 : decide (0 ≤ t626) = true := decide_eq_true c4
  clear c4
  by_cases c5 : t626 < (l1.length : Int)
  ·rw [if_pos c5] at H
   have c5b0 : decide (t626 < (l1.length : Int)) = true := decide_eq_true c5
   clear c5
   simp only [Option.some.injEq, Prod.mk.injEq] at H
   obtain ⟨rfl, rfl, rfl⟩ := H
   go_enter Try.func147, Try.ntmps147
   go_wp2_with (first | ((with_reducible refine gate_callee (f := 82) rfl ?_); refine gl_ 9 Try.func82 #[.pointer (some ⟨g, 0, none⟩), .int .i64 (l1.length : Int)] ?_; (with_reducible refine (spec_l1Below.calls g s0_0 s0_1 s0_2 (l1.length : Int) t626 t627 t628 w0 _ ?side1 ?side2 A3.out).mono ?_); (case side1 => exact hi_ HI0.out); (case side2 => exact bl_ HB.out); rintro e w6 ⟨rfl, hi, hb, hk⟩; refine ⟨_, rfl, ?_⟩; replace HK := Aside0.mk (KeepBut.trans (kp_ HK.out) hk (.inl rfl)); replace HB := Aside0.mk (hb); replace HI0 := Aside0.mk (hi); (try clear hb); (try clear hb2); (try clear hk); (try clear hi); have p629 : 0 ≤ (t626 : Int) := od_; have q629 : t626 < (l1.length : Int) := od_; obtain ⟨ad629, e629, hx629_0⟩ := Kd.at_string HR1.out t626 p629 q629; cases e629; replace hx629_0 := keep_cell HK.out hx629_0 (by first | (rw [add_block]; exact hf1 _ rfl (by omega)) | exact hf1 _ rfl (by omega) | exact hf1 ad629 rfl (by omega)); replace p629 := eq_true p629; replace q629 := eq_true q629))
   go_ret
   exact ⟨er_, hi_ HI0.out, bl_ HB.out, kp_ HK.out⟩
  ·rw [if_neg c5] at H
   exact absurd H (by simp)
 ·rw [if_neg c4] at H
  exact absurd H (by simp)
end Go.Proofs.Ytbjbolblahlhcaa.PFnGlued
