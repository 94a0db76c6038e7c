/- Part 12 of the claim for FnGlued, of the chain from the printed contracts and the plain laws to the row. It has no condition of its own. -/
import Derived.Test.YtbjbolblahlhcaaG1ZFnGlued
import Derived.Test.YtbjbolblahlhcaaG4ZFnGlued
import Derived.Test.YtbjbolblahlhcaaG5ZFnGlued
import Derived.Test.YtbjbolblahlhcaaG2ZFnGlued
section
namespace Go.Proofs.Ytbjbolblahlhcaa.PFnGlued
open Go.RowKit Go.Proofs.YtbjbolblahlhcaaW.PrintWords Go.Proofs.YtbjbolblahlhcaaW.PrintLast Go.Proofs.YtbjbolblahlhcaaW.PrintMore
open Go.Proofs.Ytbjbolblahlhcaa.SortW (bk_ kr_ t_ f_)
open Go.Proofs.Ytbjbolblahlhcaa.SqW
attribute [local go_sem] max2_int min2_int max_two min_two max_three min_three max_four min_four
set_option maxHeartbeats 8000000
set_option maxRecDepth 100000
set_option linter.unusedVariables false
set_option linter.unusedSimpArgs false
def impl_shared.l0 : Nat → List Int → List Int → Int → Int → Option (List Int)
 | 0, _, _, _, _ => none
 | k + 1, x0, x3, x7, x8 => if x8 < x7 then (if 0 ≤ (wrap64 (x8 + 1)) then (if (wrap64 (x8 + 1)) ≤ (x0.length : Int) then ((impl_GcdOfList.f k (x0.take ((wrap64 (x8 + 1)) : Int).toNat)).bind fun t750 => (if x3.length < 17592186044416 then (impl_shared.l0 k x0 (x3 ++ [t750]) x7 (wrap64 (x8 + 1))) else (none))) else (none)) else (none)) else (some x3)
def impl_shared.f (k : Nat) (l0 : List Int) : Option (List Int) := impl_shared.l0 k l0 (([] : List Int)) (l0.length : Int) 0
theorem impl_shared.calls (k : Nat) (A0 : Option Addr) (c0 : Nat) (l0 : List Int) (r : List Int) (w : World) (hr0 : Kd.C (Kd.int .i64) w A0 l0.length l0) (hc0 : l0.length ≤ c0) (h : impl_shared.f k l0 = some r) :
 Calls Try.prog 123 #[.slice A0 l0.length c0] w fun e w' => ∃ v0_ : Value, e = .returned (v0_) ∧ Kd.R (Kd.int .i64) 3 w' w.heap.size (fun _ => True) v0_ r ∧ Below w.heap.size w w' := by
 have HR0 := Aside0.mk hr0
 have HC0 := Aside0.mk hc0
 clear hr0 hc0
 have HB := Aside0.mk (Below.refl w.heap.size w)
 have H := h
 clear h
 unfold impl_shared.f at H
 obtain ⟨y746, hy746⟩ : ∃ y_ : List Int, y_ = (([] : List Int)) := ⟨_, rfl⟩
 replace H : (impl_shared.l0 k l0 y746 (l0.length : Int) 0) = some r := hr_ hy746 H
 have Ny746 := Aside0.mk hy746
 clear hy746
 have H' := Aside0.mk H
 clear H
 go_enter Try.func123, Try.ntmps123
 go_wp2_with (first | ((with_reducible refine gate_dst (N := 5) rfl ?_); refine Kd.R_lit (Kd.int .i64) _ 3 ?hg (N := 5) ?hd (xs := ([] : List Int)) (inner := []) (ok := fun _ => True) (okp := fun _ => True) ?hr ?hp (fun _ hk => hk) trivial (Below.refl _ _) (Nat.le_refl _) (by simp) ?_; (case hd => rfl); (case hg => rfl); (case hr => first | (go_simp; done) | (go_simp; rfl)); (case hp => exact (Reps.none _ _)); intro v747 w2 ho3 hb hg_ hnew_; clear hg_ hnew_; (first | rw [← Ny746.out] at ho3 | (simp only [Int.reduceToNat] at ho3; rw [← Ny746.out] at ho3)); have HO748 := rl_ ho3 HB; replace HB := bs_ HB hb; clear hb ho3))
 go_loopg [3, 8] k (fun kq v3 v8 w' => ∃ (x3_1 : List Int) (x8_1 : Int), v8 = .int .i64 x8_1 ∧ Aside0 (impl_shared.l0 kq l0 x3_1 (l0.length : Int) x8_1 = some r) ∧ Aside0 (kq ≤ k) ∧ Aside0 (Kd.R (Kd.int .i64) 3 w' w.heap.size (fun _ => True) v3 x3_1) ∧ Aside0 (Below w.heap.size w w'))
 case atStart => exact ⟨(y746), (0), sd_, H', ⟨Nat.le_refl _⟩, ⟨kr_ HO748.out⟩, ⟨bl_ HB.out⟩⟩
 case round =>
  clear H'
  try clear c1
  try clear p2
  obtain ⟨x3_1, x8_1, rfl, HA, HK1, HO_3, HB⟩ := hrel
  cases gk with
  | zero => exact absurd HA.out (by simp [impl_shared.l0])
  | succ k1 =>
   have H := HA.out
   clear HA
   simp only [impl_shared.l0] at H
   by_cases c4 : x8_1 < (l0.length : Int)
   ·rw [if_pos c4] at H
    have c4b0 : decide (x8_1 < (l0.length : Int)) = true := decide_eq_true c4
    clear c4
    obtain ⟨ji5, hji5⟩ : ∃ j_ : Int, (wrap64 (x8_1 + 1)) = j_ := ⟨_, rfl⟩
    replace H : (if 0 ≤ (ji5) then (if (ji5) ≤ (l0.length : Int) then ((impl_GcdOfList.f k1 (l0.take ((ji5) : Int).toNat)).bind fun t750 => (if x3_1.length < 17592186044416 then (impl_shared.l0 k1 l0 (x3_1 ++ [t750]) (l0.length : Int) ji5) else (none))) else (none)) else (none)) = some r := by first | (rw [hji5] at H; exact H) | (simp only [hji5] at H ⊢; exact H)
    have hji5w : (IntKind.i64.wrap (x8_1 + 1)) = ji5 := (i64_w _).trans hji5
    by_cases c6 : 0 ≤ (ji5)
    ·rw [if_pos c6] at H
     have c6b0 := eq_true c6
     have c6b1 : decide (0 ≤ (ji5)) = true := decide_eq_true c6
     clear c6
     by_cases c7 : (ji5) ≤ (l0.length : Int)
     ·rw [if_pos c7] at H
      have c7b0 := eq_true c7
      have c7b1 : decide ((ji5) ≤ (l0.length : Int)) = true := decide_eq_true c7
      clear c7
      obtain ⟨t750, A8, H⟩ := ob_ H
      (try dsimp only at H)
      by_cases c9 : x3_1.length < 17592186044416
      ·rw [if_pos c9] at H
       have LMc9 := Aside0.mk c9
       clear c9
       obtain ⟨y751, hy751⟩ : ∃ y_ : List Int, y_ = (x3_1 ++ [t750]) := ⟨_, rfl⟩
       replace H : (impl_shared.l0 k1 l0 y751 (l0.length : Int) ji5) = some r := hr_ hy751 H
       have Ny751 := Aside0.mk hy751
       clear hy751
       have H' := Aside0.mk H
       clear H
       obtain ⟨i010, hi010, _, hsz10, _⟩ := info_parts info3
       obtain ⟨hcut10, hA10, hC10⟩ := print_take_of (P := Try.prog) (Value.int .i64) 0 22 3 .i64 Try.underlying22 hi010 hsz10 A0 c0 l0 (ji5) (od_) (od_) HC0.out
       have HR749 := Aside0.mk (Kd.C_of_reads (h1 := fun _ => rfl) (hA10 _ (Kd.reads_of_C HR0.out)))
       have HC749 := Aside0.mk hC10
       clear hA10 hC10 hi010 hsz10
       go_wp2_with (first | ((with_reducible refine gate_callee (f := 122) rfl ?_); refine goesL_ (some 16) rfl rfl Try.func122 (by kernel_rfl) rfl #[.slice A0 (l0.take ((ji5) : Int).toNat).length c0] rfl (by (try simp only [List.map_toArray, List.map_cons, List.map_nil]); first | done | (rw [show (l0.take ((ji5) : Int).toNat).length = (ji5).toNat from (by rw [List.length_take]; have h_ : ((ji5) : Int) ≤ (l0.length : Int) := od_; omega)] <;> rfl) | (simp only [hji5]; rfl) | rfl | (simp only [List.length_drop, List.length_take]; rfl)) ?_; (with_reducible refine (impl_GcdOfList.calls k1 _ _ (l0.take ((ji5) : Int).toNat) t750 _ ?side1 ?side2 A8.out).mono ?_); (case side1 => exact cs_ HR749 HB); (case side2 => exact HC749.out); rintro e w11 ⟨rfl, hb⟩; refine ⟨_, rfl, ?_⟩; replace HO_3 := rb_ HO_3 hb; replace HB := bs_ HB hb; (try clear hb); (try clear hb2); (try clear hk); (try clear hi)) | ((with_reducible refine gate_builtin (b := .append) (xs := #[.tmp 11, .tmp 17]) rfl ?_); at_builtin; refine Kd.R_append (Kd.int .i64) (w0 := w) w.heap.size rfl (.tmp 11) (.tmp 17) 22 3 (.int .i64 0) 8 rfl Try.underlying22 info3 rfl (by decide) (by omega) u3 x3_1 t750 [.int .i64 t750] (fun _ => True) (fun _ => False) rfl rfl ?aP (fun _ hk => hk.elim) ?aF ?aO ?aB ?aS ?aL ?_; (case aP => exact rfl); (case aB => exact (bl_ HB.out)); (case aF => exact (fun _ _ => trivial)); (case aO => exact (kr_ HO_3.out)); (case aS => exact (below_size (bl_ HB.out))); (case aL => have := LMc9.out; omega); intro v752 w12 ho hb hg hat; rw [← Ny751.out] at ho; have n0_ := Aside0.mk (hb); have n1_ := Aside0.mk (ho); clear HB; clear HO_3; have HB := n0_; have HO753 := n1_; clear n0_ n1_; clear ho hb hg hat))
       go_roundg k1
       case measure => have := HK1.out; omega
       case rel => exact ⟨(y751), (ji5), (by first | rfl | (simp; done) | (simp only [← hji5] <;> (first | rfl | simp)) | (simp [*]; done)), H', ⟨by have := HK1.out; omega⟩, ⟨kr_ HO753.out⟩, ⟨bl_ HB.out⟩⟩
      ·rw [if_neg c9] at H
       exact absurd H (by simp)
     ·rw [if_neg c7] at H
      exact absurd H (by simp)
    ·rw [if_neg c6] at H
     exact absurd H (by simp)
   ·rw [if_neg c4] at H
    have c4b0 : decide (x8_1 < (l0.length : Int)) = false := decide_eq_false c4
    clear c4
    obtain rfl := Option.some.inj H
    go_wp2
    go_ret
    exact ⟨_, er_, kr_ HO_3.out, bl_ HB.out⟩
mutual
def impl_IsTelescopic.j0 : Nat → List Int → Bool → Option (Bool)
 | 0, _, _ => none
 | k + 1, x0, x15 => if x15 = true then (some false) else ((impl_shared.f k x0).bind fun t756 => (impl_IsTelescopic.l0 k x0 t756 1))
def impl_IsTelescopic.l0 : Nat → List Int → List Int → Int → Option (Bool)
 | 0, _, _, _ => none
 | k + 1, x0, x3, x4 => if x4 < (x0.length : Int) then (if 0 ≤ x4 then (if x4 ≤ (x0.length : Int) then (impl_IsTelescopic.l1 k x0 x3 x4 (([] : List Int)) (x0.take (x4 : Int).toNat) ((x0.take (x4 : Int).toNat).length : Int) 0) else (none)) else (none)) else (some true)
def impl_IsTelescopic.l1 : Nat → List Int → List Int → Int → List Int → List Int → Int → Int → Option (Bool)
 | 0, _, _, _, _, _, _, _ => none
 | k + 1, x0, x3, x4, x5, x27, x28, x29 => if x29 < x28 then (if 0 ≤ x29 then (if x29 < (x27.length : Int) then (if 0 ≤ (wrap64 (x4 - 1)) then (if (wrap64 (x4 - 1)) < (x3.length : Int) then (if (rd x3 (wrap64 (x4 - 1))) = 0 then (none) else (if x5.length < 17592186044416 then (impl_IsTelescopic.l1 k x0 x3 x4 (x5 ++ [wrap64 (Int.tdiv (rd x27 x29) (rd x3 (wrap64 (x4 - 1))))]) x27 x28 (wrap64 (x29 + 1))) else (none))) else (none)) else (none)) else (none)) else (none)) else (if 0 ≤ x4 then (if x4 < (x0.length : Int) then (if x4 < (x3.length : Int) then (if (rd x3 x4) = 0 then (none) else ((impl_Generates.f k x5 (wrap64 (Int.tdiv (rd x0 x4) (rd x3 x4)))).bind fun t770 => (if t770 = true then (impl_IsTelescopic.l0 k x0 x3 (wrap64 (x4 + 1))) else (some false)))) else (none)) else (none)) else (none))
end
def impl_IsTelescopic.f (k : Nat) (l0 : List Int) : Option (Bool) := (impl_usable.f k l0).bind fun t754 => (if t754 = true then ((impl_GcdOfList.f k l0).bind fun t755 => (impl_IsTelescopic.j0 k l0 (t755 != 1))) else (impl_IsTelescopic.j0 k l0 true))
def impl_IsTelescopic.T13 : Bool × List (List Nat × List Nat) := (true, [([], []), ([], []), ([], []), ([1, 2], [1, 2]), ([3], [3]), ([], []), ([], []), ([5, 6], [5, 6]), ([7], [7]), ([4, 8], [4, 8]), ([0, 9], [0, 9]), ([10], [10])])
def impl_IsTelescopic.B13 : List Nat := [0, 0, 0, 6, 14, 0, 0, 96, 224, 510, 1023, 2047]
theorem impl_IsTelescopic.tab13 : rtab .any (opsOf Try.f67 13) = impl_IsTelescopic.T13 := by kernel_rfl
theorem impl_IsTelescopic.bits13 : waitsOk impl_IsTelescopic.T13.2 impl_IsTelescopic.B13 = true := by kernel_rfl
theorem impl_IsTelescopic.calls (k : Nat) (A0 : Option Addr) (c0 : Nat) (l0 : List Int) (r : Bool) (w : World) (hr0 : Kd.C (Kd.int .i64) w A0 l0.length l0) (hc0 : l0.length ≤ c0) (h : impl_IsTelescopic.f k l0 = some r) :
 Calls Try.prog 67 #[.slice A0 l0.length c0] w fun e w' => e = .returned (.bool r) ∧ Below w.heap.size w w' := by
 have HR0 := Aside0.mk hr0
 have HC0 := Aside0.mk hc0
 clear hr0 hc0
 have HB := Aside0.mk (Below.refl w.heap.size w)
 have H := h
 clear h
 unfold impl_IsTelescopic.f at H
 have HC2 := Aside0.mk H
 clear H
 go_enter Try.func67, Try.ntmps67
 go_upto_region 1 with (fail)
 go_cut [15] (fun v15 wc => ∃ (kq : Nat) (x15_1 : Bool), v15 = .bool x15_1 ∧ Aside0 (impl_IsTelescopic.j0 kq l0 x15_1 = some r) ∧ Aside0 (kq ≤ k) ∧ Aside0 (Below w.heap.size w wc))
 case first =>
  have H := HC2.out
  clear HC2
  obtain ⟨t754, A3, H⟩ := ob_ H
  (try dsimp only at H)
  by_cases c4 : t754 = true
  ·subst c4
   rw [if_pos rfl] at H
   obtain ⟨t755, A5, H⟩ := ob_ H
   (try dsimp only at H)
   have H' := Aside0.mk H
   clear H
   go_wp2_with (first | ((with_reducible refine gate_callee (f := 121) rfl ?_); refine gl_ 9 Try.func121 #[.slice A0 l0.length c0] ?_; (with_reducible refine (impl_usable.calls k _ _ l0 true _ ?side1 ?side2 A3.out).mono ?_); (case side1 => exact cs_ HR0 HB); (case side2 => exact HC0.out); rintro e w' ⟨rfl, ⟨nd, rfl⟩⟩; refine ⟨_, rfl, ?_⟩) | (go_at_call 122; (with_reducible refine (impl_GcdOfList.calls k _ _ l0 t755 _ ?side1 ?side2 A5.out).mono ?_); (case side1 => exact cs_ HR0 HB); (case side2 => exact HC0.out); rintro e w6 ⟨rfl, hb⟩; replace HB := bs_ HB hb; (try clear hb); (try clear hb2); (try clear hk); (try clear hi)))
   go_meet
   case rel => exact ⟨_, ((t755 != 1)), sd_, H', ⟨le_⟩, ⟨bl_ HB.out⟩⟩
  ·obtain rfl := Bool.eq_false_iff.mpr c4
   rw [if_neg nf_] at H
   have H' := Aside0.mk H
   clear H
   go_wp2_with (first | ((with_reducible refine gate_callee (f := 121) rfl ?_); refine gl_ 9 Try.func121 #[.slice A0 l0.length c0] ?_; (with_reducible refine (impl_usable.calls k _ _ l0 false _ ?side1 ?side2 A3.out).mono ?_); (case side1 => exact cs_ HR0 HB); (case side2 => exact HC0.out); rintro e w' ⟨rfl, ⟨nd, rfl⟩⟩; refine ⟨_, rfl, ?_⟩))
   go_meet
   case rel => exact ⟨_, (true), sd_, H', ⟨le_⟩, ⟨bl_ HB.out⟩⟩
 case rest =>
  clear HC2
  try clear c1
  try clear p2
  try clear c4
  try clear c6
  obtain ⟨kq, x15_1, rfl, HA, HJ1, HB⟩ := hcut
  cases kq with
  | zero => exact absurd HA.out (by simp [impl_IsTelescopic.j0])
  | succ kj1 =>
   have H := HA.out
   clear HA
   simp only [impl_IsTelescopic.j0] at H
   by_cases c7 : x15_1 = true
   ·subst c7
    rw [if_pos rfl] at H
    obtain rfl := Option.some.inj H
    go_wp2
    go_ret
    exact ⟨er_, bl_ HB.out⟩
   ·obtain rfl := Bool.eq_false_iff.mpr c7
    rw [if_neg nf_] at H
    obtain ⟨t756, A8, H⟩ := ob_ H
    (try dsimp only at H)
    have H' := Aside0.mk H
    clear H
    go_wp2_with (first | ((with_reducible refine gate_callee (f := 123) rfl ?_); refine gl_ 17 Try.func123 #[.slice A0 l0.length c0] ?_; (with_reducible refine (impl_shared.calls kj1 _ _ l0 t756 _ ?side1 ?side2 A8.out).mono ?_); (case side1 => exact cs_ HR0 HB); (case side2 => exact HC0.out); rintro e w9 ⟨v757, rfl, ho0, hb⟩; refine ⟨_, rfl, ?_⟩; have HO758 := rl_ ho0 HB; replace HB := bs_ HB hb; (try clear hb); (try clear hb2); (try clear hk); (try clear hi); (try clear ho0)))
    go_loopg [4] kj1 (fun kq v4 w' => ∃ (x4_2 : Int), v4 = .int .i64 x4_2 ∧ Aside0 (impl_IsTelescopic.l0 kq l0 t756 x4_2 = some r) ∧ Aside0 (kq ≤ kj1) ∧ Aside0 (Kd.R (Kd.int .i64) 3 w' w.heap.size (fun _ => True) v757 t756) ∧ Aside0 (Below w.heap.size w w'))
    case atStart => exact ⟨(1), sd_, H', ⟨Nat.le_refl _⟩, ⟨kr_ HO758.out⟩, ⟨bl_ HB.out⟩⟩
    case round =>
     clear H'
     try clear c1
     try clear p2
     try clear c4
     try clear c6
     try clear c7
     try clear p2
     obtain ⟨x4_2, rfl, HA, HK2, HO_3, HB⟩ := hrel
     cases gk with
     | zero => exact absurd HA.out (by simp [impl_IsTelescopic.l0])
     | succ k2 =>
      have H := HA.out
      clear HA
      simp only [impl_IsTelescopic.l0] at H
      by_cases c10 : x4_2 < (l0.length : Int)
      ·rw [if_pos c10] at H
       have c10b0 : decide (x4_2 < (l0.length : Int)) = true := decide_eq_true c10
       clear c10
       obtain ⟨y759, hy759⟩ : ∃ y_ : List Int, y_ = (([] : List Int)) := ⟨_, rfl⟩
       replace H : (if 0 ≤ x4_2 then (if x4_2 ≤ (l0.length : Int) then (impl_IsTelescopic.l1 k2 l0 t756 x4_2 y759 (l0.take (x4_2 : Int).toNat) ((l0.take (x4_2 : Int).toNat).length : Int) 0) else (none)) else (none)) = some r := hr_ hy759 H
       have Ny759 := Aside0.mk hy759
       clear hy759
       by_cases c11 : 0 ≤ x4_2
       ·rw [if_pos c11] at H
        have c11b0 := eq_true c11
        have c11b1 : decide (0 ≤ x4_2) = true := decide_eq_true c11
        clear c11
        by_cases c12 : x4_2 ≤ (l0.length : Int)
        ·rw [if_pos c12] at H
         have c12b0 := eq_true c12
         have c12b1 : decide (x4_2 ≤ (l0.length : Int)) = true := decide_eq_true c12
         clear c12
         have H' := Aside0.mk H
         clear H
         go_wp2_with (first | ((with_reducible refine gate_dst (N := 24) rfl ?_); refine Kd.R_lit (Kd.int .i64) _ 3 ?hg (N := 24) ?hd (xs := ([] : List Int)) (inner := []) (ok := fun _ => True) (okp := fun _ => True) ?hr ?hp (fun _ hk => hk) trivial (Below.refl _ _) (Nat.le_refl _) (by simp) ?_; (case hd => rfl); (case hg => rfl); (case hr => first | (go_simp; done) | (go_simp; rfl)); (case hp => exact (Reps.none _ _)); intro v760 w13 ho14 hb hg_ hnew_; clear hg_ hnew_; (first | rw [← Ny759.out] at ho14 | (simp only [Int.reduceToNat] at ho14; rw [← Ny759.out] at ho14)); have HO761 := Aside0.mk (Kd.R_lower (Kd.R_new' ho14 (Kd.R_lt (kr_ HO_3.out))) (below_size (bl_ HB.out))); replace HO_3 := Aside0.mk (Kd.R_elder' (kr_ HO_3.out) (Kd.R_base ho14) hb); replace HB := bs_ HB hb; clear hb ho14; obtain ⟨i015, hi015, _, hsz15, _⟩ := info_parts info3; obtain ⟨hcut15, hA15, hC15⟩ := print_take_of (P := Try.prog) (Value.int .i64) 0 22 3 .i64 Try.underlying22 hi015 hsz15 A0 c0 l0 x4_2 (od_) (od_) HC0.out; have HR762 := Aside0.mk (Kd.C_of_reads (h1 := fun _ => rfl) (hA15 _ (Kd.reads_of_C HR0.out))); have HC762 := Aside0.mk hC15; clear hA15 hC15 hi015 hsz15))
         go_loopg [5, 29] k2 (fun kq v5 v29 w' => ∃ (x5_3 : List Int) (x29_3 : Int), v29 = .int .i64 x29_3 ∧ Aside0 (impl_IsTelescopic.l1 kq l0 t756 x4_2 x5_3 (l0.take (x4_2 : Int).toNat) ((l0.take (x4_2 : Int).toNat).length : Int) x29_3 = some r) ∧ Aside0 (kq ≤ k2) ∧ Aside0 (Kd.R (Kd.int .i64) 3 w' w.heap.size (fun k_ => some k_ ≠ (v5 : Value).ownBlock) v757 t756) ∧ Aside0 (Kd.R (Kd.int .i64) 3 w' w.heap.size (fun k_ => some k_ ≠ (v757 : Value).ownBlock) v5 x5_3) ∧ Aside0 (Below w.heap.size w w'))
         case atStart => exact ⟨(y759), (0), sd_, H', ⟨Nat.le_refl _⟩, ⟨kr_ (Kd.R_mono HO_3.out (fun _ hk => hk.2))⟩, ⟨kr_ (Kd.R_mono HO761.out (fun _ hk => hk.2))⟩, ⟨bl_ HB.out⟩⟩
         case round =>
          clear H'
          try clear c1
          try clear p2
          try clear c4
          try clear c6
          try clear c7
          try clear c10
          skip
          try clear c11
          try clear c11b0
          skip
          try clear c12
          try clear c12b0
          skip
          try clear p2
          obtain ⟨x5_3, x29_3, rfl, HA, HK3, HO_3, HO_5, HB⟩ := hrel
          cases gk with
          | zero => exact absurd HA.out (by simp [impl_IsTelescopic.l1])
          | succ k3 =>
           have H := HA.out
           clear HA
           simp only [impl_IsTelescopic.l1] at H
           by_cases c16 : x29_3 < ((l0.take (x4_2 : Int).toNat).length : Int)
           ·rw [if_pos c16] at H
            have c16b0 : decide (x29_3 < ((l0.take (x4_2 : Int).toNat).length : Int)) = true := decide_eq_true c16
            (try (have c16b0t := c16b0; rw [show ((l0.take (x4_2 : Int).toNat).length : Int) = max x4_2 0 from by rw [List.length_take]; have := of_decide_eq_true c10b0; have := of_decide_eq_true c11b1; have := of_decide_eq_true c12b1; omega] at c16b0t))
            clear c16
            by_cases c17 : 0 ≤ x29_3
            ·rw [if_pos c17] at H
             have c17b0 : decide (0 ≤ x29_3) = true := decide_eq_true c17
             clear c17
             by_cases c18 : x29_3 < ((l0.take (x4_2 : Int).toNat).length : Int)
             ·rw [if_pos c18] at H
              have c18b0 : decide (x29_3 < ((l0.take (x4_2 : Int).toNat).length : Int)) = true := decide_eq_true c18
              (try (have c18b0t := c18b0; rw [show ((l0.take (x4_2 : Int).toNat).length : Int) = max x4_2 0 from by rw [List.length_take]; have := of_decide_eq_true c10b0; have := of_decide_eq_true c11b1; have := of_decide_eq_true c12b1; have := of_decide_eq_true c16b0; omega] at c18b0t))
              clear c18
              obtain ⟨ji19, hji19⟩ : ∃ j_ : Int, (wrap64 (x4_2 - 1)) = j_ := ⟨_, rfl⟩
              replace H : (if 0 ≤ (ji19) then (if (ji19) < (t756.length : Int) then (if (rd t756 (ji19)) = 0 then (none) else (if x5_3.length < 17592186044416 then (impl_IsTelescopic.l1 k3 l0 t756 x4_2 (x5_3 ++ [wrap64 (Int.tdiv (rd (l0.take (x4_2 : Int).toNat) x29_3) (rd t756 (ji19)))]) (l0.take (x4_2 : Int).toNat) ((l0.take (x4_2 : Int).toNat).length : Int) (wrap64 (x29_3 + 1))) else (none))) else (none)) else (none)) = some r := by first | (rw [hji19] at H; exact H) | (simp only [hji19] at H ⊢; exact H)
              have hji19w : (IntKind.i64.wrap (x4_2 - 1)) = ji19 := (i64_w _).trans hji19
              by_cases c20 : 0 ≤ (ji19)
              ·rw [if_pos c20] at H
               have c20b0 : decide (0 ≤ (ji19)) = true := decide_eq_true c20
               clear c20
               by_cases c21 : (ji19) < (t756.length : Int)
               ·rw [if_pos c21] at H
                have c21b0 : decide ((ji19) < (t756.length : Int)) = true := decide_eq_true c21
                clear c21
                by_cases c22 : (rd t756 (ji19)) = 0
                ·rw [if_pos c22] at H
                 exact absurd H (by simp)
                ·rw [if_neg c22] at H
                 have c22b0 : ((rd t756 (ji19)) == 0) = false := beq_eq_false_iff_ne.mpr c22
                 have c22b1 : ((rd t756 (ji19)) != 0) = true := bne_iff_ne.mpr c22
                 by_cases c23 : x5_3.length < 17592186044416
                 ·rw [if_pos c23] at H
                  have LMc23 := Aside0.mk c23
                  clear c23
                  obtain ⟨y765, hy765⟩ : ∃ y_ : List Int, y_ = (x5_3 ++ [wrap64 (Int.tdiv (rd (l0.take (x4_2 : Int).toNat) x29_3) (rd t756 (ji19)))]) := ⟨_, rfl⟩
                  replace H : (impl_IsTelescopic.l1 k3 l0 t756 x4_2 y765 (l0.take (x4_2 : Int).toNat) ((l0.take (x4_2 : Int).toNat).length : Int) (wrap64 (x29_3 + 1))) = some r := hr_ hy765 H
                  have Ny765 := Aside0.mk hy765
                  clear hy765
                  have H' := Aside0.mk H
                  clear H
                  have p763 : 0 ≤ (x29_3 : Int) := od_
                  have q763 : x29_3 < ((l0.take (x4_2 : Int).toNat).length : Int) := od_
                  obtain ⟨ad763, e763, hx763_0⟩ := Kd.at_int HR762.out x29_3 p763 q763
                  cases e763
                  replace hx763_0 := (HB.out.cell (World.block_lt_of_cell? w _ hx763_0)).trans hx763_0
                  replace p763 := eq_true p763
                  replace q763 := eq_true q763
                  (try (have q763t := of_eq_true q763; rw [show ((l0.take (x4_2 : Int).toNat).length : Int) = max x4_2 0 from by rw [List.length_take]; have := of_decide_eq_true c10b0; have := of_decide_eq_true c11b1; have := of_decide_eq_true c12b1; have := of_decide_eq_true c16b0; have := of_decide_eq_true c18b0; omega] at q763t; replace q763t := eq_true q763t))
                  obtain ⟨Ao24, co24, eo24⟩ := Kd.R_slice HO_3.out
                  subst eo24
                  have p764 : 0 ≤ ((ji19) : Int) := od_
                  have q764 : (ji19) < (t756.length : Int) := od_
                  obtain ⟨ad764, e764, hx764_0⟩ := Kd.at_int (Kd.R_reads' HO_3.out).2.2 (ji19) p764 q764
                  cases e764
                  replace p764 := eq_true p764
                  replace q764 := eq_true q764
                  go_wp2_with (first | ((with_reducible refine gate_builtin (b := .append) (xs := #[.tmp 33, .tmp 41]) rfl ?_); at_builtin; refine Kd.R_append (Kd.int .i64) (w0 := w) w.heap.size rfl (.tmp 33) (.tmp 41) 22 3 (.int .i64 0) 8 rfl Try.underlying22 info3 rfl (by decide) (by omega) u5 x5_3 (wrap64 (Int.tdiv (rd (l0.take (x4_2 : Int).toNat) x29_3) (rd t756 (ji19)))) [.int .i64 (wrap64 (Int.tdiv (rd (l0.take (x4_2 : Int).toNat) x29_3) (rd t756 (ji19))))] (fun k_ => some k_ ≠ (.slice (some ad764) t756.length co24 : Value).ownBlock) (fun _ => False) rfl rfl ?aP (fun _ hk => hk.elim) ?aF ?aO ?aB ?aS ?aL ?_; (case aP => exact rfl); (case aB => exact (bl_ HB.out)); (case aF => exact (fun k_ hk => Kd.fresh' (Kd.R_lt (kr_ HO_3.out)) k_ hk)); (case aO => exact (kr_ HO_5.out)); (case aS => exact (below_size (bl_ HB.out))); (case aL => have := LMc23.out; omega); intro v766 w25 ho hb hg hat; rw [← Ny765.out] at ho; have n0_ := Aside0.mk (Kd.R_after (ok := (fun _ => True)) (kr_ (Kd.R_mono HO_3.out (fun _ hk => ⟨trivial, by first | exact hk | exact SortW.own_len hk⟩))) hg hat); have n1_ := Aside0.mk (hb); have n2_ := Aside0.mk (ho); clear HO_3; clear HB; clear HO_5; have HO_3 := n0_; have HB := n1_; have HO767 := n2_; clear n0_ n1_ n2_; clear ho hb hg hat))
                  go_roundg k3
                  case measure => have := HJ1.out; have := HK2.out; have := HK3.out; omega
                  case rel => exact ⟨(y765), (wrap64 (x29_3 + 1)), sd_, H', ⟨by have := HJ1.out; have := HK2.out; have := HK3.out; omega⟩, ⟨kr_ (Kd.R_mono HO_3.out (fun _ hk => hk.2))⟩, ⟨kr_ HO767.out⟩, ⟨bl_ HB.out⟩⟩
                 ·rw [if_neg c23] at H
                  exact absurd H (by simp)
               ·rw [if_neg c21] at H
                exact absurd H (by simp)
              ·rw [if_neg c20] at H
               exact absurd H (by simp)
             ·rw [if_neg c18] at H
              exact absurd H (by simp)
            ·rw [if_neg c17] at H
             exact absurd H (by simp)
           ·rw [if_neg c16] at H
            have c16b0 : decide (x29_3 < ((l0.take (x4_2 : Int).toNat).length : Int)) = false := decide_eq_false c16
            (try (have c16b0t := c16b0; rw [show ((l0.take (x4_2 : Int).toNat).length : Int) = max x4_2 0 from by rw [List.length_take]; have := of_decide_eq_true c10b0; have := of_decide_eq_true c11b1; have := of_decide_eq_true c12b1; omega] at c16b0t))
            clear c16
            by_cases c26 : 0 ≤ x4_2
            ·rw [if_pos c26] at H
             have c26b0 : decide (0 ≤ x4_2) = true := decide_eq_true c26
             clear c26
             by_cases c27 : x4_2 < (l0.length : Int)
             ·rw [if_pos c27] at H
              have c27b0 : decide (x4_2 < (l0.length : Int)) = true := decide_eq_true c27
              clear c27
              by_cases c28 : x4_2 < (t756.length : Int)
              ·rw [if_pos c28] at H
               have c28b0 : decide (x4_2 < (t756.length : Int)) = true := decide_eq_true c28
               clear c28
               by_cases c29 : (rd t756 x4_2) = 0
               ·rw [if_pos c29] at H
                exact absurd H (by simp)
               ·rw [if_neg c29] at H
                have c29b0 : ((rd t756 x4_2) == 0) = false := beq_eq_false_iff_ne.mpr c29
                have c29b1 : ((rd t756 x4_2) != 0) = true := bne_iff_ne.mpr c29
                obtain ⟨t770, A30, H⟩ := ob_ H
                (try dsimp only at H)
                by_cases c31 : t770 = true
                ·subst c31
                 rw [if_pos rfl] at H
                 have H' := Aside0.mk H
                 clear H
                 try go_wp2
                 replace HO_3 := Aside0.mk (Kd.R_drew HO_3.out)
                 replace HO_5 := Aside0.mk (Kd.R_drew HO_5.out)
                 replace HB := Aside0.mk (below_drew1 HB.out)
                 have p768 : 0 ≤ (x4_2 : Int) := od_
                 have q768 : x4_2 < (l0.length : Int) := od_
                 obtain ⟨ad768, e768, hx768_0⟩ := Kd.at_int HR0.out x4_2 p768 q768
                 have hw768_0 := hx768_0
                 cases e768
                 replace hx768_0 := (HB.out.cell (World.block_lt_of_cell? w _ hx768_0)).trans hx768_0
                 replace p768 := eq_true p768
                 replace q768 := eq_true q768
                 obtain ⟨Ao33, co33, eo33⟩ := Kd.R_slice HO_3.out
                 (first | subst eo33 | (injection eo33 with f1_ f2_ f3_; have f4_ := f1_.symm; have f5_ := f3_.symm; clear f1_ f2_ f3_; subst f4_; subst f5_))
                 have p769 : 0 ≤ (x4_2 : Int) := od_
                 have q769 : x4_2 < (t756.length : Int) := od_
                 obtain ⟨ad769, e769, hx769_0⟩ := Kd.at_int (Kd.R_reads' HO_3.out).2.2 x4_2 p769 q769
                 cases e769
                 replace p769 := eq_true p769
                 replace q769 := eq_true q769
                 obtain ⟨Ao34, co34, eo34⟩ := Kd.R_slice HO_5.out
                 (first | subst eo34 | (injection eo34 with f1_ f2_ f3_; have f4_ := f1_.symm; have f5_ := f3_.symm; clear f1_ f2_ f3_; subst f4_; subst f5_))
                 refine start_ (n := 12) (S := fun w' => w'.cell? (ad768.add (x4_2).toNat) = some (.int .i64 (rd l0 x4_2)) ∧ w'.cell? (ad769.add (x4_2).toNat) = some (.int .i64 (rd t756 x4_2))) (ds := []) (fl_ 12 0) (by kernel_rfl) rfl rfl ⟨((HB.out.cell (World.block_lt_of_cell? w _ hw768_0)).trans hw768_0), hx769_0⟩ (fun hHeld => ?_); refine with_tabW impl_IsTelescopic.tab13 impl_IsTelescopic.bits13 (fun HT_ HW_ => ?_)
                 generalize wr.drew = w32 at HO_3 HO_5 HB hx768_0 hx769_0 hHeld ⊢
                 refine pu_ 0 44 (fl_ 12 1) ?_
                 refine pu_ 1 45 (fl_ 12 2) ?_
                 refine pu_ 2 46 (fl_ 12 3) ?_
                 refine pu_ 3 47 (fl_ 12 4) ?_
                 refine pu_ 5 49 (fm_ 12 47) ?_
                 refine pu_ 6 50 (fm_ 12 111) ?_
                 refine pu_ 7 51 (fm_ 12 239) ?_
                 refine ta_ 4 48 (fl_ 12 8) ?_
                 refine ta_ 8 52 (fl_ 12 9) ?_
                 refine pu_ 9 53 (fl_ 12 10) ?_
                 refine on_ 10 54 (fl_ 12 11) fun K hK => ?_
                 refine go_ Try.func124 #[.slice Ao34 x5_3.length co34, .int .i64 (wrap64 (Int.tdiv (rd l0 x4_2) (rd t756 x4_2)))] ?_
                 with_reducible refine (impl_Generates.calls k3 _ _ x5_3 (wrap64 (Int.tdiv (rd l0 x4_2) (rd t756 x4_2))) true _ ?side1 ?side2 A30.out).mono ?_
                 (case side1 => exact rs_ HO_5)
                 (case side2 => exact (Kd.R_reads' HO_5.out).2.1)
                 rintro e w35 ⟨rfl, hb⟩
                 have HS1_ := (hb.cell (World.block_lt_of_cell? _ _ (hHeld.2))).trans (hHeld.2)
                 refine ⟨_, rfl, ?_⟩
                 replace HO_3 := rb_ HO_3 hb
                 replace HO_5 := rb_ HO_5 hb
                 replace HB := bs_ HB hb
                 (try clear hb)
                 (try clear hb2)
                 (try clear hk)
                 (try clear hi)
                 refine hK.out _ _ ⟨((HB.out.cell (World.block_lt_of_cell? w _ hw768_0)).trans hw768_0), HS1_⟩ (fun hHeld => ?_)
                 clear hK K
                 refine no_ 54 ?_
                 refine pu_ 11 55 (fl_ 12 12) ?_
                 refine done_ (done_of HT_.out (by kernel_rfl)) ?_
                 try go_wp2
                 go_roundg k3
                 case measure => have := HJ1.out; have := HK2.out; have := HK3.out; omega
                 case rel => exact ⟨(wrap64 (x4_2 + 1)), sd_, H', ⟨by have := HJ1.out; have := HK2.out; have := HK3.out; omega⟩, ⟨kr_ (Kd.R_mono HO_3.out (fun _ hk => trivial))⟩, ⟨bl_ HB.out⟩⟩
                ·obtain rfl := Bool.eq_false_iff.mpr c31
                 rw [if_neg nf_] at H
                 obtain rfl := Option.some.inj H
                 try go_wp2
                 replace HO_3 := Aside0.mk (Kd.R_drew HO_3.out)
                 replace HO_5 := Aside0.mk (Kd.R_drew HO_5.out)
                 replace HB := Aside0.mk (below_drew1 HB.out)
                 have p768 : 0 ≤ (x4_2 : Int) := od_
                 have q768 : x4_2 < (l0.length : Int) := od_
                 obtain ⟨ad768, e768, hx768_0⟩ := Kd.at_int HR0.out x4_2 p768 q768
                 have hw768_0 := hx768_0
                 cases e768
                 replace hx768_0 := (HB.out.cell (World.block_lt_of_cell? w _ hx768_0)).trans hx768_0
                 replace p768 := eq_true p768
                 replace q768 := eq_true q768
                 obtain ⟨Ao37, co37, eo37⟩ := Kd.R_slice HO_3.out
                 (first | subst eo37 | (injection eo37 with f1_ f2_ f3_; have f4_ := f1_.symm; have f5_ := f3_.symm; clear f1_ f2_ f3_; subst f4_; subst f5_))
                 have p769 : 0 ≤ (x4_2 : Int) := od_
                 have q769 : x4_2 < (t756.length : Int) := od_
                 obtain ⟨ad769, e769, hx769_0⟩ := Kd.at_int (Kd.R_reads' HO_3.out).2.2 x4_2 p769 q769
                 cases e769
                 replace p769 := eq_true p769
                 replace q769 := eq_true q769
                 obtain ⟨Ao38, co38, eo38⟩ := Kd.R_slice HO_5.out
                 (first | subst eo38 | (injection eo38 with f1_ f2_ f3_; have f4_ := f1_.symm; have f5_ := f3_.symm; clear f1_ f2_ f3_; subst f4_; subst f5_))
                 refine start_ (n := 12) (S := fun w' => w'.cell? (ad768.add (x4_2).toNat) = some (.int .i64 (rd l0 x4_2)) ∧ w'.cell? (ad769.add (x4_2).toNat) = some (.int .i64 (rd t756 x4_2))) (ds := []) (fl_ 12 0) (by kernel_rfl) rfl rfl ⟨((HB.out.cell (World.block_lt_of_cell? w _ hw768_0)).trans hw768_0), hx769_0⟩ (fun hHeld => ?_); refine with_tabW impl_IsTelescopic.tab13 impl_IsTelescopic.bits13 (fun HT_ HW_ => ?_)
                 generalize wr.drew = w36 at HO_3 HO_5 HB hx768_0 hx769_0 hHeld ⊢
                 refine pu_ 0 44 (fl_ 12 1) ?_
                 refine pu_ 1 45 (fl_ 12 2) ?_
                 refine pu_ 2 46 (fl_ 12 3) ?_
                 refine pu_ 3 47 (fl_ 12 4) ?_
                 refine pu_ 5 49 (fm_ 12 47) ?_
                 refine pu_ 6 50 (fm_ 12 111) ?_
                 refine pu_ 7 51 (fm_ 12 239) ?_
                 refine ta_ 4 48 (fl_ 12 8) ?_
                 refine ta_ 8 52 (fl_ 12 9) ?_
                 refine pu_ 9 53 (fl_ 12 10) ?_
                 refine on_ 10 54 (fl_ 12 11) fun K hK => ?_
                 refine go_ Try.func124 #[.slice Ao38 x5_3.length co38, .int .i64 (wrap64 (Int.tdiv (rd l0 x4_2) (rd t756 x4_2)))] ?_
                 with_reducible refine (impl_Generates.calls k3 _ _ x5_3 (wrap64 (Int.tdiv (rd l0 x4_2) (rd t756 x4_2))) false _ ?side1 ?side2 A30.out).mono ?_
                 (case side1 => exact rs_ HO_5)
                 (case side2 => exact (Kd.R_reads' HO_5.out).2.1)
                 rintro e w39 ⟨rfl, hb⟩
                 have HS1_ := (hb.cell (World.block_lt_of_cell? _ _ (hHeld.2))).trans (hHeld.2)
                 refine ⟨_, rfl, ?_⟩
                 replace HO_3 := rb_ HO_3 hb
                 replace HO_5 := rb_ HO_5 hb
                 replace HB := bs_ HB hb
                 (try clear hb)
                 (try clear hb2)
                 (try clear hk)
                 (try clear hi)
                 refine hK.out _ _ ⟨((HB.out.cell (World.block_lt_of_cell? w _ hw768_0)).trans hw768_0), HS1_⟩ (fun hHeld => ?_)
                 clear hK K
                 refine no_ 54 ?_
                 refine pu_ 11 55 (fl_ 12 12) ?_
                 refine done_ (done_of HT_.out (by kernel_rfl)) ?_
                 try go_wp2
                 go_ret
                 exact ⟨er_, bl_ HB.out⟩
              ·rw [if_neg c28] at H
               exact absurd H (by simp)
             ·rw [if_neg c27] at H
              exact absurd H (by simp)
            ·rw [if_neg c26] at H
             exact absurd H (by simp)
        ·rw [if_neg c12] at H
         exact absurd H (by simp)
       ·rw [if_neg c11] at H
        exact absurd H (by simp)
      ·rw [if_neg c10] at H
       have c10b0 : decide (x4_2 < (l0.length : Int)) = false := decide_eq_false c10
       clear c10
       obtain rfl := Option.some.inj H
       go_wp2
       go_ret
       exact ⟨er_, bl_ HB.out⟩
def impl_total.l0 : Nat → Int → List Int → Int → Int → Option (Int)
 | 0, _, _, _, _ => none
 | k + 1, x3, x6, x7, x8 => if x8 < x7 then (if 0 ≤ x8 then (if x8 < (x6.length : Int) then (impl_total.l0 k (wrap64 (x3 + (rd x6 x8))) x6 x7 (wrap64 (x8 + 1))) else (none)) else (none)) else (some x3)
def impl_total.f (k : Nat) (l0 : List Int) : Option (Int) := impl_total.l0 k 0 l0 (l0.length : Int) 0
theorem impl_total.calls (k : Nat) (A0 : Option Addr) (c0 : Nat) (l0 : List Int) (r : Int) (w : World) (hr0 : Kd.C (Kd.int .i64) w A0 l0.length l0) (hc0 : l0.length ≤ c0) (h : impl_total.f k l0 = some r) :
 Calls Try.prog 125 #[.slice A0 l0.length c0] w fun e w' => e = .returned (.int .i64 r) ∧ Drawn0 w w' := by
 have HR0 := Aside0.mk hr0
 have HC0 := Aside0.mk hc0
 clear hr0 hc0
 have H := h
 clear h
 unfold impl_total.f at H
 have H' := Aside0.mk H
 clear H
 go_enter Try.func125, Try.ntmps125
 go_wp2
 go_loopg [3, 8] k (fun kq v3 v8 w' => ∃ (x3_1 : Int) (x8_1 : Int), v3 = .int .i64 x3_1 ∧ v8 = .int .i64 x8_1 ∧ Aside0 (impl_total.l0 kq x3_1 l0 (l0.length : Int) x8_1 = some r) ∧ Aside0 (kq ≤ k) ∧ Drawn0 w w')
 case atStart => exact ⟨(0), (0), sd_, sd_, H', ⟨Nat.le_refl _⟩, dr_⟩
 case round =>
  clear H'
  try clear c1
  obtain ⟨x3_1, x8_1, rfl, rfl, HA, HK1, ⟨m1, rfl⟩⟩ := hrel
  cases gk with
  | zero => exact absurd HA.out (by simp [impl_total.l0])
  | succ k1 =>
   have H := HA.out
   clear HA
   simp only [impl_total.l0] at H
   by_cases c2 : x8_1 < (l0.length : Int)
   ·rw [if_pos c2] at H
    have c2b0 : decide (x8_1 < (l0.length : Int)) = true := decide_eq_true c2
    clear c2
    by_cases c3 : 0 ≤ x8_1
    ·rw [if_pos c3] at H
     have c3b0 : decide (0 ≤ x8_1) = true := decide_eq_true c3
     clear c3
     by_cases c4 : x8_1 < (l0.length : Int)
     ·rw [if_pos c4] at H
      have c4b0 : decide (x8_1 < (l0.length : Int)) = true := decide_eq_true c4
      clear c4
      have H' := Aside0.mk H
      clear H
      have p771 : 0 ≤ (x8_1 : Int) := od_
      have q771 : x8_1 < (l0.length : Int) := od_
      obtain ⟨ad771, e771, hx771_0⟩ := Kd.at_int HR0.out x8_1 p771 q771
      cases e771
      replace p771 := eq_true p771
      replace q771 := eq_true q771
      go_wp2
      go_roundg k1
      case measure => have := HK1.out; omega
      case rel => exact ⟨(wrap64 (x3_1 + (rd l0 x8_1))), (wrap64 (x8_1 + 1)), sd_, sd_, H', ⟨by have := HK1.out; omega⟩, dr_⟩
     ·rw [if_neg c4] at H
      exact absurd H (by simp)
    ·rw [if_neg c3] at H
     exact absurd H (by simp)
   ·rw [if_neg c2] at H
    have c2b0 : decide (x8_1 < (l0.length : Int)) = false := decide_eq_false c2
    clear c2
    obtain rfl := Option.some.inj H
    go_wp2
    go_ret
    exact ⟨sd_, dr_⟩
def impl_TelescopicFrobenius.l0 : Nat → List Int → List Int → Int → Int → Option (Int)
 | 0, _, _, _, _ => none
 | k + 1, x0, x3, x4, x5 => if x5 < (x0.length : Int) then (if 0 ≤ x5 then (if 0 ≤ (wrap64 (x5 - 1)) then (if (wrap64 (x5 - 1)) < (x3.length : Int) then (if x5 < (x3.length : Int) then (if (rd x3 x5) = 0 then (none) else (impl_TelescopicFrobenius.l0 k x0 x3 (wrap64 (x4 + (wrap64 (Int.tdiv (wrap64 ((rd x0 x5) * (rd x3 (wrap64 (x5 - 1))))) (rd x3 x5))))) (wrap64 (x5 + 1)))) else (none)) else (none)) else (none)) else (none)) else (some x4)
def impl_TelescopicFrobenius.f (k : Nat) (l0 : List Int) : Option (Int) := (impl_IsTelescopic.f k l0).bind fun t772 => (if t772 = true then ((impl_shared.f k l0).bind fun t773 => ((impl_total.f k l0).bind fun t776 => (impl_TelescopicFrobenius.l0 k l0 t773 (wrap64 (-t776)) 1))) else (some (-1)))
theorem impl_TelescopicFrobenius.calls (k : Nat) (A0 : Option Addr) (c0 : Nat) (l0 : List Int) (r : Int) (w : World) (hr0 : Kd.C (Kd.int .i64) w A0 l0.length l0) (hc0 : l0.length ≤ c0) (h : impl_TelescopicFrobenius.f k l0 = some r) :
 Calls Try.prog 68 #[.slice A0 l0.length c0] w fun e w' => e = .returned (.int .i64 r) ∧ Below w.heap.size w w' := by
 have HR0 := Aside0.mk hr0
 have HC0 := Aside0.mk hc0
 clear hr0 hc0
 have HB := Aside0.mk (Below.refl w.heap.size w)
 have H := h
 clear h
 unfold impl_TelescopicFrobenius.f at H
 obtain ⟨t772, A2, H⟩ := ob_ H
 (try dsimp only at H)
 by_cases c3 : t772 = true
 ·subst c3
  rw [if_pos rfl] at H
  obtain ⟨t773, A4, H⟩ := ob_ H
  (try dsimp only at H)
  obtain ⟨t776, A5, H⟩ := ob_ H
  (try dsimp only at H)
  have H' := Aside0.mk H
  clear H
  go_enter Try.func68, Try.ntmps68
  go_wp2_with (first | (go_at_call 67; (with_reducible refine (impl_IsTelescopic.calls k _ _ l0 true _ ?side1 ?side2 A2.out).mono ?_); (case side1 => repeat (first | exact HR0.out | (with_reducible refine Kd.C_alloc ?_ _) | (with_reducible refine Kd.C_drewN ?_ _) | (with_reducible refine Kd.C_drew ?_))); (case side2 => exact HC0.out); rintro e w6 ⟨rfl, hb⟩; replace HB := bs_ HB hb; (try clear hb); (try clear hb2); (try clear hk); (try clear hi)) | (go_at_call 123; (with_reducible refine (impl_shared.calls k _ _ l0 t773 _ ?side1 ?side2 A4.out).mono ?_); (case side1 => exact cs_ HR0 HB); (case side2 => exact HC0.out); rintro e w7 ⟨v774, rfl, ho0, hb⟩; have HO775 := rl_ ho0 HB; replace HB := bs_ HB hb; (try clear hb); (try clear hb2); (try clear hk); (try clear hi); (try clear ho0)) | (go_at_call 125; (with_reducible refine (impl_total.calls k _ _ l0 t776 _ ?side1 ?side2 A5.out).mono ?_); (case side1 => exact cs_ HR0 HB); (case side2 => exact HC0.out); rintro e w' ⟨rfl, ⟨nd, rfl⟩⟩; (try first | exact ⟨rfl, _, World.drewN_drewN _ _ _⟩ | exact ⟨rfl, _, Eq.trans (World.drewN_drewN _ _ _) (congrArg (World.drewN _) (Nat.add_assoc _ _ _))⟩)))
  repeat (go_quiet (first | (go_at_call 67; (with_reducible refine (impl_IsTelescopic.calls k _ _ l0 true _ ?side1 ?side2 A2.out).mono ?_); (case side1 => repeat (first | exact HR0.out | (with_reducible refine Kd.C_alloc ?_ _) | (with_reducible refine Kd.C_drewN ?_ _) | (with_reducible refine Kd.C_drew ?_))); (case side2 => exact HC0.out); rintro e w6 ⟨rfl, hb⟩; have n0_ := Aside0.mk (below_step (bl_ HB.out) hb); clear HB; have HB := n0_; clear n0_; (try clear hb); (try clear hb2); (try clear hk); (try clear hi)) | (go_at_call 123; (with_reducible refine (impl_shared.calls k _ _ l0 t773 _ ?side1 ?side2 A4.out).mono ?_); (case side1 => exact cs_ HR0 HB); (case side2 => exact HC0.out); rintro e w7 ⟨v774, rfl, ho0, hb⟩; have n0_ := Aside0.mk (Kd.R_lower ho0 (below_size (bl_ HB.out))); have n1_ := Aside0.mk (below_step (bl_ HB.out) hb); clear HB; have HO775 := n0_; have HB := n1_; clear n0_ n1_; (try clear hb); (try clear hb2); (try clear hk); (try clear hi); (try clear ho0)) | (go_at_call 125; (with_reducible refine (impl_total.calls k _ _ l0 t776 _ ?side1 ?side2 A5.out).mono ?_); (case side1 => exact cs_ HR0 HB); (case side2 => exact HC0.out); rintro e w' ⟨rfl, ⟨nd, rfl⟩⟩; (try first | exact ⟨rfl, _, World.drewN_drewN _ _ _⟩ | exact ⟨rfl, _, Eq.trans (World.drewN_drewN _ _ _) (congrArg (World.drewN _) (Nat.add_assoc _ _ _))⟩))); try go_wp2_with (first | (go_at_call 67; (with_reducible refine (impl_IsTelescopic.calls k _ _ l0 true _ ?side1 ?side2 A2.out).mono ?_); (case side1 => repeat (first | exact HR0.out | (with_reducible refine Kd.C_alloc ?_ _) | (with_reducible refine Kd.C_drewN ?_ _) | (with_reducible refine Kd.C_drew ?_))); (case side2 => exact HC0.out); rintro e w6 ⟨rfl, hb⟩; have n0_ := Aside0.mk (below_step (bl_ HB.out) hb); clear HB; have HB := n0_; clear n0_; (try clear hb); (try clear hb2); (try clear hk); (try clear hi)) | (go_at_call 123; (with_reducible refine (impl_shared.calls k _ _ l0 t773 _ ?side1 ?side2 A4.out).mono ?_); (case side1 => exact cs_ HR0 HB); (case side2 => exact HC0.out); rintro e w7 ⟨v774, rfl, ho0, hb⟩; have n0_ := Aside0.mk (Kd.R_lower ho0 (below_size (bl_ HB.out))); have n1_ := Aside0.mk (below_step (bl_ HB.out) hb); clear HB; have HO775 := n0_; have HB := n1_; clear n0_ n1_; (try clear hb); (try clear hb2); (try clear hk); (try clear hi); (try clear ho0)) | (go_at_call 125; (with_reducible refine (impl_total.calls k _ _ l0 t776 _ ?side1 ?side2 A5.out).mono ?_); (case side1 => exact cs_ HR0 HB); (case side2 => exact HC0.out); rintro e w' ⟨rfl, ⟨nd, rfl⟩⟩; (try first | exact ⟨rfl, _, World.drewN_drewN _ _ _⟩ | exact ⟨rfl, _, Eq.trans (World.drewN_drewN _ _ _) (congrArg (World.drewN _) (Nat.add_assoc _ _ _))⟩))))
  go_loopg [4, 5] k (fun kq v4 v5 w' => ∃ (x4_1 : Int) (x5_1 : Int), v4 = .int .i64 x4_1 ∧ v5 = .int .i64 x5_1 ∧ Aside0 (impl_TelescopicFrobenius.l0 kq l0 t773 x4_1 x5_1 = some r) ∧ Aside0 (kq ≤ k) ∧ Aside0 (Kd.R (Kd.int .i64) 3 w' w.heap.size (fun _ => True) v774 t773) ∧ Aside0 (Below w.heap.size w w'))
  case atStart => exact ⟨(wrap64 (-t776)), (1), sd_, sd_, H', ⟨Nat.le_refl _⟩, ⟨kr_ HO775.out⟩, ⟨bl_ HB.out⟩⟩
  case round =>
   clear H'
   try clear p2
   try clear c3
   try clear c6
   try clear p6
   obtain ⟨x4_1, x5_1, rfl, rfl, HA, HK1, HO_3, HB⟩ := hrel
   cases gk with
   | zero => exact absurd HA.out (by simp [impl_TelescopicFrobenius.l0])
   | succ k1 =>
    have H := HA.out
    clear HA
    simp only [impl_TelescopicFrobenius.l0] at H
    by_cases c8 : x5_1 < (l0.length : Int)
    ·rw [if_pos c8] at H
     have c8b0 : decide (x5_1 < (l0.length : Int)) = true := decide_eq_true c8
     clear c8
     by_cases c9 : 0 ≤ x5_1
     ·rw [if_pos c9] at H
      have c9b0 : decide (0 ≤ x5_1) = true := decide_eq_true c9
      clear c9
      obtain ⟨ji10, hji10⟩ : ∃ j_ : Int, (wrap64 (x5_1 - 1)) = j_ := ⟨_, rfl⟩
      replace H : (if 0 ≤ (ji10) then (if (ji10) < (t773.length : Int) then (if x5_1 < (t773.length : Int) then (if (rd t773 x5_1) = 0 then (none) else (impl_TelescopicFrobenius.l0 k1 l0 t773 (wrap64 (x4_1 + (wrap64 (Int.tdiv (wrap64 ((rd l0 x5_1) * (rd t773 (ji10)))) (rd t773 x5_1))))) (wrap64 (x5_1 + 1)))) else (none)) else (none)) else (none)) = some r := by first | (rw [hji10] at H; exact H) | (simp only [hji10] at H ⊢; exact H)
      have hji10w : (IntKind.i64.wrap (x5_1 - 1)) = ji10 := (i64_w _).trans hji10
      by_cases c11 : 0 ≤ (ji10)
      ·rw [if_pos c11] at H
       have c11b0 : decide (0 ≤ (ji10)) = true := decide_eq_true c11
       clear c11
       by_cases c12 : (ji10) < (t773.length : Int)
       ·rw [if_pos c12] at H
        have c12b0 : decide ((ji10) < (t773.length : Int)) = true := decide_eq_true c12
        clear c12
        by_cases c13 : x5_1 < (t773.length : Int)
        ·rw [if_pos c13] at H
         have c13b0 : decide (x5_1 < (t773.length : Int)) = true := decide_eq_true c13
         clear c13
         by_cases c14 : (rd t773 x5_1) = 0
         ·rw [if_pos c14] at H
          exact absurd H (by simp)
         ·rw [if_neg c14] at H
          have c14b0 : ((rd t773 x5_1) == 0) = false := beq_eq_false_iff_ne.mpr c14
          have c14b1 : ((rd t773 x5_1) != 0) = true := bne_iff_ne.mpr c14
          have H' := Aside0.mk H
          clear H
          have p777 : 0 ≤ (x5_1 : Int) := od_
          have q777 : x5_1 < (l0.length : Int) := od_
          obtain ⟨ad777, e777, hx777_0⟩ := Kd.at_int HR0.out x5_1 p777 q777
          cases e777
          replace hx777_0 := (HB.out.cell (World.block_lt_of_cell? w _ hx777_0)).trans hx777_0
          replace p777 := eq_true p777
          replace q777 := eq_true q777
          obtain ⟨Ao15, co15, eo15⟩ := Kd.R_slice HO_3.out
          subst eo15
          have p778 : 0 ≤ ((ji10) : Int) := od_
          have q778 : (ji10) < (t773.length : Int) := od_
          obtain ⟨ad778, e778, hx778_0⟩ := Kd.at_int (Kd.R_reads' HO_3.out).2.2 (ji10) p778 q778
          cases e778
          replace p778 := eq_true p778
          replace q778 := eq_true q778
          have p779 : 0 ≤ (x5_1 : Int) := od_
          have q779 : x5_1 < (t773.length : Int) := od_
          obtain ⟨ad779, e779, hx779_0⟩ := Kd.at_int (Kd.R_reads' HO_3.out).2.2 x5_1 p779 q779
          obtain rfl : ad778 = ad779 := (by injection e779)
          replace p779 := eq_true p779
          replace q779 := eq_true q779
          go_wp2
          repeat (go_quiet (fail); try go_wp2)
          go_roundg k1
          case measure => have := HK1.out; omega
          case rel => exact ⟨(wrap64 (x4_1 + (wrap64 (Int.tdiv (wrap64 ((rd l0 x5_1) * (rd t773 (ji10)))) (rd t773 x5_1))))), (wrap64 (x5_1 + 1)), (by first | rfl | (simp; done) | (simp only [← hji10] <;> (first | rfl | simp)) | (simp [*]; done)), sd_, H', ⟨by have := HK1.out; omega⟩, ⟨kr_ HO_3.out⟩, ⟨bl_ HB.out⟩⟩
        ·rw [if_neg c13] at H
         exact absurd H (by simp)
       ·rw [if_neg c12] at H
        exact absurd H (by simp)
      ·rw [if_neg c11] at H
       exact absurd H (by simp)
     ·rw [if_neg c9] at H
      exact absurd H (by simp)
    ·rw [if_neg c8] at H
     have c8b0 : decide (x5_1 < (l0.length : Int)) = false := decide_eq_false c8
     clear c8
     obtain rfl := Option.some.inj H
     go_wp2
     repeat (go_quiet (fail); try go_wp2)
     go_ret
     exact ⟨er_, bl_ HB.out⟩
 ·obtain rfl := Bool.eq_false_iff.mpr c3
  rw [if_neg nf_] at H
  obtain rfl := Option.some.inj H
  go_enter Try.func68, Try.ntmps68
  go_wp2_with (first | (go_at_call 67; (with_reducible refine (impl_IsTelescopic.calls k _ _ l0 false _ ?side1 ?side2 A2.out).mono ?_); (case side1 => repeat (first | exact HR0.out | (with_reducible refine Kd.C_alloc ?_ _) | (with_reducible refine Kd.C_drewN ?_ _) | (with_reducible refine Kd.C_drew ?_))); (case side2 => exact HC0.out); rintro e w16 ⟨rfl, hb⟩; replace HB := bs_ HB hb; (try clear hb); (try clear hb2); (try clear hk); (try clear hi)))
  repeat (go_quiet (first | (go_at_call 67; (with_reducible refine (impl_IsTelescopic.calls k _ _ l0 false _ ?side1 ?side2 A2.out).mono ?_); (case side1 => repeat (first | exact HR0.out | (with_reducible refine Kd.C_alloc ?_ _) | (with_reducible refine Kd.C_drewN ?_ _) | (with_reducible refine Kd.C_drew ?_))); (case side2 => exact HC0.out); rintro e w16 ⟨rfl, hb⟩; have n0_ := Aside0.mk (below_step (bl_ HB.out) hb); clear HB; have HB := n0_; clear n0_; (try clear hb); (try clear hb2); (try clear hk); (try clear hi))); try go_wp2_with (first | (go_at_call 67; (with_reducible refine (impl_IsTelescopic.calls k _ _ l0 false _ ?side1 ?side2 A2.out).mono ?_); (case side1 => repeat (first | exact HR0.out | (with_reducible refine Kd.C_alloc ?_ _) | (with_reducible refine Kd.C_drewN ?_ _) | (with_reducible refine Kd.C_drew ?_))); (case side2 => exact HC0.out); rintro e w16 ⟨rfl, hb⟩; have n0_ := Aside0.mk (below_step (bl_ HB.out) hb); clear HB; have HB := n0_; clear n0_; (try clear hb); (try clear hb2); (try clear hk); (try clear hi))))
  go_ret
  exact ⟨er_, bl_ HB.out⟩
def spec_EqualSemigroup.f (k : Nat) (l0_0 : List Int) (l1_0 : List Int) : Option (Bool) := (spec_l2Same.f k l0_0 l1_0).bind fun t782 => (some t782)
theorem spec_EqualSemigroup.calls (k : Nat) (A0_0 : Option Addr) (c0_0 : Nat) (l0_0 : List Int) (A1_0 : Option Addr) (c1_0 : Nat) (l1_0 : List Int) (r : Bool) (w : World) (hr0_0 : Kd.C (Kd.int .i64) w A0_0 l0_0.length l0_0) (hc0_0 : l0_0.length ≤ c0_0) (hr1_0 : Kd.C (Kd.int .i64) w A1_0 l1_0.length l1_0) (hc1_0 : l1_0.length ≤ c1_0) (h : spec_EqualSemigroup.f k l0_0 l1_0 = some r) :
 Calls Try.prog 69 #[.agg #[.slice A0_0 l0_0.length c0_0], .agg #[.slice A1_0 l1_0.length c1_0]] w fun e w' => e = .returned (.bool r) ∧ Below w.heap.size w w' := by
 have hu41 := Try.underlying41
 have HR0_0 := Aside0.mk hr0_0
 have HC0_0 := Aside0.mk hc0_0
 clear hr0_0 hc0_0
 have HR1_0 := Aside0.mk hr1_0
 have HC1_0 := Aside0.mk hc1_0
 clear hr1_0 hc1_0
 have HB := Aside0.mk (Below.refl w.heap.size w)
 have H := h
 clear h
 unfold spec_EqualSemigroup.f at H
 obtain ⟨t782, A3, H⟩ := ob_ H
 (try dsimp only at H)
 obtain rfl := Option.some.inj H
 go_enter Try.func69, Try.ntmps69
 go_wp2_with (first | ((with_reducible refine gate_dst (N := 2) rfl ?_); refine be_ 2 #[.slice A0_0 l0_0.length c0_0] 41 fun gb780 hg w4 hbox hb => ?_; have BK780 := Aside0.mk (hbox); have GW780 := ge_ hg HB; have GE780 := ge_ hg HB; replace HB := bs_ HB hb; clear hb hbox hg) | ((with_reducible refine gate_dst (N := 3) rfl ?_); refine be_ 3 #[.slice A1_0 l1_0.length c1_0] 41 fun gb781 hg w5 hbox hb => ?_; have BK781 := Aside0.mk (hbox); have GW781 := ge_ hg HB; have GE781 := ge_ hg HB; replace HB := bs_ HB hb; have NB780_781 := nl_ hg BK780; have NB781_780 := ng_ hg BK780; replace BK780 := bb_ BK780 hb; clear hb hbox hg; have hnb6 := NB780_781.out; have hnc6 := NB781_780.out; have hcz7_0 := bc_ BK780; have hfz7_0 := blk_frozen BK780.out 0; have hcz8_0 := bc_ BK781; have hfz8_0 := blk_frozen BK781.out 0) | ((with_reducible refine gate_callee (f := 102) rfl ?_); refine gl_ 9 Try.func102 #[.slice A0_0 l0_0.length c0_0, .slice A1_0 l1_0.length c1_0] ?_; (with_reducible refine (spec_l2Same.calls k _ _ l0_0 _ _ l1_0 t782 _ ?side1 ?side2 ?side3 ?side4 A3.out).mono ?_); (case side1 => exact cs_ HR0_0 HB); (case side2 => exact HC0_0.out); (case side3 => exact cs_ HR1_0 HB); (case side4 => exact HC1_0.out); rintro e w' ⟨rfl, ⟨nd, rfl⟩⟩; refine ⟨_, rfl, ?_⟩))
 go_ret
 exact ⟨er_, bl_ HB.out⟩
def spec_Generates.j0 : Nat → List Int → Int → Bool → Option (Bool)
 | 0, _, _, _ => none
 | k + 1, x0, x1, x13 => if x13 = true then (some false) else ((spec_GcdOfList.f k x0).bind fun t785 => (if t785 = 0 then (none) else (if (Int.tmod x1 t785) = 0 then (if x1 > 3600 then (if 0 < (x0.length : Int) then (if (rd x0 0) = 0 then (none) else ((spec_l3Table.f k x0 (wrap64 (3600 + (Int.tmod (wrap64 (x1 - 3600)) (rd x0 0))))).bind fun t787 => (if 0 ≤ (wrap64 (3600 + (Int.tmod (wrap64 (x1 - 3600)) (rd x0 0)))) then (if (wrap64 (3600 + (Int.tmod (wrap64 (x1 - 3600)) (rd x0 0)))) < (t787.length : Int) then (some (rdOf false t787 (wrap64 (3600 + (Int.tmod (wrap64 (x1 - 3600)) (rd x0 0)))))) else (none)) else (none)))) else (none)) else ((spec_l3Table.f k x0 x1).bind fun t791 => (if 0 ≤ x1 then (if x1 < (t791.length : Int) then (some (rdOf false t791 x1)) else (none)) else (none)))) else (some false))))
def spec_Generates.f (k : Nat) (l0 : List Int) (a1 : Int) : Option (Bool) := (spec_l3Gens.f k l0).bind fun t783 => (if t783 = true then ((spec_l1In.f a1 0 1000000).bind fun t784 => (spec_Generates.j0 k l0 a1 (!t784))) else (spec_Generates.j0 k l0 a1 true))
theorem spec_Generates.calls (k : Nat) (A0 : Option Addr) (c0 : Nat) (l0 : List Int) (a1 : Int) (r : Bool) (w : World) (hr0 : Kd.C (Kd.int .i64) w A0 l0.length l0) (hc0 : l0.length ≤ c0) (h : spec_Generates.f k l0 a1 = some r) :
 Calls Try.prog 126 #[.slice A0 l0.length c0, .int .i64 a1] w fun e w' => e = .returned (.bool r) ∧ Below w.heap.size w w' := by
 have HR0 := Aside0.mk hr0
 have HC0 := Aside0.mk hc0
 clear hr0 hc0
 have HB := Aside0.mk (Below.refl w.heap.size w)
 have H := h
 clear h
 unfold spec_Generates.f at H
 have HC3 := Aside0.mk H
 clear H
 go_enter Try.func126, Try.ntmps126
 go_upto_region 1 with (fail)
 go_cut [13] (fun v13 wc => ∃ (kq : Nat) (x13_2 : Bool), v13 = .bool x13_2 ∧ Aside0 (spec_Generates.j0 kq l0 a1 x13_2 = some r) ∧ Aside0 (kq ≤ k) ∧ Aside0 (Below w.heap.size w wc))
 case first =>
  have H := HC3.out
  clear HC3
  obtain ⟨t783, A4, H⟩ := ob_ H
  (try dsimp only at H)
  by_cases c5 : t783 = true
  ·subst c5
   rw [if_pos rfl] at H
   obtain ⟨t784, A6, H⟩ := ob_ H
   (try dsimp only at H)
   have H' := Aside0.mk H
   clear H
   go_wp2_with (first | ((with_reducible refine gate_callee (f := 100) rfl ?_); refine gl_ 7 Try.func100 #[.slice A0 l0.length c0] ?_; (with_reducible refine (spec_l3Gens.calls k _ _ l0 true _ ?side1 ?side2 A4.out).mono ?_); (case side1 => exact cs_ HR0 HB); (case side2 => exact HC0.out); rintro e w' ⟨rfl, ⟨nd, rfl⟩⟩; refine ⟨_, rfl, ?_⟩) | (go_at_call 75; (with_reducible refine (spec_l1In.calls a1 0 1000000 t784 _ A6.out).mono ?_); rintro e w' ⟨rfl, ⟨nd, rfl⟩⟩))
   go_meet
   case rel => exact ⟨_, (!t784), sd_, H', ⟨le_⟩, ⟨bl_ HB.out⟩⟩
  ·obtain rfl := Bool.eq_false_iff.mpr c5
   rw [if_neg nf_] at H
   have H' := Aside0.mk H
   clear H
   go_wp2_with (first | ((with_reducible refine gate_callee (f := 100) rfl ?_); refine gl_ 7 Try.func100 #[.slice A0 l0.length c0] ?_; (with_reducible refine (spec_l3Gens.calls k _ _ l0 false _ ?side1 ?side2 A4.out).mono ?_); (case side1 => exact cs_ HR0 HB); (case side2 => exact HC0.out); rintro e w' ⟨rfl, ⟨nd, rfl⟩⟩; refine ⟨_, rfl, ?_⟩))
   go_meet
   case rel => exact ⟨_, (true), sd_, H', ⟨le_⟩, ⟨bl_ HB.out⟩⟩
 case rest =>
  clear HC3
  try clear c1
  try clear p2
  try clear c5
  obtain ⟨kq, x13_2, rfl, HA, HJ2, HB⟩ := hcut
  cases kq with
  | zero => exact absurd HA.out (by simp [spec_Generates.j0])
  | succ kj2 =>
   have H := HA.out
   clear HA
   simp only [spec_Generates.j0] at H
   by_cases c7 : x13_2 = true
   ·subst c7
    rw [if_pos rfl] at H
    obtain rfl := Option.some.inj H
    go_wp2
    go_ret
    exact ⟨er_, bl_ HB.out⟩
   ·obtain rfl := Bool.eq_false_iff.mpr c7
    rw [if_neg nf_] at H
    obtain ⟨t785, A8, H⟩ := ob_ H
    (try dsimp only at H)
    by_cases c9 : t785 = 0
    ·rw [if_pos c9] at H
     exact absurd H (by simp)
    ·rw [if_neg c9] at H
     have c9b0 : (t785 == 0) = false := beq_eq_false_iff_ne.mpr c9
     have c9b1 : (t785 != 0) = true := bne_iff_ne.mpr c9
     by_cases c10 : (Int.tmod a1 t785) = 0
     ·rw [if_pos c10] at H
      have c10b0 : ((Int.tmod a1 t785) == 0) = true := beq_iff_eq.mpr c10
      have c10b1 : ((Int.tmod a1 t785) != 0) = false := bne_eq_false_iff_eq.mpr c10
      clear c10
      by_cases c11 : a1 > 3600
      ·rw [if_pos c11] at H
       have c11b0 : decide (3600 < a1) = true := decide_eq_true c11
       clear c11
       by_cases c12 : 0 < (l0.length : Int)
       ·rw [if_pos c12] at H
        have c12b0 : decide (0 < (l0.length : Int)) = true := decide_eq_true c12
        have c12b1 : decide (0 < l0.length) = true := decide_eq_true (by omega)
        clear c12
        by_cases c13 : (rd l0 0) = 0
        ·rw [if_pos c13] at H
         exact absurd H (by simp)
        ·rw [if_neg c13] at H
         have c13b0 : ((rd l0 0) == 0) = false := beq_eq_false_iff_ne.mpr c13
         have c13b1 : ((rd l0 0) != 0) = true := bne_iff_ne.mpr c13
         obtain ⟨t787, A14, H⟩ := ob_ H
         (try dsimp only at H)
         obtain ⟨ji15, hji15⟩ : ∃ j_ : Int, (wrap64 (3600 + (Int.tmod (wrap64 (a1 - 3600)) (rd l0 0)))) = j_ := ⟨_, rfl⟩
         replace H : (if 0 ≤ (ji15) then (if (ji15) < (t787.length : Int) then (some (rdOf false t787 (ji15))) else (none)) else (none)) = some r := by first | (rw [hji15] at H; exact H) | (simp only [hji15] at H ⊢; exact H)
         (try rw [hji15] at A8)
         (try rw [hji15] at A14)
         have hji15w : (IntKind.i64.wrap (3600 + (Int.tmod (wrap64 (a1 - 3600)) (rd l0 0)))) = ji15 := (i64_w _).trans hji15
         by_cases c16 : 0 ≤ (ji15)
         ·rw [if_pos c16] at H
          have c16b0 : decide (0 ≤ (ji15)) = true := decide_eq_true c16
          clear c16
          by_cases c17 : (ji15) < (t787.length : Int)
          ·rw [if_pos c17] at H
           have c17b0 : decide ((ji15) < (t787.length : Int)) = true := decide_eq_true c17
           clear c17
           obtain rfl := Option.some.inj H
           go_wp2_with (first | ((with_reducible refine gate_callee (f := 101) rfl ?_); refine gl_ 15 Try.func101 #[.slice A0 l0.length c0] ?_; (with_reducible refine (spec_GcdOfList.calls kj2 _ _ l0 t785 _ ?side1 ?side2 A8.out).mono ?_); (case side1 => exact cs_ HR0 HB); (case side2 => exact HC0.out); rintro e w' ⟨rfl, ⟨nd, rfl⟩⟩; refine ⟨_, rfl, ?_⟩; have p786 : 0 ≤ (0 : Int) := (by omega); have q786 : 0 < (l0.length : Int) := od_; obtain ⟨ad786, e786, hx786_0⟩ := Kd.at_int HR0.out 0 p786 q786; cases e786; have qi786 : (0 < l0.length) = True := eq_true (by omega); (try rw [show ((0 : Int)).toNat = 0 from rfl] at hx786_0); (try rw [Addr.add_zero'] at hx786_0); replace hx786_0 := (HB.out.cell (World.block_lt_of_cell? w _ hx786_0)).trans hx786_0; replace p786 := eq_true p786; replace q786 := eq_true q786) | ((with_reducible refine gate_callee (f := 140) rfl ?_); refine goesL_ (some 31) rfl rfl Try.func140 (by kernel_rfl) rfl #[.slice (some ad786) l0.length c0, .int .i64 ji15] rfl (by (try simp only [List.map_toArray, List.map_cons, List.map_nil]); first | done | (simp only [hji15]; rfl) | rfl | (simp only [List.length_drop, List.length_take]; rfl)) ?_; (with_reducible refine (spec_l3Table.calls kj2 _ _ l0 ji15 t787 _ ?side1 ?side2 A14.out).mono ?_); (case side1 => exact cs_ HR0 HB); (case side2 => exact HC0.out); rintro e w18 ⟨v788, rfl, ho0, hb⟩; refine ⟨_, rfl, ?_⟩; have HO789 := rl_ ho0 HB; replace HB := bs_ HB hb; (try clear hb); (try clear hb2); (try clear hk); (try clear hi); (try clear ho0); obtain ⟨Ao19, co19, eo19⟩ := Kd.R_slice HO789.out; subst eo19; have p790 : 0 ≤ ((ji15) : Int) := od_; have q790 : (ji15) < (t787.length : Int) := od_; obtain ⟨ad790, e790, hx790_0⟩ := Kd.at_bool (Kd.R_reads' HO789.out).2.2 (ji15) p790 q790; cases e790; replace p790 := eq_true p790; replace q790 := eq_true q790))
           go_ret
           exact ⟨by first | rfl | (simp [errW_none, errW_some] <;> rfl) | (simp only [← hji15]; first | rfl | (simp [errW_none, errW_some] <;> rfl)) | (simp [*, errW_none, errW_some] <;> rfl), bl_ HB.out⟩
          ·rw [if_neg c17] at H
           exact absurd H (by simp)
         ·rw [if_neg c16] at H
          exact absurd H (by simp)
       ·rw [if_neg c12] at H
        exact absurd H (by simp)
      ·rw [if_neg c11] at H
       have c11b0 : decide (3600 < a1) = false := decide_eq_false c11
       clear c11
       obtain ⟨t791, A20, H⟩ := ob_ H
       (try dsimp only at H)
       by_cases c21 : 0 ≤ a1
       ·rw [if_pos c21] at H
        have c21b0 : decide (0 ≤ a1) = true := decide_eq_true c21
        clear c21
        by_cases c22 : a1 < (t791.length : Int)
        ·rw [if_pos c22] at H
         have c22b0 : decide (a1 < (t791.length : Int)) = true := decide_eq_true c22
         clear c22
         obtain rfl := Option.some.inj H
         go_wp2_with (first | ((with_reducible refine gate_callee (f := 101) rfl ?_); refine gl_ 15 Try.func101 #[.slice A0 l0.length c0] ?_; (with_reducible refine (spec_GcdOfList.calls kj2 _ _ l0 t785 _ ?side1 ?side2 A8.out).mono ?_); (case side1 => exact cs_ HR0 HB); (case side2 => exact HC0.out); rintro e w' ⟨rfl, ⟨nd, rfl⟩⟩; refine ⟨_, rfl, ?_⟩) | ((with_reducible refine gate_callee (f := 140) rfl ?_); refine gl_ 31 Try.func140 #[.slice A0 l0.length c0, .int .i64 a1] ?_; (with_reducible refine (spec_l3Table.calls kj2 _ _ l0 a1 t791 _ ?side1 ?side2 A20.out).mono ?_); (case side1 => exact cs_ HR0 HB); (case side2 => exact HC0.out); rintro e w23 ⟨v792, rfl, ho0, hb⟩; refine ⟨_, rfl, ?_⟩; have HO793 := rl_ ho0 HB; replace HB := bs_ HB hb; (try clear hb); (try clear hb2); (try clear hk); (try clear hi); (try clear ho0); obtain ⟨Ao24, co24, eo24⟩ := Kd.R_slice HO793.out; subst eo24; have p794 : 0 ≤ (a1 : Int) := od_; have q794 : a1 < (t791.length : Int) := od_; obtain ⟨ad794, e794, hx794_0⟩ := Kd.at_bool (Kd.R_reads' HO793.out).2.2 a1 p794 q794; cases e794; replace p794 := eq_true p794; replace q794 := eq_true q794))
         go_ret
         exact ⟨er_, bl_ HB.out⟩
        ·rw [if_neg c22] at H
         exact absurd H (by simp)
       ·rw [if_neg c21] at H
        exact absurd H (by simp)
     ·rw [if_neg c10] at H
      have c10b0 : ((Int.tmod a1 t785) == 0) = false := beq_eq_false_iff_ne.mpr c10
      have c10b1 : ((Int.tmod a1 t785) != 0) = true := bne_iff_ne.mpr c10
      obtain rfl := Option.some.inj H
      go_wp2_with (first | ((with_reducible refine gate_callee (f := 101) rfl ?_); refine gl_ 15 Try.func101 #[.slice A0 l0.length c0] ?_; (with_reducible refine (spec_GcdOfList.calls kj2 _ _ l0 t785 _ ?side1 ?side2 A8.out).mono ?_); (case side1 => exact cs_ HR0 HB); (case side2 => exact HC0.out); rintro e w' ⟨rfl, ⟨nd, rfl⟩⟩; refine ⟨_, rfl, ?_⟩))
      go_ret
      exact ⟨er_, bl_ HB.out⟩
def spec_l22Over.l0 : Nat → List Int → Int → List Int → Int → Option (List Int)
 | 0, _, _, _, _ => none
 | k + 1, x0, x1, x5, x6 => if x6 < (x0.length : Int) then (if 0 ≤ x6 then (if x1 = 0 then (none) else (if x5.length < 17592186044416 then (spec_l22Over.l0 k x0 x1 (x5 ++ [wrap64 (Int.tdiv (rd x0 x6) x1)]) (wrap64 (x6 + 1))) else (none))) else (none)) else (some x5)
def spec_l22Over.f (k : Nat) (l0 : List Int) (a1 : Int) : Option (List Int) := spec_l22Over.l0 k l0 a1 (([] : List Int)) 0
theorem spec_l22Over.calls (k : Nat) (A0 : Option Addr) (c0 : Nat) (l0 : List Int) (a1 : Int) (r : List Int) (w : World) (hr0 : Kd.C (Kd.int .i64) w A0 l0.length l0) (hc0 : l0.length ≤ c0) (h : spec_l22Over.f k l0 a1 = some r) :
 Calls Try.prog 127 #[.slice A0 l0.length c0, .int .i64 a1] w fun e w' => ∃ v0_ : Value, e = .returned (v0_) ∧ Kd.R (Kd.int .i64) 3 w' w.heap.size (fun _ => True) v0_ r ∧ Below w.heap.size w w' := by
 have HR0 := Aside0.mk hr0
 have HC0 := Aside0.mk hc0
 clear hr0 hc0
 have HB := Aside0.mk (Below.refl w.heap.size w)
 have H := h
 clear h
 unfold spec_l22Over.f at H
 obtain ⟨y795, hy795⟩ : ∃ y_ : List Int, y_ = (([] : List Int)) := ⟨_, rfl⟩
 replace H : (spec_l22Over.l0 k l0 a1 y795 0) = some r := hr_ hy795 H
 have Ny795 := Aside0.mk hy795
 clear hy795
 have H' := Aside0.mk H
 clear H
 go_enter Try.func127, Try.ntmps127
 go_wp2_with (first | ((with_reducible refine gate_dst (N := 7) rfl ?_); refine Kd.R_lit (Kd.int .i64) _ 3 ?hg (N := 7) ?hd (xs := ([] : List Int)) (inner := []) (ok := fun _ => True) (okp := fun _ => True) ?hr ?hp (fun _ hk => hk) trivial (Below.refl _ _) (Nat.le_refl _) (by simp) ?_; (case hd => rfl); (case hg => rfl); (case hr => first | (go_simp; done) | (go_simp; rfl)); (case hp => exact (Reps.none _ _)); intro v796 w3 ho4 hb hg_ hnew_; clear hg_ hnew_; (first | rw [← Ny795.out] at ho4 | (simp only [Int.reduceToNat] at ho4; rw [← Ny795.out] at ho4)); have HO797 := rl_ ho4 HB; replace HB := bs_ HB hb; clear hb ho4))
 go_loopg [5, 6] k (fun kq v5 v6 w' => ∃ (x5_1 : List Int) (x6_1 : Int), v6 = .int .i64 x6_1 ∧ Aside0 (spec_l22Over.l0 kq l0 a1 x5_1 x6_1 = some r) ∧ Aside0 (kq ≤ k) ∧ Aside0 (Kd.R (Kd.int .i64) 3 w' w.heap.size (fun _ => True) v5 x5_1) ∧ Aside0 (Below w.heap.size w w'))
 case atStart => exact ⟨(y795), (0), sd_, H', ⟨Nat.le_refl _⟩, ⟨kr_ HO797.out⟩, ⟨bl_ HB.out⟩⟩
 case round =>
  clear H'
  try clear c1
  try clear p2
  obtain ⟨x5_1, x6_1, rfl, HA, HK1, HO_5, HB⟩ := hrel
  cases gk with
  | zero => exact absurd HA.out (by simp [spec_l22Over.l0])
  | succ k1 =>
   have H := HA.out
   clear HA
   simp only [spec_l22Over.l0] at H
   by_cases c5 : x6_1 < (l0.length : Int)
   ·rw [if_pos c5] at H
    have c5b0 : decide (x6_1 < (l0.length : Int)) = true := decide_eq_true c5
    clear c5
    by_cases c6 : 0 ≤ x6_1
    ·rw [if_pos c6] at H
     have c6b0 : decide (0 ≤ x6_1) = true := decide_eq_true c6
     clear c6
     by_cases c7 : a1 = 0
     ·rw [if_pos c7] at H
      exact absurd H (by simp)
     ·rw [if_neg c7] at H
      have c7b0 : (a1 == 0) = false := beq_eq_false_iff_ne.mpr c7
      have c7b1 : (a1 != 0) = true := bne_iff_ne.mpr c7
      by_cases c8 : x5_1.length < 17592186044416
      ·rw [if_pos c8] at H
       have LMc8 := Aside0.mk c8
       clear c8
       obtain ⟨y799, hy799⟩ : ∃ y_ : List Int, y_ = (x5_1 ++ [wrap64 (Int.tdiv (rd l0 x6_1) a1)]) := ⟨_, rfl⟩
       replace H : (spec_l22Over.l0 k1 l0 a1 y799 (wrap64 (x6_1 + 1))) = some r := hr_ hy799 H
       have Ny799 := Aside0.mk hy799
       clear hy799
       have H' := Aside0.mk H
       clear H
       have p798 : 0 ≤ (x6_1 : Int) := od_
       have q798 : x6_1 < (l0.length : Int) := od_
       obtain ⟨ad798, e798, hx798_0⟩ := Kd.at_int HR0.out x6_1 p798 q798
       cases e798
       replace hx798_0 := (HB.out.cell (World.block_lt_of_cell? w _ hx798_0)).trans hx798_0
       replace p798 := eq_true p798
       replace q798 := eq_true q798
       go_wp2_with (first | ((with_reducible refine gate_builtin (b := .append) (xs := #[.tmp 14, .tmp 21]) rfl ?_); at_builtin; refine Kd.R_append (Kd.int .i64) (w0 := w) w.heap.size rfl (.tmp 14) (.tmp 21) 22 3 (.int .i64 0) 8 rfl Try.underlying22 info3 rfl (by decide) (by omega) u5 x5_1 (wrap64 (Int.tdiv (rd l0 x6_1) a1)) [.int .i64 (wrap64 (Int.tdiv (rd l0 x6_1) a1))] (fun _ => True) (fun _ => False) rfl rfl ?aP (fun _ hk => hk.elim) ?aF ?aO ?aB ?aS ?aL ?_; (case aP => exact rfl); (case aB => exact (bl_ HB.out)); (case aF => exact (fun _ _ => trivial)); (case aO => exact (kr_ HO_5.out)); (case aS => exact (below_size (bl_ HB.out))); (case aL => have := LMc8.out; omega); intro v800 w9 ho hb hg hat; rw [← Ny799.out] at ho; have n0_ := Aside0.mk (hb); have n1_ := Aside0.mk (ho); clear HB; clear HO_5; have HB := n0_; have HO801 := n1_; clear n0_ n1_; clear ho hb hg hat))
       go_roundg k1
       case measure => have := HK1.out; omega
       case rel => exact ⟨(y799), (wrap64 (x6_1 + 1)), sd_, H', ⟨by have := HK1.out; omega⟩, ⟨kr_ HO801.out⟩, ⟨bl_ HB.out⟩⟩
      ·rw [if_neg c8] at H
       exact absurd H (by simp)
    ·rw [if_neg c6] at H
     exact absurd H (by simp)
   ·rw [if_neg c5] at H
    have c5b0 : decide (x6_1 < (l0.length : Int)) = false := decide_eq_false c5
    clear c5
    obtain rfl := Option.some.inj H
    go_wp2
    go_ret
    exact ⟨_, er_, kr_ HO_5.out, bl_ HB.out⟩
mutual
def spec_IsTelescopic.j0 : Nat → List Int → Bool → Option (Bool)
 | 0, _, _ => none
 | k + 1, x0, x13 => if x13 = true then (some false) else (spec_IsTelescopic.l0 k x0 1)
def spec_IsTelescopic.l0 : Nat → List Int → Int → Option (Bool)
 | 0, _, _ => none
 | k + 1, x0, x3 => if x3 < (x0.length : Int) then (if 0 ≤ x3 then (if x3 ≤ (x0.length : Int) then ((spec_GcdOfList.f k (x0.take (x3 : Int).toNat)).bind fun t805 => (if 0 ≤ (wrap64 (x3 + 1)) then (if (wrap64 (x3 + 1)) ≤ (x0.length : Int) then ((spec_GcdOfList.f k (x0.take ((wrap64 (x3 + 1)) : Int).toNat)).bind fun t807 => ((spec_l22Over.f k (x0.take (x3 : Int).toNat) t805).bind fun t809 => (if t807 = 0 then (none) else ((spec_Generates.f k t809 (wrap64 (Int.tdiv (rd x0 x3) t807))).bind fun t813 => (if t813 = true then (spec_IsTelescopic.l0 k x0 (wrap64 (x3 + 1))) else (some false)))))) else (none)) else (none))) else (none)) else (none)) else (some true)
end
def spec_IsTelescopic.f (k : Nat) (l0 : List Int) : Option (Bool) := (spec_l3Gens.f k l0).bind fun t802 => (if t802 = true then ((spec_GcdOfList.f k l0).bind fun t803 => (spec_IsTelescopic.j0 k l0 (t803 != 1))) else (spec_IsTelescopic.j0 k l0 true))
def spec_IsTelescopic.T8 : Bool × List (List Nat × List Nat) := (true, [([], []), ([], []), ([0, 1], [0, 1]), ([], []), ([2, 3], [2, 3]), ([], []), ([], []), ([5, 6], [5, 6]), ([7], [7]), ([], []), ([8, 9], [8, 9]), ([4, 10, 4], [4, 10]), ([11], [11])])
def spec_IsTelescopic.B8 : List Nat := [0, 0, 3, 0, 15, 0, 0, 96, 224, 0, 992, 2047, 4095]
theorem spec_IsTelescopic.tab8 : rtab .any (opsOf Try.f70 8) = spec_IsTelescopic.T8 := by kernel_rfl
theorem spec_IsTelescopic.bits8 : waitsOk spec_IsTelescopic.T8.2 spec_IsTelescopic.B8 = true := by kernel_rfl
theorem spec_IsTelescopic.calls (k : Nat) (A0 : Option Addr) (c0 : Nat) (l0 : List Int) (r : Bool) (w : World) (hr0 : Kd.C (Kd.int .i64) w A0 l0.length l0) (hc0 : l0.length ≤ c0) (h : spec_IsTelescopic.f k l0 = some r) :
 Calls Try.prog 70 #[.slice A0 l0.length c0] w fun e w' => e = .returned (.bool r) ∧ Below w.heap.size w w' := by
 have HR0 := Aside0.mk hr0
 have HC0 := Aside0.mk hc0
 clear hr0 hc0
 have HB := Aside0.mk (Below.refl w.heap.size w)
 have H := h
 clear h
 unfold spec_IsTelescopic.f at H
 have HC2 := Aside0.mk H
 clear H
 go_enter Try.func70, Try.ntmps70
 go_upto_region 1 with (fail)
 go_cut [13] (fun v13 wc => ∃ (kq : Nat) (x13_1 : Bool), v13 = .bool x13_1 ∧ Aside0 (spec_IsTelescopic.j0 kq l0 x13_1 = some r) ∧ Aside0 (kq ≤ k) ∧ Aside0 (Below w.heap.size w wc))
 case first =>
  have H := HC2.out
  clear HC2
  obtain ⟨t802, A3, H⟩ := ob_ H
  (try dsimp only at H)
  by_cases c4 : t802 = true
  ·subst c4
   rw [if_pos rfl] at H
   obtain ⟨t803, A5, H⟩ := ob_ H
   (try dsimp only at H)
   have H' := Aside0.mk H
   clear H
   go_wp2_with (first | ((with_reducible refine gate_callee (f := 100) rfl ?_); refine gl_ 7 Try.func100 #[.slice A0 l0.length c0] ?_; (with_reducible refine (spec_l3Gens.calls k _ _ l0 true _ ?side1 ?side2 A3.out).mono ?_); (case side1 => exact cs_ HR0 HB); (case side2 => exact HC0.out); rintro e w' ⟨rfl, ⟨nd, rfl⟩⟩; refine ⟨_, rfl, ?_⟩) | (go_at_call 101; (with_reducible refine (spec_GcdOfList.calls k _ _ l0 t803 _ ?side1 ?side2 A5.out).mono ?_); (case side1 => exact cs_ HR0 HB); (case side2 => exact HC0.out); rintro e w' ⟨rfl, ⟨nd, rfl⟩⟩))
   go_meet
   case rel => exact ⟨_, ((t803 != 1)), sd_, H', ⟨le_⟩, ⟨bl_ HB.out⟩⟩
  ·obtain rfl := Bool.eq_false_iff.mpr c4
   rw [if_neg nf_] at H
   have H' := Aside0.mk H
   clear H
   go_wp2_with (first | ((with_reducible refine gate_callee (f := 100) rfl ?_); refine gl_ 7 Try.func100 #[.slice A0 l0.length c0] ?_; (with_reducible refine (spec_l3Gens.calls k _ _ l0 false _ ?side1 ?side2 A3.out).mono ?_); (case side1 => exact cs_ HR0 HB); (case side2 => exact HC0.out); rintro e w' ⟨rfl, ⟨nd, rfl⟩⟩; refine ⟨_, rfl, ?_⟩))
   go_meet
   case rel => exact ⟨_, (true), sd_, H', ⟨le_⟩, ⟨bl_ HB.out⟩⟩
 case rest =>
  clear HC2
  try clear c1
  try clear p2
  try clear c4
  obtain ⟨kq, x13_1, rfl, HA, HJ1, HB⟩ := hcut
  cases kq with
  | zero => exact absurd HA.out (by simp [spec_IsTelescopic.j0])
  | succ kj1 =>
   have H := HA.out
   clear HA
   simp only [spec_IsTelescopic.j0] at H
   by_cases c6 : x13_1 = true
   ·subst c6
    rw [if_pos rfl] at H
    obtain rfl := Option.some.inj H
    go_wp2
    go_ret
    exact ⟨er_, bl_ HB.out⟩
   ·obtain rfl := Bool.eq_false_iff.mpr c6
    rw [if_neg nf_] at H
    have H' := Aside0.mk H
    clear H
    go_wp2
    go_loopg [3] kj1 (fun kq v3 w' => ∃ (x3_2 : Int), v3 = .int .i64 x3_2 ∧ Aside0 (spec_IsTelescopic.l0 kq l0 x3_2 = some r) ∧ Aside0 (kq ≤ kj1) ∧ Aside0 (Below w.heap.size w w'))
    case atStart => exact ⟨(1), sd_, H', ⟨Nat.le_refl _⟩, ⟨bl_ HB.out⟩⟩
    case round =>
     clear H'
     try clear c1
     try clear p2
     try clear c4
     try clear c6
     try clear p2
     obtain ⟨x3_2, rfl, HA, HK2, HB⟩ := hrel
     cases gk with
     | zero => exact absurd HA.out (by simp [spec_IsTelescopic.l0])
     | succ k2 =>
      have H := HA.out
      clear HA
      simp only [spec_IsTelescopic.l0] at H
      by_cases c7 : x3_2 < (l0.length : Int)
      ·rw [if_pos c7] at H
       have c7b0 : decide (x3_2 < (l0.length : Int)) = true := decide_eq_true c7
       clear c7
       by_cases c8 : 0 ≤ x3_2
       ·rw [if_pos c8] at H
        have c8b0 := eq_true c8
        have c8b1 : decide (0 ≤ x3_2) = true := decide_eq_true c8
        clear c8
        by_cases c9 : x3_2 ≤ (l0.length : Int)
        ·rw [if_pos c9] at H
         have c9b0 := eq_true c9
         have c9b1 : decide (x3_2 ≤ (l0.length : Int)) = true := decide_eq_true c9
         clear c9
         obtain ⟨t805, A10, H⟩ := ob_ H
         (try dsimp only at H)
         obtain ⟨ji11, hji11⟩ : ∃ j_ : Int, (wrap64 (x3_2 + 1)) = j_ := ⟨_, rfl⟩
         replace H : (if 0 ≤ (ji11) then (if (ji11) ≤ (l0.length : Int) then ((spec_GcdOfList.f k2 (l0.take ((ji11) : Int).toNat)).bind fun t807 => ((spec_l22Over.f k2 (l0.take (x3_2 : Int).toNat) t805).bind fun t809 => (if t807 = 0 then (none) else ((spec_Generates.f k2 t809 (wrap64 (Int.tdiv (rd l0 x3_2) t807))).bind fun t813 => (if t813 = true then (spec_IsTelescopic.l0 k2 l0 ji11) else (some false)))))) else (none)) else (none)) = some r := by first | (rw [hji11] at H; exact H) | (simp only [hji11] at H ⊢; exact H)
         (try rw [hji11] at A10)
         have hji11w : (IntKind.i64.wrap (x3_2 + 1)) = ji11 := (i64_w _).trans hji11
         by_cases c12 : 0 ≤ (ji11)
         ·rw [if_pos c12] at H
          have c12b0 := eq_true c12
          have c12b1 : decide (0 ≤ (ji11)) = true := decide_eq_true c12
          clear c12
          by_cases c13 : (ji11) ≤ (l0.length : Int)
          ·rw [if_pos c13] at H
           have c13b0 := eq_true c13
           have c13b1 : decide ((ji11) ≤ (l0.length : Int)) = true := decide_eq_true c13
           clear c13
           obtain ⟨t807, A14, H⟩ := ob_ H
           (try dsimp only at H)
           have c15b0 := eq_true (od_ : 0 ≤ x3_2)
           have c16b0 := eq_true (od_ : x3_2 ≤ (l0.length : Int))
           obtain ⟨t809, A17, H⟩ := ob_ H
           (try dsimp only at H)
           by_cases c18 : t807 = 0
           ·rw [if_pos c18] at H
            exact absurd H (by simp)
           ·rw [if_neg c18] at H
            have c18b0 : (t807 == 0) = false := beq_eq_false_iff_ne.mpr c18
            have c18b1 : (t807 != 0) = true := bne_iff_ne.mpr c18
            obtain ⟨t813, A19, H⟩ := ob_ H
            (try dsimp only at H)
            by_cases c20 : t813 = true
            ·subst c20
             rw [if_pos rfl] at H
             have H' := Aside0.mk H
             clear H
             obtain ⟨i021, hi021, _, hsz21, _⟩ := info_parts info3
             obtain ⟨hcut21, hA21, hC21⟩ := print_take_of (P := Try.prog) (Value.int .i64) 0 22 3 .i64 Try.underlying22 hi021 hsz21 A0 c0 l0 x3_2 (od_) (od_) HC0.out
             have HR804 := Aside0.mk (Kd.C_of_reads (h1 := fun _ => rfl) (hA21 _ (Kd.reads_of_C HR0.out)))
             have HC804 := Aside0.mk hC21
             clear hA21 hC21 hi021 hsz21
             try go_wp2_with (first | ((with_reducible refine gate_callee (f := 101) rfl ?_); refine goesL_ (some 23) rfl rfl Try.func101 (by kernel_rfl) rfl #[.slice A0 (l0.take (x3_2 : Int).toNat).length c0] rfl (by (try simp only [List.map_toArray, List.map_cons, List.map_nil]); first | done | (rw [show (l0.take (x3_2 : Int).toNat).length = x3_2.toNat from (by rw [List.length_take]; have h_ : (x3_2 : Int) ≤ (l0.length : Int) := od_; omega)] <;> rfl) | rfl | (simp only [List.length_drop, List.length_take]; rfl)) ?_; (with_reducible refine (spec_GcdOfList.calls k2 _ _ (l0.take (x3_2 : Int).toNat) t805 _ ?side1 ?side2 A10.out).mono ?_); (case side1 => exact cs_ HR804 HB); (case side2 => exact HC804.out); rintro e w' ⟨rfl, ⟨nd, rfl⟩⟩; refine ⟨_, rfl, ?_⟩; obtain ⟨i022, hi022, _, hsz22, _⟩ := info_parts info3; obtain ⟨hcut22, hA22, hC22⟩ := print_take_of (P := Try.prog) (Value.int .i64) 0 22 3 .i64 Try.underlying22 hi022 hsz22 A0 c0 l0 (ji11) (od_) (od_) HC0.out; have HR806 := Aside0.mk (Kd.C_of_reads (h1 := fun _ => rfl) (hA22 _ (Kd.reads_of_C HR0.out))); have HC806 := Aside0.mk hC22; clear hA22 hC22 hi022 hsz22) | ((with_reducible refine gate_callee (f := 101) rfl ?_); refine goesL_ (some 28) rfl rfl Try.func101 (by kernel_rfl) rfl #[.slice A0 (l0.take ((ji11) : Int).toNat).length c0] rfl (by (try simp only [List.map_toArray, List.map_cons, List.map_nil]); first | done | (rw [show (l0.take ((ji11) : Int).toNat).length = (ji11).toNat from (by rw [List.length_take]; have h_ : ((ji11) : Int) ≤ (l0.length : Int) := od_; omega)] <;> rfl) | (simp only [hji11]; rfl) | rfl | (simp only [List.length_drop, List.length_take]; rfl)) ?_; (with_reducible refine (spec_GcdOfList.calls k2 _ _ (l0.take ((ji11) : Int).toNat) t807 _ ?side1 ?side2 A14.out).mono ?_); (case side1 => exact cs_ HR806 HB); (case side2 => exact HC806.out); rintro e w' ⟨rfl, ⟨nd, rfl⟩⟩; refine ⟨_, rfl, ?_⟩))
             (try (rw [drewN_self wr]; generalize hq_ : World.drewN wr _ = wr; have n0_ : Aside0 (Below w.heap.size w wr) := ⟨by rw [← hq_]; exact (bl_ HB.out)⟩; clear HB hq_; have HB := n0_; clear n0_))
             replace HB := Aside0.mk (below_drew1 HB.out)
             obtain ⟨i024, hi024, _, hsz24, _⟩ := info_parts info3
             obtain ⟨hcut24, hA24, hC24⟩ := print_take_of (P := Try.prog) (Value.int .i64) 0 22 3 .i64 Try.underlying22 hi024 hsz24 A0 c0 l0 x3_2 (od_) (od_) HC0.out
             have HR808 := Aside0.mk (Kd.C_of_reads (h1 := fun _ => rfl) (hA24 _ (Kd.reads_of_C HR0.out)))
             have HC808 := Aside0.mk hC24
             clear hA24 hC24 hi024 hsz24
             have p812 : 0 ≤ (x3_2 : Int) := od_
             have q812 : x3_2 < (l0.length : Int) := od_
             obtain ⟨ad812, e812, hx812_0⟩ := Kd.at_int HR0.out x3_2 p812 q812
             have hw812_0 := hx812_0
             cases e812
             replace hx812_0 := (HB.out.cell (World.block_lt_of_cell? w _ hx812_0)).trans hx812_0
             replace p812 := eq_true p812
             replace q812 := eq_true q812
             refine start_ (n := 13) (S := fun w' => w'.cell? (ad812.add (x3_2).toNat) = some (.int .i64 (rd l0 x3_2))) (ds := []) (fl_ 13 0) (by kernel_rfl) rfl rfl (((HB.out.cell (World.block_lt_of_cell? w _ hw812_0)).trans hw812_0)) (fun hHeld => ?_); refine with_tabW spec_IsTelescopic.tab8 spec_IsTelescopic.bits8 (fun HT_ HW_ => ?_)
             generalize wr.drew = w23 at HB HR808 hx812_0 hHeld ⊢
             refine pu_ 0 29 (fl_ 13 1) ?_
             refine pu_ 1 30 (fl_ 13 2) ?_
             refine pu_ 2 31 (fl_ 13 3) ?_
             refine pu_ 3 32 (fl_ 13 4) ?_
             refine pu_ 5 34 (fm_ 13 47) ?_
             refine pu_ 6 35 (fm_ 13 111) ?_
             refine pu_ 7 36 (fm_ 13 239) ?_
             refine pu_ 9 38 (fm_ 13 751) ?_
             refine ta_ 8 37 (fm_ 13 1007) ?_
             refine pu_ 10 39 (fm_ 13 2031) ?_
             refine on_ 4 33 (fl_ 13 11) fun K hK => ?_
             refine goes_ Try.func127 (by kernel_rfl) rfl #[.slice (some ad812) (l0.take (x3_2 : Int).toNat).length c0, .int .i64 t805] (by rfl) rfl rfl (by (try simp only [List.map_toArray, List.map_cons, List.map_nil]); first | done | (rw [show (l0.take (x3_2 : Int).toNat).length = x3_2.toNat from (by rw [List.length_take]; have h_ : (x3_2 : Int) ≤ (l0.length : Int) := od_; omega)] <;> rfl) | rfl | (simp only [List.length_drop, List.length_take]; rfl)) ?_
             with_reducible refine (spec_l22Over.calls k2 _ _ (l0.take (x3_2 : Int).toNat) t805 t809 _ ?side1 ?side2 A17.out).mono ?_
             (case side1 => exact cs_ HR808 HB)
             (case side2 => exact HC808.out)
             rintro e w25 ⟨v810, rfl, ho0, hb⟩
             refine ⟨_, rfl, ?_⟩
             have HO811 := rl_ ho0 HB
             replace HB := bs_ HB hb
             (try clear hb)
             (try clear hb2)
             (try clear hk)
             (try clear hi)
             (try clear ho0)
             obtain ⟨Ao26, co26, eo26⟩ := Kd.R_slice HO811.out
             (first | subst eo26 | (injection eo26 with f1_ f2_ f3_; have f4_ := f1_.symm; have f5_ := f3_.symm; clear f1_ f2_ f3_; subst f4_; subst f5_))
             refine hK.out _ _ (((HB.out.cell (World.block_lt_of_cell? w _ hw812_0)).trans hw812_0)) (fun hHeld => ?_)
             clear hK K
             refine no_ 33 ?_
             refine on_ 11 40 (fl_ 13 12) fun K hK => ?_
             refine go_ Try.func126 #[.slice Ao26 t809.length co26, .int .i64 (wrap64 (Int.tdiv (rd l0 x3_2) t807))] ?_
             with_reducible refine (spec_Generates.calls k2 _ _ t809 (wrap64 (Int.tdiv (rd l0 x3_2) t807)) true _ ?side1 ?side2 A19.out).mono ?_
             (case side1 => exact rs_ HO811)
             (case side2 => exact (Kd.R_reads' HO811.out).2.1)
             rintro e w27 ⟨rfl, hb⟩
             refine ⟨_, rfl, ?_⟩
             replace HO811 := rb_ HO811 hb
             replace HB := bs_ HB hb
             (try clear hb)
             (try clear hb2)
             (try clear hk)
             (try clear hi)
             refine hK.out _ _ (((HB.out.cell (World.block_lt_of_cell? w _ hw812_0)).trans hw812_0)) (fun hHeld => ?_)
             clear hK K
             refine no_ 40 ?_
             refine pu_ 12 41 (fl_ 13 13) ?_
             refine done_ (done_of HT_.out (by kernel_rfl)) ?_
             try go_wp2
             go_roundg k2
             case measure => have := HJ1.out; have := HK2.out; omega
             case rel => exact ⟨(ji11), (by first | rfl | (simp; done) | (simp only [← hji11] <;> (first | rfl | simp)) | (simp [*]; done)), H', ⟨by have := HJ1.out; have := HK2.out; omega⟩, ⟨bl_ HB.out⟩⟩
            ·obtain rfl := Bool.eq_false_iff.mpr c20
             rw [if_neg nf_] at H
             obtain rfl := Option.some.inj H
             obtain ⟨i028, hi028, _, hsz28, _⟩ := info_parts info3
             obtain ⟨hcut28, hA28, hC28⟩ := print_take_of (P := Try.prog) (Value.int .i64) 0 22 3 .i64 Try.underlying22 hi028 hsz28 A0 c0 l0 x3_2 (od_) (od_) HC0.out
             have HR804 := Aside0.mk (Kd.C_of_reads (h1 := fun _ => rfl) (hA28 _ (Kd.reads_of_C HR0.out)))
             have HC804 := Aside0.mk hC28
             clear hA28 hC28 hi028 hsz28
             try go_wp2_with (first | ((with_reducible refine gate_callee (f := 101) rfl ?_); refine goesL_ (some 23) rfl rfl Try.func101 (by kernel_rfl) rfl #[.slice A0 (l0.take (x3_2 : Int).toNat).length c0] rfl (by (try simp only [List.map_toArray, List.map_cons, List.map_nil]); first | done | (rw [show (l0.take (x3_2 : Int).toNat).length = x3_2.toNat from (by rw [List.length_take]; have h_ : (x3_2 : Int) ≤ (l0.length : Int) := od_; omega)] <;> rfl) | rfl | (simp only [List.length_drop, List.length_take]; rfl)) ?_; (with_reducible refine (spec_GcdOfList.calls k2 _ _ (l0.take (x3_2 : Int).toNat) t805 _ ?side1 ?side2 A10.out).mono ?_); (case side1 => exact cs_ HR804 HB); (case side2 => exact HC804.out); rintro e w' ⟨rfl, ⟨nd, rfl⟩⟩; refine ⟨_, rfl, ?_⟩; obtain ⟨i029, hi029, _, hsz29, _⟩ := info_parts info3; obtain ⟨hcut29, hA29, hC29⟩ := print_take_of (P := Try.prog) (Value.int .i64) 0 22 3 .i64 Try.underlying22 hi029 hsz29 A0 c0 l0 (ji11) (od_) (od_) HC0.out; have HR806 := Aside0.mk (Kd.C_of_reads (h1 := fun _ => rfl) (hA29 _ (Kd.reads_of_C HR0.out))); have HC806 := Aside0.mk hC29; clear hA29 hC29 hi029 hsz29) | ((with_reducible refine gate_callee (f := 101) rfl ?_); refine goesL_ (some 28) rfl rfl Try.func101 (by kernel_rfl) rfl #[.slice A0 (l0.take ((ji11) : Int).toNat).length c0] rfl (by (try simp only [List.map_toArray, List.map_cons, List.map_nil]); first | done | (rw [show (l0.take ((ji11) : Int).toNat).length = (ji11).toNat from (by rw [List.length_take]; have h_ : ((ji11) : Int) ≤ (l0.length : Int) := od_; omega)] <;> rfl) | (simp only [hji11]; rfl) | rfl | (simp only [List.length_drop, List.length_take]; rfl)) ?_; (with_reducible refine (spec_GcdOfList.calls k2 _ _ (l0.take ((ji11) : Int).toNat) t807 _ ?side1 ?side2 A14.out).mono ?_); (case side1 => exact cs_ HR806 HB); (case side2 => exact HC806.out); rintro e w' ⟨rfl, ⟨nd, rfl⟩⟩; refine ⟨_, rfl, ?_⟩))
             (try (rw [drewN_self wr]; generalize hq_ : World.drewN wr _ = wr; have n0_ : Aside0 (Below w.heap.size w wr) := ⟨by rw [← hq_]; exact (bl_ HB.out)⟩; clear HB hq_; have HB := n0_; clear n0_))
             replace HB := Aside0.mk (below_drew1 HB.out)
             obtain ⟨i031, hi031, _, hsz31, _⟩ := info_parts info3
             obtain ⟨hcut31, hA31, hC31⟩ := print_take_of (P := Try.prog) (Value.int .i64) 0 22 3 .i64 Try.underlying22 hi031 hsz31 A0 c0 l0 x3_2 (od_) (od_) HC0.out
             have HR808 := Aside0.mk (Kd.C_of_reads (h1 := fun _ => rfl) (hA31 _ (Kd.reads_of_C HR0.out)))
             have HC808 := Aside0.mk hC31
             clear hA31 hC31 hi031 hsz31
             have p812 : 0 ≤ (x3_2 : Int) := od_
             have q812 : x3_2 < (l0.length : Int) := od_
             obtain ⟨ad812, e812, hx812_0⟩ := Kd.at_int HR0.out x3_2 p812 q812
             have hw812_0 := hx812_0
             cases e812
             replace hx812_0 := (HB.out.cell (World.block_lt_of_cell? w _ hx812_0)).trans hx812_0
             replace p812 := eq_true p812
             replace q812 := eq_true q812
             refine start_ (n := 13) (S := fun w' => w'.cell? (ad812.add (x3_2).toNat) = some (.int .i64 (rd l0 x3_2))) (ds := []) (fl_ 13 0) (by kernel_rfl) rfl rfl (((HB.out.cell (World.block_lt_of_cell? w _ hw812_0)).trans hw812_0)) (fun hHeld => ?_); refine with_tabW spec_IsTelescopic.tab8 spec_IsTelescopic.bits8 (fun HT_ HW_ => ?_)
             generalize wr.drew = w30 at HB HR808 hx812_0 hHeld ⊢
             refine pu_ 0 29 (fl_ 13 1) ?_
             refine pu_ 1 30 (fl_ 13 2) ?_
             refine pu_ 2 31 (fl_ 13 3) ?_
             refine pu_ 3 32 (fl_ 13 4) ?_
             refine pu_ 5 34 (fm_ 13 47) ?_
             refine pu_ 6 35 (fm_ 13 111) ?_
             refine pu_ 7 36 (fm_ 13 239) ?_
             refine pu_ 9 38 (fm_ 13 751) ?_
             refine ta_ 8 37 (fm_ 13 1007) ?_
             refine pu_ 10 39 (fm_ 13 2031) ?_
             refine on_ 4 33 (fl_ 13 11) fun K hK => ?_
             refine goes_ Try.func127 (by kernel_rfl) rfl #[.slice (some ad812) (l0.take (x3_2 : Int).toNat).length c0, .int .i64 t805] (by rfl) rfl rfl (by (try simp only [List.map_toArray, List.map_cons, List.map_nil]); first | done | (rw [show (l0.take (x3_2 : Int).toNat).length = x3_2.toNat from (by rw [List.length_take]; have h_ : (x3_2 : Int) ≤ (l0.length : Int) := od_; omega)] <;> rfl) | rfl | (simp only [List.length_drop, List.length_take]; rfl)) ?_
             with_reducible refine (spec_l22Over.calls k2 _ _ (l0.take (x3_2 : Int).toNat) t805 t809 _ ?side1 ?side2 A17.out).mono ?_
             (case side1 => exact cs_ HR808 HB)
             (case side2 => exact HC808.out)
             rintro e w32 ⟨v810, rfl, ho0, hb⟩
             refine ⟨_, rfl, ?_⟩
             have HO811 := rl_ ho0 HB
             replace HB := bs_ HB hb
             (try clear hb)
             (try clear hb2)
             (try clear hk)
             (try clear hi)
             (try clear ho0)
             obtain ⟨Ao33, co33, eo33⟩ := Kd.R_slice HO811.out
             (first | subst eo33 | (injection eo33 with f1_ f2_ f3_; have f4_ := f1_.symm; have f5_ := f3_.symm; clear f1_ f2_ f3_; subst f4_; subst f5_))
             refine hK.out _ _ (((HB.out.cell (World.block_lt_of_cell? w _ hw812_0)).trans hw812_0)) (fun hHeld => ?_)
             clear hK K
             refine no_ 33 ?_
             refine on_ 11 40 (fl_ 13 12) fun K hK => ?_
             refine go_ Try.func126 #[.slice Ao33 t809.length co33, .int .i64 (wrap64 (Int.tdiv (rd l0 x3_2) t807))] ?_
             with_reducible refine (spec_Generates.calls k2 _ _ t809 (wrap64 (Int.tdiv (rd l0 x3_2) t807)) false _ ?side1 ?side2 A19.out).mono ?_
             (case side1 => exact rs_ HO811)
             (case side2 => exact (Kd.R_reads' HO811.out).2.1)
             rintro e w34 ⟨rfl, hb⟩
             refine ⟨_, rfl, ?_⟩
             replace HO811 := rb_ HO811 hb
             replace HB := bs_ HB hb
             (try clear hb)
             (try clear hb2)
             (try clear hk)
             (try clear hi)
             refine hK.out _ _ (((HB.out.cell (World.block_lt_of_cell? w _ hw812_0)).trans hw812_0)) (fun hHeld => ?_)
             clear hK K
             refine no_ 40 ?_
             refine pu_ 12 41 (fl_ 13 13) ?_
             refine done_ (done_of HT_.out (by kernel_rfl)) ?_
             try go_wp2
             go_ret
             exact ⟨by first | rfl | (simp [errW_none, errW_some] <;> rfl) | (simp only [← hji11]; first | rfl | (simp [errW_none, errW_some] <;> rfl)) | (simp [*, errW_none, errW_some] <;> rfl), bl_ HB.out⟩
          ·rw [if_neg c13] at H
           exact absurd H (by simp)
         ·rw [if_neg c12] at H
          exact absurd H (by simp)
        ·rw [if_neg c9] at H
         exact absurd H (by simp)
       ·rw [if_neg c8] at H
        exact absurd H (by simp)
      ·rw [if_neg c7] at H
       have c7b0 : decide (x3_2 < (l0.length : Int)) = false := decide_eq_false c7
       clear c7
       obtain rfl := Option.some.inj H
       go_wp2
       go_ret
       exact ⟨er_, bl_ HB.out⟩
def spec_TelescopicFrobenius.l0 : Nat → List Int → Int → Int → Option (Int)
 | 0, _, _, _ => none
 | k + 1, x0, x3, x4 => if x4 < (x0.length : Int) then (if 0 ≤ x4 then (if x4 ≤ (x0.length : Int) then ((spec_GcdOfList.f k (x0.take (x4 : Int).toNat)).bind fun t818 => (if 0 ≤ (wrap64 (x4 + 1)) then (if (wrap64 (x4 + 1)) ≤ (x0.length : Int) then ((spec_GcdOfList.f k (x0.take ((wrap64 (x4 + 1)) : Int).toNat)).bind fun t820 => (if t820 = 0 then (none) else (spec_TelescopicFrobenius.l0 k x0 (wrap64 ((wrap64 (x3 + (wrap64 (Int.tdiv (wrap64 ((rd x0 x4) * t818)) t820)))) - (rd x0 x4))) (wrap64 (x4 + 1))))) else (none)) else (none))) else (none)) else (none)) else (some x3)
def spec_TelescopicFrobenius.f (k : Nat) (l0 : List Int) : Option (Int) := (spec_IsTelescopic.f k l0).bind fun t814 => (if t814 = true then (if 0 < (l0.length : Int) then (spec_TelescopicFrobenius.l0 k l0 (wrap64 (-(rd l0 0))) 1) else (none)) else (some (-1)))
theorem spec_TelescopicFrobenius.calls (k : Nat) (A0 : Option Addr) (c0 : Nat) (l0 : List Int) (r : Int) (w : World) (hr0 : Kd.C (Kd.int .i64) w A0 l0.length l0) (hc0 : l0.length ≤ c0) (h : spec_TelescopicFrobenius.f k l0 = some r) :
 Calls Try.prog 71 #[.slice A0 l0.length c0] w fun e w' => e = .returned (.int .i64 r) ∧ Below w.heap.size w w' := by
 have HR0 := Aside0.mk hr0
 have HC0 := Aside0.mk hc0
 clear hr0 hc0
 have HB := Aside0.mk (Below.refl w.heap.size w)
 have H := h
 clear h
 unfold spec_TelescopicFrobenius.f at H
 obtain ⟨t814, A2, H⟩ := ob_ H
 (try dsimp only at H)
 by_cases c3 : t814 = true
 ·subst c3
  rw [if_pos rfl] at H
  by_cases c4 : 0 < (l0.length : Int)
  ·rw [if_pos c4] at H
   have c4b0 : decide (0 < (l0.length : Int)) = true := decide_eq_true c4
   have c4b1 : decide (0 < l0.length) = true := decide_eq_true (by omega)
   clear c4
   have H' := Aside0.mk H
   clear H
   go_enter Try.func71, Try.ntmps71
   go_wp2_with (first | (go_at_call 70; (with_reducible refine (spec_IsTelescopic.calls k _ _ l0 true _ ?side1 ?side2 A2.out).mono ?_); (case side1 => repeat (first | exact HR0.out | (with_reducible refine Kd.C_alloc ?_ _) | (with_reducible refine Kd.C_drewN ?_ _) | (with_reducible refine Kd.C_drew ?_))); (case side2 => exact HC0.out); rintro e w5 ⟨rfl, hb⟩; replace HB := bs_ HB hb; (try clear hb); (try clear hb2); (try clear hk); (try clear hi); have p815 : 0 ≤ (0 : Int) := (by omega); have q815 : 0 < (l0.length : Int) := od_; obtain ⟨ad815, e815, hx815_0⟩ := Kd.at_int HR0.out 0 p815 q815; cases e815; have qi815 : (0 < l0.length) = True := eq_true (by omega); (try rw [show ((0 : Int)).toNat = 0 from rfl] at hx815_0); (try rw [Addr.add_zero'] at hx815_0); replace hx815_0 := (HB.out.cell (World.block_lt_of_cell? w _ hx815_0)).trans hx815_0; replace p815 := eq_true p815; replace q815 := eq_true q815))
   repeat (go_quiet (first | (go_at_call 70; (with_reducible refine (spec_IsTelescopic.calls k _ _ l0 true _ ?side1 ?side2 A2.out).mono ?_); (case side1 => repeat (first | exact HR0.out | (with_reducible refine Kd.C_alloc ?_ _) | (with_reducible refine Kd.C_drewN ?_ _) | (with_reducible refine Kd.C_drew ?_))); (case side2 => exact HC0.out); rintro e w5 ⟨rfl, hb⟩; have n0_ := Aside0.mk (below_step (bl_ HB.out) hb); clear HB; have HB := n0_; clear n0_; (try clear hb); (try clear hb2); (try clear hk); (try clear hi); have p815 : 0 ≤ (0 : Int) := (by omega); have q815 : 0 < (l0.length : Int) := od_; obtain ⟨ad815, e815, hx815_0⟩ := Kd.at_int HR0.out 0 p815 q815; cases e815; have qi815 : (0 < l0.length) = True := eq_true (by omega); (try rw [show ((0 : Int)).toNat = 0 from rfl] at hx815_0); (try rw [Addr.add_zero'] at hx815_0); replace hx815_0 := (HB.out.cell (World.block_lt_of_cell? w _ hx815_0)).trans hx815_0; replace p815 := eq_true p815; replace q815 := eq_true q815)); try go_wp2_with (first | (go_at_call 70; (with_reducible refine (spec_IsTelescopic.calls k _ _ l0 true _ ?side1 ?side2 A2.out).mono ?_); (case side1 => repeat (first | exact HR0.out | (with_reducible refine Kd.C_alloc ?_ _) | (with_reducible refine Kd.C_drewN ?_ _) | (with_reducible refine Kd.C_drew ?_))); (case side2 => exact HC0.out); rintro e w5 ⟨rfl, hb⟩; have n0_ := Aside0.mk (below_step (bl_ HB.out) hb); clear HB; have HB := n0_; clear n0_; (try clear hb); (try clear hb2); (try clear hk); (try clear hi); have p815 : 0 ≤ (0 : Int) := (by omega); have q815 : 0 < (l0.length : Int) := od_; obtain ⟨ad815, e815, hx815_0⟩ := Kd.at_int HR0.out 0 p815 q815; cases e815; have qi815 : (0 < l0.length) = True := eq_true (by omega); (try rw [show ((0 : Int)).toNat = 0 from rfl] at hx815_0); (try rw [Addr.add_zero'] at hx815_0); replace hx815_0 := (HB.out.cell (World.block_lt_of_cell? w _ hx815_0)).trans hx815_0; replace p815 := eq_true p815; replace q815 := eq_true q815)))
   go_loopg [3, 4] k (fun kq v3 v4 w' => ∃ (x3_1 : Int) (x4_1 : Int), v3 = .int .i64 x3_1 ∧ v4 = .int .i64 x4_1 ∧ Aside0 (spec_TelescopicFrobenius.l0 kq l0 x3_1 x4_1 = some r) ∧ Aside0 (kq ≤ k) ∧ Aside0 (Below w.heap.size w w'))
   case atStart => exact ⟨(wrap64 (-(rd l0 0))), (1), sd_, sd_, H', ⟨Nat.le_refl _⟩, ⟨bl_ HB.out⟩⟩
   case round =>
    clear H'
    try clear p2
    try clear c3
    try clear c4
    try clear c4b0
    try clear c4b1
    try clear hx815_0
    try clear p815
    try clear q815
    obtain ⟨x3_1, x4_1, rfl, rfl, HA, HK1, HB⟩ := hrel
    cases gk with
    | zero => exact absurd HA.out (by simp [spec_TelescopicFrobenius.l0])
    | succ k1 =>
     have H := HA.out
     clear HA
     simp only [spec_TelescopicFrobenius.l0] at H
     by_cases c6 : x4_1 < (l0.length : Int)
     ·rw [if_pos c6] at H
      have c6b0 : decide (x4_1 < (l0.length : Int)) = true := decide_eq_true c6
      clear c6
      by_cases c7 : 0 ≤ x4_1
      ·rw [if_pos c7] at H
       have c7b0 : decide (0 ≤ x4_1) = true := decide_eq_true c7
       clear c7
       have c8b0 := eq_true (od_ : 0 ≤ x4_1)
       by_cases c9 : x4_1 ≤ (l0.length : Int)
       ·rw [if_pos c9] at H
        have c9b0 := eq_true c9
        have c9b1 : decide (x4_1 ≤ (l0.length : Int)) = true := decide_eq_true c9
        clear c9
        obtain ⟨t818, A10, H⟩ := ob_ H
        (try dsimp only at H)
        obtain ⟨ji11, hji11⟩ : ∃ j_ : Int, (wrap64 (x4_1 + 1)) = j_ := ⟨_, rfl⟩
        replace H : (if 0 ≤ (ji11) then (if (ji11) ≤ (l0.length : Int) then ((spec_GcdOfList.f k1 (l0.take ((ji11) : Int).toNat)).bind fun t820 => (if t820 = 0 then (none) else (spec_TelescopicFrobenius.l0 k1 l0 (wrap64 ((wrap64 (x3_1 + (wrap64 (Int.tdiv (wrap64 ((rd l0 x4_1) * t818)) t820)))) - (rd l0 x4_1))) ji11))) else (none)) else (none)) = some r := by first | (rw [hji11] at H; exact H) | (simp only [hji11] at H ⊢; exact H)
        (try rw [hji11] at A10)
        have hji11w : (IntKind.i64.wrap (x4_1 + 1)) = ji11 := (i64_w _).trans hji11
        by_cases c12 : 0 ≤ (ji11)
        ·rw [if_pos c12] at H
         have c12b0 := eq_true c12
         have c12b1 : decide (0 ≤ (ji11)) = true := decide_eq_true c12
         clear c12
         by_cases c13 : (ji11) ≤ (l0.length : Int)
         ·rw [if_pos c13] at H
          have c13b0 := eq_true c13
          have c13b1 : decide ((ji11) ≤ (l0.length : Int)) = true := decide_eq_true c13
          clear c13
          obtain ⟨t820, A14, H⟩ := ob_ H
          (try dsimp only at H)
          by_cases c15 : t820 = 0
          ·rw [if_pos c15] at H
           exact absurd H (by simp)
          ·rw [if_neg c15] at H
           have c15b0 : (t820 == 0) = false := beq_eq_false_iff_ne.mpr c15
           have c15b1 : (t820 != 0) = true := bne_iff_ne.mpr c15
           have H' := Aside0.mk H
           clear H
           have p816 : 0 ≤ (x4_1 : Int) := od_
           have q816 : x4_1 < (l0.length : Int) := od_
           obtain ⟨ad816, e816, hx816_0⟩ := Kd.at_int HR0.out x4_1 p816 q816
           obtain rfl : ad815 = ad816 := (by injection e816)
           replace hx816_0 := (HB.out.cell (World.block_lt_of_cell? w _ hx816_0)).trans hx816_0
           replace p816 := eq_true p816
           replace q816 := eq_true q816
           obtain ⟨i016, hi016, _, hsz16, _⟩ := info_parts info3
           obtain ⟨hcut16, hA16, hC16⟩ := print_take_of (P := Try.prog) (Value.int .i64) 0 22 3 .i64 Try.underlying22 hi016 hsz16 (some ad815) c0 l0 x4_1 (od_) (od_) HC0.out
           have HR817 := Aside0.mk (Kd.C_of_reads (h1 := fun _ => rfl) (hA16 _ (Kd.reads_of_C HR0.out)))
           have HC817 := Aside0.mk hC16
           clear hA16 hC16 hi016 hsz16
           go_wp2_with (first | (go_at_call 101; (with_reducible refine (spec_GcdOfList.calls k1 _ _ (l0.take (x4_1 : Int).toNat) t818 _ ?side1 ?side2 A10.out).mono ?_); (case side1 => exact cs_ HR817 HB); (case side2 => exact HC817.out); rintro e w' ⟨rfl, ⟨nd, rfl⟩⟩; (try first | exact ⟨rfl, _, World.drewN_drewN _ _ _⟩ | exact ⟨rfl, _, Eq.trans (World.drewN_drewN _ _ _) (congrArg (World.drewN _) (Nat.add_assoc _ _ _))⟩); obtain ⟨i017, hi017, _, hsz17, _⟩ := info_parts info3; obtain ⟨hcut17, hA17, hC17⟩ := print_take_of (P := Try.prog) (Value.int .i64) 0 22 3 .i64 Try.underlying22 hi017 hsz17 (some ad815) c0 l0 (ji11) (od_) (od_) HC0.out; have HR819 := Aside0.mk (Kd.C_of_reads (h1 := fun _ => rfl) (hA17 _ (Kd.reads_of_C HR0.out))); have HC819 := Aside0.mk hC17; clear hA17 hC17 hi017 hsz17) | (go_at_call 101; (with_reducible refine (spec_GcdOfList.calls k1 _ _ (l0.take ((ji11) : Int).toNat) t820 _ ?side1 ?side2 A14.out).mono ?_); (case side1 => exact cs_ HR819 HB); (case side2 => exact HC819.out); rintro e w' ⟨rfl, ⟨nd, rfl⟩⟩; (try first | exact ⟨rfl, _, World.drewN_drewN _ _ _⟩ | exact ⟨rfl, _, Eq.trans (World.drewN_drewN _ _ _) (congrArg (World.drewN _) (Nat.add_assoc _ _ _))⟩); have p821 : 0 ≤ (x4_1 : Int) := od_; have q821 : x4_1 < (l0.length : Int) := od_; obtain ⟨ad821, e821, hx821_0⟩ := Kd.at_int HR0.out x4_1 p821 q821; obtain rfl : ad815 = ad821 := (by injection e821); replace hx821_0 := (HB.out.cell (World.block_lt_of_cell? w _ hx821_0)).trans hx821_0; replace p821 := eq_true p821; replace q821 := eq_true q821))
           repeat (go_quiet (first | (go_at_call 101; (try rw [show (x4_1 : Int).toNat = (l0.take (x4_1 : Int).toNat).length from by rw [List.length_take]; have h_ : (x4_1 : Int) ≤ (l0.length : Int) := od_; omega]); (with_reducible refine (spec_GcdOfList.calls k1 _ _ (l0.take (x4_1 : Int).toNat) t818 _ ?side1 ?side2 A10.out).mono ?_); (case side1 => exact cs_ HR817 HB); (case side2 => exact HC817.out); rintro e w' ⟨rfl, ⟨nd, rfl⟩⟩; (try first | exact ⟨rfl, _, World.drewN_drewN _ _ _⟩ | exact ⟨rfl, _, Eq.trans (World.drewN_drewN _ _ _) (congrArg (World.drewN _) (Nat.add_assoc _ _ _))⟩); obtain ⟨i017, hi017, _, hsz17, _⟩ := info_parts info3; obtain ⟨hcut17, hA17, hC17⟩ := print_take_of (P := Try.prog) (Value.int .i64) 0 22 3 .i64 Try.underlying22 hi017 hsz17 (some ad815) c0 l0 (ji11) (od_) (od_) HC0.out; have HR819 := Aside0.mk (Kd.C_of_reads (h1 := fun _ => rfl) (hA17 _ (Kd.reads_of_C HR0.out))); have HC819 := Aside0.mk hC17; clear hA17 hC17 hi017 hsz17) | (go_at_call 101; (try rw [show (ji11 : Int).toNat = (l0.take (ji11 : Int).toNat).length from by rw [List.length_take]; have h_ : (ji11 : Int) ≤ (l0.length : Int) := od_; omega]); (with_reducible refine (spec_GcdOfList.calls k1 _ _ (l0.take ((ji11) : Int).toNat) t820 _ ?side1 ?side2 A14.out).mono ?_); (case side1 => exact cs_ HR819 HB); (case side2 => exact HC819.out); rintro e w' ⟨rfl, ⟨nd, rfl⟩⟩; (try first | exact ⟨rfl, _, World.drewN_drewN _ _ _⟩ | exact ⟨rfl, _, Eq.trans (World.drewN_drewN _ _ _) (congrArg (World.drewN _) (Nat.add_assoc _ _ _))⟩); have p821 : 0 ≤ (x4_1 : Int) := od_; have q821 : x4_1 < (l0.length : Int) := od_; obtain ⟨ad821, e821, hx821_0⟩ := Kd.at_int HR0.out x4_1 p821 q821; obtain rfl : ad815 = ad821 := (by injection e821); replace hx821_0 := (HB.out.cell (World.block_lt_of_cell? w _ hx821_0)).trans hx821_0; replace p821 := eq_true p821; replace q821 := eq_true q821)); try go_wp2_with (first | (go_at_call 101; (try rw [show (x4_1 : Int).toNat = (l0.take (x4_1 : Int).toNat).length from by rw [List.length_take]; have h_ : (x4_1 : Int) ≤ (l0.length : Int) := od_; omega]); (with_reducible refine (spec_GcdOfList.calls k1 _ _ (l0.take (x4_1 : Int).toNat) t818 _ ?side1 ?side2 A10.out).mono ?_); (case side1 => exact cs_ HR817 HB); (case side2 => exact HC817.out); rintro e w' ⟨rfl, ⟨nd, rfl⟩⟩; (try first | exact ⟨rfl, _, World.drewN_drewN _ _ _⟩ | exact ⟨rfl, _, Eq.trans (World.drewN_drewN _ _ _) (congrArg (World.drewN _) (Nat.add_assoc _ _ _))⟩); obtain ⟨i017, hi017, _, hsz17, _⟩ := info_parts info3; obtain ⟨hcut17, hA17, hC17⟩ := print_take_of (P := Try.prog) (Value.int .i64) 0 22 3 .i64 Try.underlying22 hi017 hsz17 (some ad815) c0 l0 (ji11) (od_) (od_) HC0.out; have HR819 := Aside0.mk (Kd.C_of_reads (h1 := fun _ => rfl) (hA17 _ (Kd.reads_of_C HR0.out))); have HC819 := Aside0.mk hC17; clear hA17 hC17 hi017 hsz17) | (go_at_call 101; (try rw [show (ji11 : Int).toNat = (l0.take (ji11 : Int).toNat).length from by rw [List.length_take]; have h_ : (ji11 : Int) ≤ (l0.length : Int) := od_; omega]); (with_reducible refine (spec_GcdOfList.calls k1 _ _ (l0.take ((ji11) : Int).toNat) t820 _ ?side1 ?side2 A14.out).mono ?_); (case side1 => exact cs_ HR819 HB); (case side2 => exact HC819.out); rintro e w' ⟨rfl, ⟨nd, rfl⟩⟩; (try first | exact ⟨rfl, _, World.drewN_drewN _ _ _⟩ | exact ⟨rfl, _, Eq.trans (World.drewN_drewN _ _ _) (congrArg (World.drewN _) (Nat.add_assoc _ _ _))⟩); have p821 : 0 ≤ (x4_1 : Int) := od_; have q821 : x4_1 < (l0.length : Int) := od_; obtain ⟨ad821, e821, hx821_0⟩ := Kd.at_int HR0.out x4_1 p821 q821; obtain rfl : ad815 = ad821 := (by injection e821); replace hx821_0 := (HB.out.cell (World.block_lt_of_cell? w _ hx821_0)).trans hx821_0; replace p821 := eq_true p821; replace q821 := eq_true q821)))
           go_roundg k1
           case measure => have := HK1.out; omega
           case rel => exact ⟨(wrap64 ((wrap64 (x3_1 + (wrap64 (Int.tdiv (wrap64 ((rd l0 x4_1) * t818)) t820)))) - (rd l0 x4_1))), (ji11), sd_, (by first | rfl | (simp; done) | (simp only [← hji11] <;> (first | rfl | simp)) | (simp [*]; done)), H', ⟨by have := HK1.out; omega⟩, ⟨bl_ HB.out⟩⟩
         ·rw [if_neg c13] at H
          exact absurd H (by simp)
        ·rw [if_neg c12] at H
         exact absurd H (by simp)
       ·rw [if_neg c9] at H
        exact absurd H (by simp)
      ·rw [if_neg c7] at H
       exact absurd H (by simp)
     ·rw [if_neg c6] at H
      have c6b0 : decide (x4_1 < (l0.length : Int)) = false := decide_eq_false c6
      clear c6
      obtain rfl := Option.some.inj H
      go_wp2
      repeat (go_quiet (fail); try go_wp2)
      go_ret
      exact ⟨er_, bl_ HB.out⟩
  ·rw [if_neg c4] at H
   exact absurd H (by simp)
 ·obtain rfl := Bool.eq_false_iff.mpr c3
  rw [if_neg nf_] at H
  obtain rfl := Option.some.inj H
  go_enter Try.func71, Try.ntmps71
  go_wp2_with (first | (go_at_call 70; (with_reducible refine (spec_IsTelescopic.calls k _ _ l0 false _ ?side1 ?side2 A2.out).mono ?_); (case side1 => repeat (first | exact HR0.out | (with_reducible refine Kd.C_alloc ?_ _) | (with_reducible refine Kd.C_drewN ?_ _) | (with_reducible refine Kd.C_drew ?_))); (case side2 => exact HC0.out); rintro e w18 ⟨rfl, hb⟩; replace HB := bs_ HB hb; (try clear hb); (try clear hb2); (try clear hk); (try clear hi)))
  repeat (go_quiet (first | (go_at_call 70; (with_reducible refine (spec_IsTelescopic.calls k _ _ l0 false _ ?side1 ?side2 A2.out).mono ?_); (case side1 => repeat (first | exact HR0.out | (with_reducible refine Kd.C_alloc ?_ _) | (with_reducible refine Kd.C_drewN ?_ _) | (with_reducible refine Kd.C_drew ?_))); (case side2 => exact HC0.out); rintro e w18 ⟨rfl, hb⟩; have n0_ := Aside0.mk (below_step (bl_ HB.out) hb); clear HB; have HB := n0_; clear n0_; (try clear hb); (try clear hb2); (try clear hk); (try clear hi))); try go_wp2_with (first | (go_at_call 70; (with_reducible refine (spec_IsTelescopic.calls k _ _ l0 false _ ?side1 ?side2 A2.out).mono ?_); (case side1 => repeat (first | exact HR0.out | (with_reducible refine Kd.C_alloc ?_ _) | (with_reducible refine Kd.C_drewN ?_ _) | (with_reducible refine Kd.C_drew ?_))); (case side2 => exact HC0.out); rintro e w18 ⟨rfl, hb⟩; have n0_ := Aside0.mk (below_step (bl_ HB.out) hb); clear HB; have HB := n0_; clear n0_; (try clear hb); (try clear hb2); (try clear hk); (try clear hi))))
  go_ret
  exact ⟨er_, bl_ HB.out⟩
end Go.Proofs.Ytbjbolblahlhcaa.PFnGlued
end
