/- Part 3 of the claim for FnGlued, of the chain from the printed contracts and the plain laws to the row. It has no condition of its own. -/
import Derived.Test.YtbjbolblahlhcaaG1ZFnGlued
import Derived.Test.YtbjbolblahlhcaaG2ZFnGlued
section
namespace Go.Proofs.Ytbjbolblahlhcaa.PFnGlued
open Go.RowKit Go.Proofs.YtbjbolblahlhcaaW.PrintWords Go.Proofs.YtbjbolblahlhcaaW.PrintLast Go.Proofs.YtbjbolblahlhcaaW.PrintMore
open Go.Proofs.Ytbjbolblahlhcaa.SortW (bk_ kr_ t_ f_)
open Go.Proofs.Ytbjbolblahlhcaa.SqW
attribute [local go_sem] max2_int min2_int max_two min_two max_three min_three max_four min_four
set_option maxHeartbeats 8000000
set_option maxRecDepth 100000
set_option linter.unusedVariables false
set_option linter.unusedSimpArgs false
def spec_l3Minimal.l0 : Nat → List Int → List Int → Int → Option (List Int)
 | 0, _, _, _ => none
 | k + 1, x3, x4, x5 => if x5 < (x4.length : Int) then (if x5 = 0 then (if 0 ≤ x5 then (if x3.length < 17592186044416 then (spec_l3Minimal.l0 k (x3 ++ [rd x4 x5]) x4 (wrap64 (x5 + 1))) else (none)) else (none)) else (if 0 ≤ x5 then (if x5 ≤ (x4.length : Int) then ((spec_l3Table.f k (x4.take (x5 : Int).toNat) (rd x4 x5)).bind fun t185 => (if 0 ≤ (rd x4 x5) then (if (rd x4 x5) < (t185.length : Int) then (if (rdOf false t185 (rd x4 x5) = true) then (spec_l3Minimal.l0 k x3 x4 (wrap64 (x5 + 1))) else (if x3.length < 17592186044416 then (spec_l3Minimal.l0 k (x3 ++ [rd x4 x5]) x4 (wrap64 (x5 + 1))) else (none))) else (none)) else (none))) else (none)) else (none))) else (some x3)
def spec_l3Minimal.f (k : Nat) (l0 : List Int) : Option (List Int) := (spec_SortList.f k l0).bind fun t173 => (spec_l3Minimal.l0 k (([] : List Int)) t173 0)
def spec_l3Minimal.T6 : Bool × List (List Nat × List Nat) := (true, [([], []), ([0], [0]), ([1], [1]), ([2], [2]), ([2], [2]), ([3, 4, 2], [2, 3, 4]), ([2], [2]), ([2], [2]), ([6, 7, 2], [2, 6, 7]), ([8, 2], [2, 8]), ([5, 9, 2, 2], [2, 5, 9]), ([2], [2]), ([2], [2]), ([11, 12, 2], [2, 11, 12]), ([13, 2], [2, 13]), ([10, 14, 2], [2, 10, 14]), ([15, 2], [2, 15]), ([16, 2], [2, 16]), ([2, 17], [2, 17])])
def spec_l3Minimal.B6 : List Nat := [0, 1, 3, 7, 7, 31, 7, 7, 199, 455, 1023, 7, 7, 6151, 14343, 32767, 65535, 131071, 262143]
theorem spec_l3Minimal.tab6 : rtab .any (opsOf Try.f103 6) = spec_l3Minimal.T6 := by kernel_rfl
theorem spec_l3Minimal.bits6 : waitsOk spec_l3Minimal.T6.2 spec_l3Minimal.B6 = true := by kernel_rfl
theorem spec_l3Minimal.calls (k : Nat) (A0 : Option Addr) (c0 : Nat) (l0 : List Int) (r : List Int) (w : World) (hr0 : Kd.C (Kd.int .i64) w A0 l0.length l0) (hc0 : l0.length ≤ c0) (h : spec_l3Minimal.f k l0 = some r) :
 Calls Try.prog 103 #[.slice A0 l0.length c0] w fun e w' => ∃ v0_ : Value, e = .returned (v0_) ∧ Kd.R (Kd.int .i64) 3 w' w.heap.size (fun _ => True) v0_ r ∧ Below w.heap.size w w' := by
 have HR0 := Aside0.mk hr0
 have HC0 := Aside0.mk hc0
 clear hr0 hc0
 have HB := Aside0.mk (Below.refl w.heap.size w)
 have H := h
 clear h
 unfold spec_l3Minimal.f at H
 obtain ⟨y170, hy170⟩ : ∃ y_ : List Int, y_ = (([] : List Int)) := ⟨_, rfl⟩
 replace H : ((spec_SortList.f k l0).bind fun t173 => (spec_l3Minimal.l0 k y170 t173 0)) = some r := hr_ hy170 H
 have Ny170 := Aside0.mk hy170
 clear hy170
 obtain ⟨t173, A2, H⟩ := ob_ H
 (try dsimp only at H)
 have H' := Aside0.mk H
 clear H
 go_enter Try.func103, Try.ntmps103
 go_wp2_with (first | ((with_reducible refine gate_dst (N := 6) rfl ?_); refine Kd.R_lit (Kd.int .i64) _ 3 ?hg (N := 6) ?hd (xs := ([] : List Int)) (inner := []) (ok := fun _ => True) (okp := fun _ => True) ?hr ?hp (fun _ hk => hk) trivial (Below.refl _ _) (Nat.le_refl _) (by simp) ?_; (case hd => rfl); (case hg => rfl); (case hr => first | (go_simp; done) | (go_simp; rfl)); (case hp => exact (Reps.none _ _)); intro v171 w3 ho4 hb hg_ hnew_; clear hg_ hnew_; (first | rw [← Ny170.out] at ho4 | (simp only [Int.reduceToNat] at ho4; rw [← Ny170.out] at ho4)); have HO172 := rl_ ho4 HB; replace HB := bs_ HB hb; clear hb ho4) | ((with_reducible refine gate_callee (f := 139) rfl ?_); refine gl_ 8 Try.func139 #[.slice A0 l0.length c0] ?_; (with_reducible refine (spec_SortList.calls k _ _ l0 t173 _ ?side1 ?side2 A2.out).mono ?_); (case side1 => exact cs_ HR0 HB); (case side2 => exact HC0.out); rintro e w5 ⟨v174, rfl, ho0, hb⟩; refine ⟨_, rfl, ?_⟩; have HO175 := Aside0.mk (Kd.R_lower (Kd.R_new' ho0 (Kd.R_lt (kr_ HO172.out))) (below_size (bl_ HB.out))); replace HO172 := Aside0.mk (Kd.R_elder' (kr_ HO172.out) (Kd.R_base ho0) hb); replace HB := bs_ HB hb; (try clear hb); (try clear hb2); (try clear hk); (try clear hi); (try clear ho0)))
 go_loopg [3, 5] k (fun kq v3 v5 w' => ∃ (x3_1 : List Int) (x5_1 : Int), v5 = .int .i64 x5_1 ∧ Aside0 (spec_l3Minimal.l0 kq x3_1 t173 x5_1 = some r) ∧ Aside0 (kq ≤ k) ∧ Aside0 (Kd.R (Kd.int .i64) 3 w' w.heap.size (fun k_ => some k_ ≠ (v174 : Value).ownBlock) v3 x3_1) ∧ Aside0 (Kd.R (Kd.int .i64) 3 w' w.heap.size (fun k_ => some k_ ≠ (v3 : Value).ownBlock) v174 t173) ∧ Aside0 (Below w.heap.size w w'))
 case atStart => exact ⟨(y170), (0), sd_, H', ⟨Nat.le_refl _⟩, ⟨kr_ (Kd.R_mono HO172.out (fun _ hk => hk.2))⟩, ⟨kr_ (Kd.R_mono HO175.out (fun _ hk => hk.2))⟩, ⟨bl_ HB.out⟩⟩
 case round =>
  clear H'
  try clear c1
  try clear p2
  obtain ⟨x3_1, x5_1, rfl, HA, HK1, HO_3, HO_4, HB⟩ := hrel
  cases gk with
  | zero => exact absurd HA.out (by simp [spec_l3Minimal.l0])
  | succ k1 =>
   have H := HA.out
   clear HA
   simp only [spec_l3Minimal.l0] at H
   by_cases c6 : x5_1 < (t173.length : Int)
   ·rw [if_pos c6] at H
    have c6b0 : decide (x5_1 < (t173.length : Int)) = true := decide_eq_true c6
    clear c6
    by_cases c7 : x5_1 = 0
    ·rw [if_pos c7] at H
     have c7b0 : (x5_1 == 0) = true := beq_iff_eq.mpr c7
     have c7b1 : (x5_1 != 0) = false := bne_eq_false_iff_eq.mpr c7
     clear c7
     by_cases c8 : 0 ≤ x5_1
     ·rw [if_pos c8] at H
      have c8b0 : decide (0 ≤ x5_1) = true := decide_eq_true c8
      clear c8
      by_cases c9 : x3_1.length < 17592186044416
      ·rw [if_pos c9] at H
       have LMc9 := Aside0.mk c9
       clear c9
       obtain ⟨y177, hy177⟩ : ∃ y_ : List Int, y_ = (x3_1 ++ [rd t173 x5_1]) := ⟨_, rfl⟩
       replace H : (spec_l3Minimal.l0 k1 y177 t173 (wrap64 (x5_1 + 1))) = some r := hr_ hy177 H
       have Ny177 := Aside0.mk hy177
       clear hy177
       have H' := Aside0.mk H
       clear H
       obtain ⟨Ao10, co10, eo10⟩ := Kd.R_slice HO_4.out
       subst eo10
       try go_wp2
       replace HO_3 := Aside0.mk (Kd.R_drew HO_3.out)
       replace HO_4 := Aside0.mk (Kd.R_drew HO_4.out)
       replace HB := Aside0.mk (below_drew1 HB.out)
       refine start_ (n := 19) (S := fun w' => True) (ds := []) (fl_ 19 0) (by kernel_rfl) rfl rfl trivial (fun hHeld => ?_); refine with_tabW spec_l3Minimal.tab6 spec_l3Minimal.bits6 (fun HT_ HW_ => ?_)
       generalize wr.drew = w11 at HO_3 HO_4 HB hHeld ⊢
       refine pu_ 0 15 (fl_ 19 1) ?_
       refine pu_ 1 16 (fl_ 19 2) ?_
       refine pu_ 2 17 (fl_ 19 3) ?_
       refine un_ 3 18 (fl_ 19 4) ?_
       refine un_ 4 19 (fl_ 19 5) ?_
       refine un_ 5 20 (fl_ 19 6) ?_
       refine un_ 6 21 (fl_ 19 7) ?_
       refine un_ 7 22 (fl_ 19 8) ?_
       refine un_ 8 23 (fl_ 19 9) ?_
       refine un_ 9 24 (fl_ 19 10) ?_
       refine un_ 10 25 (fl_ 19 11) ?_
       refine un_ 11 26 (fl_ 19 12) ?_
       refine un_ 12 27 (fl_ 19 13) ?_
       refine un_ 13 28 (fl_ 19 14) ?_
       refine un_ 14 29 (fl_ 19 15) ?_
       refine un_ 15 30 (fl_ 19 16) ?_
       refine un_ 16 31 (fl_ 19 17) ?_
       refine un_ 17 32 (fl_ 19 18) ?_
       refine pu_ 18 33 (fl_ 19 19) ?_
       refine done_ (done_of HT_.out (by kernel_rfl)) ?_
       have p176 : 0 ≤ (x5_1 : Int) := od_
       have q176 : x5_1 < (t173.length : Int) := od_
       obtain ⟨ad176, e176, hx176_0⟩ := Kd.at_int (Kd.R_reads' HO_4.out).2.2 x5_1 p176 q176
       cases e176
       replace p176 := eq_true p176
       replace q176 := eq_true q176
       try go_wp2_with (first | ((with_reducible refine gate_builtin (b := .append) (xs := #[.tmp 34, .tmp 39]) rfl ?_); at_builtin; refine Kd.R_append (Kd.int .i64) (w0 := w) w.heap.size rfl (.tmp 34) (.tmp 39) 22 3 (.int .i64 0) 8 rfl Try.underlying22 info3 rfl (by decide) (by omega) u3 x3_1 (rd t173 x5_1) [.int .i64 (rd t173 x5_1)] (fun k_ => some k_ ≠ (.slice (some ad176) t173.length co10 : Value).ownBlock) (fun _ => False) rfl rfl ?aP (fun _ hk => hk.elim) ?aF ?aO ?aB ?aS ?aL ?_; (case aP => exact rfl); (case aB => exact (bl_ HB.out)); (case aF => exact (fun k_ hk => Kd.fresh' (Kd.R_lt (kr_ HO_4.out)) k_ hk)); (case aO => exact (kr_ HO_3.out)); (case aS => exact (below_size (bl_ HB.out))); (case aL => have := LMc9.out; omega); intro v178 w12 ho hb hg hat; rw [← Ny177.out] at ho; have n0_ := Aside0.mk (Kd.R_after (ok := (fun _ => True)) (kr_ (Kd.R_mono HO_4.out (fun _ hk => ⟨trivial, by first | exact hk | exact SortW.own_len hk⟩))) hg hat); have n1_ := Aside0.mk (hb); have n2_ := Aside0.mk (ho); clear HO_4; clear HB; clear HO_3; have HO_4 := n0_; have HB := n1_; have HO179 := n2_; clear n0_ n1_ n2_; clear ho hb hg hat))
       go_roundg k1
       case measure => have := HK1.out; omega
       case rel => exact ⟨(y177), (wrap64 (x5_1 + 1)), sd_, H', ⟨by have := HK1.out; omega⟩, ⟨kr_ HO179.out⟩, ⟨kr_ (Kd.R_mono HO_4.out (fun _ hk => hk.2))⟩, ⟨bl_ HB.out⟩⟩
      ·rw [if_neg c9] at H
       exact absurd H (by simp)
     ·rw [if_neg c8] at H
      exact absurd H (by simp)
    ·rw [if_neg c7] at H
     have c7b0 : (x5_1 == 0) = false := beq_eq_false_iff_ne.mpr c7
     have c7b1 : (x5_1 != 0) = true := bne_iff_ne.mpr c7
     by_cases c13 : 0 ≤ x5_1
     ·rw [if_pos c13] at H
      have c13b0 := eq_true c13
      have c13b1 : decide (0 ≤ x5_1) = true := decide_eq_true c13
      clear c13
      by_cases c14 : x5_1 ≤ (t173.length : Int)
      ·rw [if_pos c14] at H
       have c14b0 := eq_true c14
       have c14b1 : decide (x5_1 ≤ (t173.length : Int)) = true := decide_eq_true c14
       clear c14
       obtain ⟨y180, hy180⟩ : ∃ y_ : List Int, y_ = (t173.take (x5_1 : Int).toNat) := ⟨_, rfl⟩
       replace H : ((spec_l3Table.f k1 y180 (rd t173 x5_1)).bind fun t185 => (if 0 ≤ (rd t173 x5_1) then (if (rd t173 x5_1) < (t185.length : Int) then (if (rdOf false t185 (rd t173 x5_1) = true) then (spec_l3Minimal.l0 k1 x3_1 t173 (wrap64 (x5_1 + 1))) else (if x3_1.length < 17592186044416 then (spec_l3Minimal.l0 k1 (x3_1 ++ [rd t173 x5_1]) t173 (wrap64 (x5_1 + 1))) else (none))) else (none)) else (none))) = some r := hr_ hy180 H
       have Ny180 := Aside0.mk hy180
       clear hy180
       obtain ⟨t185, A15, H⟩ := ob_ H
       (try dsimp only at H)
       by_cases c16 : 0 ≤ (rd t173 x5_1)
       ·rw [if_pos c16] at H
        have c16b0 : decide (0 ≤ (rd t173 x5_1)) = true := decide_eq_true c16
        clear c16
        by_cases c17 : (rd t173 x5_1) < (t185.length : Int)
        ·rw [if_pos c17] at H
         have c17b0 : decide ((rd t173 x5_1) < (t185.length : Int)) = true := decide_eq_true c17
         clear c17
         obtain ⟨bq18, hbq18⟩ : ∃ b_ : Bool, b_ = (rdOf false t185 (rd t173 x5_1)) := ⟨_, rfl⟩
         replace H : (if (bq18 = true) then (spec_l3Minimal.l0 k1 x3_1 t173 (wrap64 (x5_1 + 1))) else (if x3_1.length < 17592186044416 then (spec_l3Minimal.l0 k1 (x3_1 ++ [rd t173 x5_1]) t173 (wrap64 (x5_1 + 1))) else (none))) = some r := by rw [← hbq18] at H; exact H
         have Nbq18 := Aside0.mk hbq18
         clear hbq18
         by_cases c19 : (bq18 = true)
         ·subst c19
          rw [if_pos rfl] at H
          have H' := Aside0.mk H
          clear H
          obtain ⟨Ao20, co20, eo20⟩ := Kd.R_slice HO_4.out
          subst eo20
          try go_wp2
          replace HO_3 := Aside0.mk (Kd.R_drew HO_3.out)
          replace HO_4 := Aside0.mk (Kd.R_drew HO_4.out)
          replace HB := Aside0.mk (below_drew1 HB.out)
          have q22 : (x5_1 : Int) ≤ ((t173.length : Int) : Int) := od_
          obtain ⟨i022, hi022, _, hsz22, _⟩ := info_parts info3
          have hroom22 : t173.length ≤ co20 := (Kd.R_reads' HO_4.out).2.1
          have hC22 : Kd.C (Kd.int .i64) _ Ao20 t173.length t173 := (Kd.R_reads' HO_4.out).2.2
          have hcut22 := cut_to (P := Try.prog) 22 3 .i64 Try.underlying22 hi022 Ao20 t173.length co20 x5_1 (od_) q22 hroom22
          have hr22 := Kd.C_take (m := (x5_1 : Int).toNat) hC22 (by omega)
          have hy22 : y180.length = (x5_1 : Int).toNat := (by rw [Ny180.out, List.length_take]; omega)
          rw [← Ny180.out] at hr22
          rw [← hy22] at hcut22
          have HR183 := Aside0.mk hr22
          have HC183 := Aside0.mk (show y180.length ≤ co20 from by omega)
          clear hr22 hC22 hroom22 hi022 hsz22
          have KY22 := Aside0.mk hy22
          clear hy22
          have KL22 := Aside0.mk (show (x5_1 : Int).toNat ≤ t173.length from by omega)
          replace q22 := eq_true q22
          have p184 : 0 ≤ (x5_1 : Int) := od_
          have q184 : x5_1 < (t173.length : Int) := od_
          obtain ⟨ad184, e184, hx184_0⟩ := Kd.at_int (Kd.R_reads' HO_4.out).2.2 x5_1 p184 q184
          cases e184
          replace p184 := eq_true p184
          replace q184 := eq_true q184
          have p188 : 0 ≤ (x5_1 : Int) := od_
          have q188 : x5_1 < (t173.length : Int) := od_
          obtain ⟨ad188, e188, hx188_0⟩ := Kd.at_int (Kd.R_reads' HO_4.out).2.2 x5_1 p188 q188
          obtain rfl : ad184 = ad188 := (by injection e188)
          replace p188 := eq_true p188
          replace q188 := eq_true q188
          refine start_ (n := 19) (S := fun w' => w'.cell? (ad184.add (x5_1).toNat) = some (.int .i64 (rd t173 x5_1)) ∧ w'.cell? (ad184.add (x5_1).toNat) = some (.int .i64 (rd t173 x5_1))) (ds := []) (fl_ 19 0) (by kernel_rfl) rfl rfl ⟨hx184_0, hx188_0⟩ (fun hHeld => ?_); refine with_tabW spec_l3Minimal.tab6 spec_l3Minimal.bits6 (fun HT_ HW_ => ?_)
          generalize wr.drew = w21 at HO_3 HO_4 HB HR183 hx184_0 hx188_0 hHeld ⊢
          refine pu_ 0 15 (fl_ 19 1) ?_
          refine pu_ 1 16 (fl_ 19 2) ?_
          refine pu_ 2 17 (fl_ 19 3) ?_
          refine pu_ 3 18 (fl_ 19 4) ?_
          refine pu_ 4 19 (fl_ 19 5) ?_
          refine pu_ 5 20 (fl_ 19 6) ?_
          refine pu_ 6 21 (fl_ 19 7) ?_
          refine pu_ 7 22 (fl_ 19 8) ?_
          refine pu_ 8 23 (fl_ 19 9) ?_
          refine pu_ 11 26 (fm_ 19 2559) ?_
          refine pu_ 12 27 (fm_ 19 6655) ?_
          refine pu_ 13 28 (fm_ 19 14847) ?_
          refine ta_ 9 24 (fm_ 19 15359) ?_
          refine ta_ 14 29 (fm_ 19 31743) ?_
          refine on_ 10 25 (fl_ 19 15) fun K hK => ?_
          refine go_ Try.func140 #[.slice (some ad184) y180.length co20, .int .i64 (rd t173 x5_1)] ?_
          with_reducible refine (spec_l3Table.calls k1 _ _ y180 (rd t173 x5_1) t185 _ ?side1 ?side2 A15.out).mono ?_
          (case side1 => repeat (first | exact (by repeat (first | (with_reducible exact HR183.out) | (with_reducible refine Kd.C_alloc ?_ _) | (with_reducible refine Kd.C_drewN ?_ _) | (with_reducible refine Kd.C_drew ?_) | exact HR183.out)) | (with_reducible refine Kd.C_alloc ?_ _) | (with_reducible refine Kd.C_drewN ?_ _) | (with_reducible refine Kd.C_drew ?_)))
          (case side2 => exact HC183.out)
          rintro e w23 ⟨v186, rfl, ho0, hb⟩
          have HS0_ := (hb.cell (World.block_lt_of_cell? _ _ (hHeld.1))).trans (hHeld.1)
          have HS1_ := (hb.cell (World.block_lt_of_cell? _ _ (hHeld.2))).trans (hHeld.2)
          refine ⟨_, rfl, ?_⟩
          replace HO_3 := rb_ HO_3 hb
          replace HO_4 := rb_ HO_4 hb
          have HO187 := rl_ ho0 HB
          replace HR183 := Aside0.mk (Kd.C_below (by repeat (first | (with_reducible exact HR183.out) | (with_reducible refine Kd.C_alloc ?_ _) | (with_reducible refine Kd.C_drewN ?_ _) | (with_reducible refine Kd.C_drew ?_) | exact HR183.out)) hb)
          replace HB := bs_ HB hb
          (try clear hb)
          (try clear hb2)
          (try clear hk)
          (try clear hi)
          (try clear ho0)
          obtain ⟨Ao24, co24, eo24⟩ := Kd.R_slice HO187.out
          (first | subst eo24 | (injection eo24 with f1_ f2_ f3_; have f4_ := f1_.symm; have f5_ := f3_.symm; clear f1_ f2_ f3_; subst f4_; subst f5_))
          have p189 : 0 ≤ ((rd t173 x5_1) : Int) := od_
          have q189 : (rd t173 x5_1) < (t185.length : Int) := od_
          obtain ⟨ad189, e189, hx189_0⟩ := Kd.at_bool (Kd.R_reads' HO187.out).2.2 (rd t173 x5_1) p189 q189
          (try rw [← Nbq18.out] at hx189_0)
          cases e189
          replace p189 := eq_true p189
          replace q189 := eq_true q189
          refine hK.out _ _ ⟨HS0_, HS1_⟩ (fun hHeld => ?_)
          clear hK K
          refine no_ 25 ?_
          refine pu_ 15 30 (fl_ 19 16) ?_
          have HSall_ := hHeld
          refine on_ 16 31 (fl_ 19 17) fun K hK => ?_
          refine value_ (w1 := ?_) (v := ?_) (by rfl) rfl ?_ ?_
          rotate_left 2
          ·go_simp
           constructor
           ·rfl
           ·rfl
          refine hK.out _ _ HSall_ (fun hHeld => ?_)
          clear hK K HSall_
          refine no_ 31 ?_
          refine pu_ 17 32 (fl_ 19 18) ?_
          refine pu_ 18 33 (fl_ 19 19) ?_
          refine done_ (done_of HT_.out (by kernel_rfl)) ?_
          try go_wp2
          go_roundg k1
          case measure => have := HK1.out; omega
          case rel => exact ⟨(x3_1), (wrap64 (x5_1 + 1)), sd_, H', ⟨by have := HK1.out; omega⟩, ⟨kr_ HO_3.out⟩, ⟨kr_ HO_4.out⟩, ⟨bl_ HB.out⟩⟩
         ·obtain rfl := Bool.eq_false_iff.mpr c19
          rw [if_neg nf_] at H
          by_cases c25 : x3_1.length < 17592186044416
          ·rw [if_pos c25] at H
           have LMc25 := Aside0.mk c25
           clear c25
           obtain ⟨y191, hy191⟩ : ∃ y_ : List Int, y_ = (x3_1 ++ [rd t173 x5_1]) := ⟨_, rfl⟩
           replace H : (spec_l3Minimal.l0 k1 y191 t173 (wrap64 (x5_1 + 1))) = some r := hr_ hy191 H
           have Ny191 := Aside0.mk hy191
           clear hy191
           have H' := Aside0.mk H
           clear H
           obtain ⟨Ao26, co26, eo26⟩ := Kd.R_slice HO_4.out
           subst eo26
           try go_wp2
           replace HO_3 := Aside0.mk (Kd.R_drew HO_3.out)
           replace HO_4 := Aside0.mk (Kd.R_drew HO_4.out)
           replace HB := Aside0.mk (below_drew1 HB.out)
           have q28 : (x5_1 : Int) ≤ ((t173.length : Int) : Int) := od_
           obtain ⟨i028, hi028, _, hsz28, _⟩ := info_parts info3
           have hroom28 : t173.length ≤ co26 := (Kd.R_reads' HO_4.out).2.1
           have hC28 : Kd.C (Kd.int .i64) _ Ao26 t173.length t173 := (Kd.R_reads' HO_4.out).2.2
           have hcut28 := cut_to (P := Try.prog) 22 3 .i64 Try.underlying22 hi028 Ao26 t173.length co26 x5_1 (od_) q28 hroom28
           have hr28 := Kd.C_take (m := (x5_1 : Int).toNat) hC28 (by omega)
           have hy28 : y180.length = (x5_1 : Int).toNat := (by rw [Ny180.out, List.length_take]; omega)
           rw [← Ny180.out] at hr28
           rw [← hy28] at hcut28
           have HR183 := Aside0.mk hr28
           have HC183 := Aside0.mk (show y180.length ≤ co26 from by omega)
           clear hr28 hC28 hroom28 hi028 hsz28
           have KY28 := Aside0.mk hy28
           clear hy28
           have KL28 := Aside0.mk (show (x5_1 : Int).toNat ≤ t173.length from by omega)
           replace q28 := eq_true q28
           have p184 : 0 ≤ (x5_1 : Int) := od_
           have q184 : x5_1 < (t173.length : Int) := od_
           obtain ⟨ad184, e184, hx184_0⟩ := Kd.at_int (Kd.R_reads' HO_4.out).2.2 x5_1 p184 q184
           cases e184
           replace p184 := eq_true p184
           replace q184 := eq_true q184
           have p188 : 0 ≤ (x5_1 : Int) := od_
           have q188 : x5_1 < (t173.length : Int) := od_
           obtain ⟨ad188, e188, hx188_0⟩ := Kd.at_int (Kd.R_reads' HO_4.out).2.2 x5_1 p188 q188
           obtain rfl : ad184 = ad188 := (by injection e188)
           replace p188 := eq_true p188
           replace q188 := eq_true q188
           refine start_ (n := 19) (S := fun w' => w'.cell? (ad184.add (x5_1).toNat) = some (.int .i64 (rd t173 x5_1)) ∧ w'.cell? (ad184.add (x5_1).toNat) = some (.int .i64 (rd t173 x5_1))) (ds := []) (fl_ 19 0) (by kernel_rfl) rfl rfl ⟨hx184_0, hx188_0⟩ (fun hHeld => ?_); refine with_tabW spec_l3Minimal.tab6 spec_l3Minimal.bits6 (fun HT_ HW_ => ?_)
           generalize wr.drew = w27 at HO_3 HO_4 HB HR183 hx184_0 hx188_0 hHeld ⊢
           refine pu_ 0 15 (fl_ 19 1) ?_
           refine pu_ 1 16 (fl_ 19 2) ?_
           refine pu_ 2 17 (fl_ 19 3) ?_
           refine pu_ 3 18 (fl_ 19 4) ?_
           refine pu_ 4 19 (fl_ 19 5) ?_
           refine pu_ 5 20 (fl_ 19 6) ?_
           refine pu_ 6 21 (fl_ 19 7) ?_
           refine pu_ 7 22 (fl_ 19 8) ?_
           refine pu_ 8 23 (fl_ 19 9) ?_
           refine pu_ 11 26 (fm_ 19 2559) ?_
           refine pu_ 12 27 (fm_ 19 6655) ?_
           refine pu_ 13 28 (fm_ 19 14847) ?_
           refine ta_ 9 24 (fm_ 19 15359) ?_
           refine ta_ 14 29 (fm_ 19 31743) ?_
           refine on_ 10 25 (fl_ 19 15) fun K hK => ?_
           refine go_ Try.func140 #[.slice (some ad184) y180.length co26, .int .i64 (rd t173 x5_1)] ?_
           with_reducible refine (spec_l3Table.calls k1 _ _ y180 (rd t173 x5_1) t185 _ ?side1 ?side2 A15.out).mono ?_
           (case side1 => repeat (first | exact (by repeat (first | (with_reducible exact HR183.out) | (with_reducible refine Kd.C_alloc ?_ _) | (with_reducible refine Kd.C_drewN ?_ _) | (with_reducible refine Kd.C_drew ?_) | exact HR183.out)) | (with_reducible refine Kd.C_alloc ?_ _) | (with_reducible refine Kd.C_drewN ?_ _) | (with_reducible refine Kd.C_drew ?_)))
           (case side2 => exact HC183.out)
           rintro e w29 ⟨v186, rfl, ho0, hb⟩
           have HS0_ := (hb.cell (World.block_lt_of_cell? _ _ (hHeld.1))).trans (hHeld.1)
           have HS1_ := (hb.cell (World.block_lt_of_cell? _ _ (hHeld.2))).trans (hHeld.2)
           refine ⟨_, rfl, ?_⟩
           replace HO_3 := rb_ HO_3 hb
           replace HO_4 := rb_ HO_4 hb
           have HO187 := rl_ ho0 HB
           replace HR183 := Aside0.mk (Kd.C_below (by repeat (first | (with_reducible exact HR183.out) | (with_reducible refine Kd.C_alloc ?_ _) | (with_reducible refine Kd.C_drewN ?_ _) | (with_reducible refine Kd.C_drew ?_) | exact HR183.out)) hb)
           replace HB := bs_ HB hb
           (try clear hb)
           (try clear hb2)
           (try clear hk)
           (try clear hi)
           (try clear ho0)
           obtain ⟨Ao30, co30, eo30⟩ := Kd.R_slice HO187.out
           (first | subst eo30 | (injection eo30 with f1_ f2_ f3_; have f4_ := f1_.symm; have f5_ := f3_.symm; clear f1_ f2_ f3_; subst f4_; subst f5_))
           have p189 : 0 ≤ ((rd t173 x5_1) : Int) := od_
           have q189 : (rd t173 x5_1) < (t185.length : Int) := od_
           obtain ⟨ad189, e189, hx189_0⟩ := Kd.at_bool (Kd.R_reads' HO187.out).2.2 (rd t173 x5_1) p189 q189
           (try rw [← Nbq18.out] at hx189_0)
           cases e189
           replace p189 := eq_true p189
           replace q189 := eq_true q189
           refine hK.out _ _ ⟨HS0_, HS1_⟩ (fun hHeld => ?_)
           clear hK K
           refine no_ 25 ?_
           refine pu_ 15 30 (fl_ 19 16) ?_
           have HSall_ := hHeld
           refine on_ 16 31 (fl_ 19 17) fun K hK => ?_
           refine value_ (w1 := ?_) (v := ?_) (by rfl) rfl ?_ ?_
           rotate_left 2
           ·go_simp
            constructor
            ·rfl
            ·rfl
           refine hK.out _ _ HSall_ (fun hHeld => ?_)
           clear hK K HSall_
           refine no_ 31 ?_
           refine pu_ 17 32 (fl_ 19 18) ?_
           refine pu_ 18 33 (fl_ 19 19) ?_
           refine done_ (done_of HT_.out (by kernel_rfl)) ?_
           have p190 : 0 ≤ (x5_1 : Int) := od_
           have q190 : x5_1 < (t173.length : Int) := od_
           obtain ⟨ad190, e190, hx190_0⟩ := Kd.at_int (Kd.R_reads' HO_4.out).2.2 x5_1 p190 q190
           obtain rfl : ad184 = ad190 := (by injection e190)
           replace p190 := eq_true p190
           replace q190 := eq_true q190
           try go_wp2_with (first | ((with_reducible refine gate_builtin (b := .append) (xs := #[.tmp 34, .tmp 39]) rfl ?_); at_builtin; refine Kd.R_append (Kd.int .i64) (w0 := w) w.heap.size rfl (.tmp 34) (.tmp 39) 22 3 (.int .i64 0) 8 rfl Try.underlying22 info3 rfl (by decide) (by omega) u3 x3_1 (rd t173 x5_1) [.int .i64 (rd t173 x5_1)] (fun k_ => some k_ ≠ (.slice (some ad184) t173.length co26 : Value).ownBlock) (fun _ => False) rfl rfl ?aP (fun _ hk => hk.elim) ?aF ?aO ?aB ?aS ?aL ?_; (case aP => exact rfl); (case aB => exact (bl_ HB.out)); (case aF => exact (fun k_ hk => Kd.fresh' (Kd.R_lt (kr_ HO_4.out)) k_ hk)); (case aO => exact (kr_ HO_3.out)); (case aS => exact (below_size (bl_ HB.out))); (case aL => have := LMc25.out; omega); intro v192 w31 ho hb hg hat; rw [← Ny191.out] at ho; have n0_ := Aside0.mk (Kd.R_after (ok := (fun _ => True)) (kr_ (Kd.R_mono HO_4.out (fun _ hk => ⟨trivial, by first | exact hk | exact SortW.own_len hk⟩))) hg hat); have n1_ := Aside0.mk (Kd.R_over' (kr_ HO187.out) (Kd.R_typed (kr_ HO_3.out)) (by decide) hg); have n2_ := Aside0.mk (hb); have n3_ := Aside0.mk ((show Kd.C (Kd.int .i64) w31 (some ad184) y180.length y180 from by rw [Ny180.out]; exact Kd.C_take (m := (x5_1 : Int).toNat) ((Kd.R_reads' (Kd.R_after (ok := (fun _ => True)) (kr_ (Kd.R_mono HO_4.out (fun _ hk => ⟨trivial, by first | exact hk | exact SortW.own_len hk⟩))) hg hat)).2.2) KL28.out)); have n4_ := Aside0.mk (ho); clear HO_4; clear HO187; clear HB; clear HR183; clear HO_3; have HO_4 := n0_; have HO187 := n1_; have HB := n2_; have HR183 := n3_; have HO193 := n4_; clear n0_ n1_ n2_ n3_ n4_; clear ho hb hg hat))
           go_roundg k1
           case measure => have := HK1.out; omega
           case rel => exact ⟨(y191), (wrap64 (x5_1 + 1)), sd_, H', ⟨by have := HK1.out; omega⟩, ⟨kr_ HO193.out⟩, ⟨kr_ (Kd.R_mono HO_4.out (fun _ hk => hk.2))⟩, ⟨bl_ HB.out⟩⟩
          ·rw [if_neg c25] at H
           exact absurd H (by simp)
        ·rw [if_neg c17] at H
         exact absurd H (by simp)
       ·rw [if_neg c16] at H
        exact absurd H (by simp)
      ·rw [if_neg c14] at H
       exact absurd H (by simp)
     ·rw [if_neg c13] at H
      exact absurd H (by simp)
   ·rw [if_neg c6] at H
    have c6b0 : decide (x5_1 < (t173.length : Int)) = false := decide_eq_false c6
    clear c6
    obtain rfl := Option.some.inj H
    obtain ⟨Ao32, co32, eo32⟩ := Kd.R_slice HO_4.out
    subst eo32
    go_wp2
    go_ret
    exact ⟨_, er_, kr_ (Kd.R_mono HO_3.out (fun _ hk => trivial)), bl_ HB.out⟩
def spec_l3Ends.l0 : Nat → List Int → List Bool → Int → Option (Bool)
 | 0, _, _, _ => none
 | k + 1, x0, x3, x4 => if 0 < (x0.length : Int) then (if x4 < (wrap64 (200 + (rd x0 0))) then (if 0 ≤ x4 then (if x4 < (x3.length : Int) then (if rdOf false x3 x4 = true then (spec_l3Ends.l0 k x0 x3 (wrap64 (x4 + 1))) else (some false)) else (none)) else (none)) else (some true)) else (none)
def spec_l3Ends.f (k : Nat) (l0 : List Int) : Option (Bool) := (spec_l3Table.f k l0 260).bind fun t194 => (spec_l3Ends.l0 k l0 t194 200)
theorem spec_l3Ends.calls (k : Nat) (A0 : Option Addr) (c0 : Nat) (l0 : List Int) (r : Bool) (w : World) (hr0 : Kd.C (Kd.int .i64) w A0 l0.length l0) (hc0 : l0.length ≤ c0) (h : spec_l3Ends.f k l0 = some r) :
 Calls Try.prog 104 #[.slice A0 l0.length c0] w fun e w' => e = .returned (.bool r) ∧ Below w.heap.size w w' := by
 have HR0 := Aside0.mk hr0
 have HC0 := Aside0.mk hc0
 clear hr0 hc0
 have HB := Aside0.mk (Below.refl w.heap.size w)
 have H := h
 clear h
 unfold spec_l3Ends.f at H
 obtain ⟨t194, A2, H⟩ := ob_ H
 (try dsimp only at H)
 have H' := Aside0.mk H
 clear H
 go_enter Try.func104, Try.ntmps104
 go_wp2_with (first | ((with_reducible refine gate_callee (f := 140) rfl ?_); refine gl_ 6 Try.func140 #[.slice A0 l0.length c0, .int .i64 260] ?_; (with_reducible refine (spec_l3Table.calls k _ _ l0 260 t194 _ ?side1 ?side2 A2.out).mono ?_); (case side1 => repeat (first | exact HR0.out | (with_reducible refine Kd.C_alloc ?_ _) | (with_reducible refine Kd.C_drewN ?_ _) | (with_reducible refine Kd.C_drew ?_))); (case side2 => exact HC0.out); rintro e w3 ⟨v195, rfl, ho0, hb⟩; refine ⟨_, rfl, ?_⟩; have HO196 := rl_ ho0 HB; replace HB := bs_ HB hb; (try clear hb); (try clear hb2); (try clear hk); (try clear hi); (try clear ho0)))
 go_loopg [4] k (fun kq v4 w' => ∃ (x4_1 : Int), v4 = .int .i64 x4_1 ∧ Aside0 (spec_l3Ends.l0 kq l0 t194 x4_1 = some r) ∧ Aside0 (kq ≤ k) ∧ Aside0 (Kd.R Kd.bool 4 w' w.heap.size (fun _ => True) v195 t194) ∧ Aside0 (Below w.heap.size w w'))
 case atStart => exact ⟨(200), sd_, H', ⟨Nat.le_refl _⟩, ⟨kr_ HO196.out⟩, ⟨bl_ HB.out⟩⟩
 case round =>
  clear H'
  try clear c1
  try clear p2
  obtain ⟨x4_1, rfl, HA, HK1, HO_3, HB⟩ := hrel
  cases gk with
  | zero => exact absurd HA.out (by simp [spec_l3Ends.l0])
  | succ k1 =>
   have H := HA.out
   clear HA
   simp only [spec_l3Ends.l0] at H
   by_cases c4 : 0 < (l0.length : Int)
   ·rw [if_pos c4] at H
    have c4b0 : decide (0 < (l0.length : Int)) = true := decide_eq_true c4
    have c4b1 : decide (0 < l0.length) = true := decide_eq_true (by omega)
    clear c4
    by_cases c5 : x4_1 < (wrap64 (200 + (rd l0 0)))
    ·rw [if_pos c5] at H
     have c5b0 : decide (x4_1 < (wrap64 (200 + (rd l0 0)))) = true := decide_eq_true c5
     clear c5
     by_cases c6 : 0 ≤ x4_1
     ·rw [if_pos c6] at H
      have c6b0 : decide (0 ≤ x4_1) = true := decide_eq_true c6
      clear c6
      by_cases c7 : x4_1 < (t194.length : Int)
      ·rw [if_pos c7] at H
       have c7b0 : decide (x4_1 < (t194.length : Int)) = true := decide_eq_true c7
       clear c7
       obtain ⟨bq8, hbq8⟩ : ∃ b_ : Bool, b_ = (rdOf false t194 x4_1) := ⟨_, rfl⟩
       replace H : (if bq8 = true then (spec_l3Ends.l0 k1 l0 t194 (wrap64 (x4_1 + 1))) else (some false)) = some r := by rw [← hbq8] at H; exact H
       have Nbq8 := Aside0.mk hbq8
       clear hbq8
       by_cases c9 : bq8 = true
       ·subst c9
        rw [if_pos rfl] at H
        have H' := Aside0.mk H
        clear H
        have p197 : 0 ≤ (0 : Int) := (by omega)
        have q197 : 0 < (l0.length : Int) := od_
        obtain ⟨ad197, e197, hx197_0⟩ := Kd.at_int HR0.out 0 p197 q197
        cases e197
        have qi197 : (0 < l0.length) = True := eq_true (by omega)
        (try rw [show ((0 : Int)).toNat = 0 from rfl] at hx197_0)
        (try rw [Addr.add_zero'] at hx197_0)
        replace hx197_0 := (HB.out.cell (World.block_lt_of_cell? w _ hx197_0)).trans hx197_0
        replace p197 := eq_true p197
        replace q197 := eq_true q197
        obtain ⟨Ao10, co10, eo10⟩ := Kd.R_slice HO_3.out
        subst eo10
        have p198 : 0 ≤ (x4_1 : Int) := od_
        have q198 : x4_1 < (t194.length : Int) := od_
        obtain ⟨ad198, e198, hx198_0⟩ := Kd.at_bool (Kd.R_reads' HO_3.out).2.2 x4_1 p198 q198
        (try rw [← Nbq8.out] at hx198_0)
        cases e198
        replace p198 := eq_true p198
        replace q198 := eq_true q198
        go_wp2
        go_roundg k1
        case measure => have := HK1.out; omega
        case rel => exact ⟨(wrap64 (x4_1 + 1)), sd_, H', ⟨by have := HK1.out; omega⟩, ⟨kr_ HO_3.out⟩, ⟨bl_ HB.out⟩⟩
       ·obtain rfl := Bool.eq_false_iff.mpr c9
        rw [if_neg nf_] at H
        obtain rfl := Option.some.inj H
        have p197 : 0 ≤ (0 : Int) := (by omega)
        have q197 : 0 < (l0.length : Int) := od_
        obtain ⟨ad197, e197, hx197_0⟩ := Kd.at_int HR0.out 0 p197 q197
        cases e197
        have qi197 : (0 < l0.length) = True := eq_true (by omega)
        (try rw [show ((0 : Int)).toNat = 0 from rfl] at hx197_0)
        (try rw [Addr.add_zero'] at hx197_0)
        replace hx197_0 := (HB.out.cell (World.block_lt_of_cell? w _ hx197_0)).trans hx197_0
        replace p197 := eq_true p197
        replace q197 := eq_true q197
        obtain ⟨Ao11, co11, eo11⟩ := Kd.R_slice HO_3.out
        subst eo11
        have p198 : 0 ≤ (x4_1 : Int) := od_
        have q198 : x4_1 < (t194.length : Int) := od_
        obtain ⟨ad198, e198, hx198_0⟩ := Kd.at_bool (Kd.R_reads' HO_3.out).2.2 x4_1 p198 q198
        (try rw [← Nbq8.out] at hx198_0)
        cases e198
        replace p198 := eq_true p198
        replace q198 := eq_true q198
        go_wp2
        go_ret
        exact ⟨er_, bl_ HB.out⟩
      ·rw [if_neg c7] at H
       exact absurd H (by simp)
     ·rw [if_neg c6] at H
      exact absurd H (by simp)
    ·rw [if_neg c5] at H
     have c5b0 : decide (x4_1 < (wrap64 (200 + (rd l0 0)))) = false := decide_eq_false c5
     clear c5
     obtain rfl := Option.some.inj H
     have p197 : 0 ≤ (0 : Int) := (by omega)
     have q197 : 0 < (l0.length : Int) := od_
     obtain ⟨ad197, e197, hx197_0⟩ := Kd.at_int HR0.out 0 p197 q197
     cases e197
     have qi197 : (0 < l0.length) = True := eq_true (by omega)
     (try rw [show ((0 : Int)).toNat = 0 from rfl] at hx197_0)
     (try rw [Addr.add_zero'] at hx197_0)
     replace hx197_0 := (HB.out.cell (World.block_lt_of_cell? w _ hx197_0)).trans hx197_0
     replace p197 := eq_true p197
     replace q197 := eq_true q197
     go_wp2
     go_ret
     exact ⟨er_, bl_ HB.out⟩
   ·rw [if_neg c4] at H
    exact absurd H (by simp)
def spec_IsSemigroup.f (k : Nat) (l0_0 : List Int) : Option (Bool) := (spec_l3Gens.f k l0_0).bind fun t200 => (if t200 = true then (if (l0_0.length : Int) ≤ 12 then ((spec_IsAscending.f k l0_0).bind fun t201 => (if t201 = true then ((spec_GcdOfList.f k l0_0).bind fun t202 => (if t202 = 1 then ((spec_l3Minimal.f k l0_0).bind fun t203 => ((spec_l2Same.f k t203 l0_0).bind fun t206 => (if t206 = true then ((spec_l3Ends.f k l0_0).bind fun t207 => (some t207)) else (some false)))) else (some false))) else (some false))) else (some false)) else (some false))
def spec_IsSemigroup.T1 : Bool × List (List Nat × List Nat) := (true, [([], []), ([0], [0]), ([1], [1]), ([2, 2], [2]), ([3], [3]), ([4, 3], [3, 4]), ([5, 3], [3, 5]), ([6, 3], [3, 6]), ([3, 7], [3, 7]), ([8, 3], [8]), ([9], [9]), ([10, 9], [9, 10]), ([11, 9, 9], [9, 11]), ([9, 12], [9, 12]), ([13, 12], [13]), ([14], [14]), ([15, 14], [14, 15]), ([16, 14, 14], [14, 16]), ([17, 14], [14, 17]), ([14, 18], [14, 18]), ([19, 17], [19]), ([20], [20]), ([21, 20], [20, 21]), ([22, 20, 20], [20, 22]), ([20], [20]), ([24, 20], [20, 24]), ([23, 25, 23, 20], [20, 23, 25]), ([20, 26], [20, 26]), ([27, 26], [27]), ([28], [28]), ([29, 28], [28, 29]), ([30, 28, 28], [28, 30]), ([28, 31], [28, 31]), ([32, 31, 0, 1, 2, 3, 4, 5, 6, 7, 8, 9, 10, 11, 12, 13, 14, 15, 16, 17, 18, 19, 20, 21, 22, 23, 24, 25, 26, 27, 28, 29, 30, 31, 32], [32])])
def spec_IsSemigroup.B1 : List Nat := [0, 1, 3, 7, 15, 31, 63, 127, 255, 511, 1023, 2047, 4095, 8191, 16383, 32767, 65535, 131071, 262143, 524287, 1048575, 2097151, 4194303, 8388607, 2097151, 18874367, 67108863, 134217727, 268435455, 536870911, 1073741823, 2147483647, 4294967295, 8589934591]
theorem spec_IsSemigroup.tab1 : rtab .any (opsOf Try.f41 1) = spec_IsSemigroup.T1 := by kernel_rfl
theorem spec_IsSemigroup.bits1 : waitsOk spec_IsSemigroup.T1.2 spec_IsSemigroup.B1 = true := by kernel_rfl
theorem spec_IsSemigroup.calls (k : Nat) (A0_0 : Option Addr) (c0_0 : Nat) (l0_0 : List Int) (r : Bool) (w : World) (hr0_0 : Kd.C (Kd.int .i64) w A0_0 l0_0.length l0_0) (hc0_0 : l0_0.length ≤ c0_0) (h : spec_IsSemigroup.f k l0_0 = some r) :
 Calls Try.prog 41 #[.agg #[.slice A0_0 l0_0.length c0_0]] w fun e w' => e = .returned (.bool r) ∧ Below w.heap.size w w' := by
 have hu41 := Try.underlying41
 have HR0_0 := Aside0.mk hr0_0
 have HC0_0 := Aside0.mk hc0_0
 clear hr0_0 hc0_0
 have HB := Aside0.mk (Below.refl w.heap.size w)
 have H := h
 clear h
 unfold spec_IsSemigroup.f at H
 obtain ⟨t200, A2, H⟩ := ob_ H
 (try dsimp only at H)
 by_cases c3 : t200 = true
 ·subst c3
  rw [if_pos rfl] at H
  by_cases c4 : (l0_0.length : Int) ≤ 12
  ·rw [if_pos c4] at H
   have c4b0 : decide ((l0_0.length : Int) ≤ 12) = true := decide_eq_true c4
   have c4b1 : decide (l0_0.length ≤ 12) = true := decide_eq_true (by omega)
   clear c4
   obtain ⟨t201, A5, H⟩ := ob_ H
   (try dsimp only at H)
   by_cases c6 : t201 = true
   ·subst c6
    rw [if_pos rfl] at H
    obtain ⟨t202, A7, H⟩ := ob_ H
    (try dsimp only at H)
    by_cases c8 : t202 = 1
    ·rw [if_pos c8] at H
     have c8b0 : (t202 == 1) = true := beq_iff_eq.mpr c8
     have c8b1 : (t202 != 1) = false := bne_eq_false_iff_eq.mpr c8
     clear c8
     obtain ⟨t203, A9, H⟩ := ob_ H
     (try dsimp only at H)
     obtain ⟨t206, A10, H⟩ := ob_ H
     (try dsimp only at H)
     by_cases c11 : t206 = true
     ·subst c11
      rw [if_pos rfl] at H
      obtain ⟨t207, A12, H⟩ := ob_ H
      (try dsimp only at H)
      obtain rfl := Option.some.inj H
      go_enter Try.func41, Try.ntmps41
      try go_wp2_with (first | ((with_reducible refine gate_dst (N := 1) rfl ?_); (try (refine gate_guard (by rfl) ?_; dsimp only)); refine be_ 1 #[.slice A0_0 l0_0.length c0_0] 41 fun gb199 hg w13 hbox hb => ?_; have BK199 := Aside0.mk (hbox); have GW199 := ge_ hg HB; have GE199 := ge_ hg HB; replace HB := bs_ HB hb; clear hb hbox hg))
      replace BK199 := Aside0.mk (blk_drew BK199.out)
      replace HB := Aside0.mk (below_drew1 HB.out)
      refine start_ (n := 34) (S := fun w' => w'.cell? ⟨gb199, 0, none⟩ = some (.slice A0_0 l0_0.length c0_0)) (ds := []) (fl_ 34 0) (by kernel_rfl) rfl rfl ((blk_cell BK199.out 0).trans rfl) (fun hHeld => ?_); refine with_tabW spec_IsSemigroup.tab1 spec_IsSemigroup.bits1 (fun HT_ HW_ => ?_)
      generalize w13.drew = w14 at BK199 HB hHeld ⊢
      refine pu_ 0 3 (fl_ 34 1) ?_
      refine ta_ 1 4 (fl_ 34 2) ?_
      refine on_ 2 5 (fl_ 34 3) fun K hK => ?_
      refine go_ Try.func100 #[.slice A0_0 l0_0.length c0_0] ?_
      with_reducible refine (spec_l3Gens.calls k _ _ l0_0 true _ ?side1 ?side2 A2.out).mono ?_
      (case side1 => exact cs_ HR0_0 HB)
      (case side2 => exact HC0_0.out)
      rintro e w' ⟨rfl, ⟨nd, rfl⟩⟩
      refine ⟨_, rfl, ?_⟩
      refine hK.out _ _ ((blk_cell BK199.out 0).trans rfl) (fun hHeld => ?_)
      clear hK K
      refine no_ 5 ?_
      refine pu_ 3 6 (fl_ 34 4) ?_
      refine pu_ 4 7 (fl_ 34 5) ?_
      refine ta_ 5 8 (fl_ 34 6) ?_
      refine pu_ 6 9 (fl_ 34 7) ?_
      refine pu_ 7 10 (fl_ 34 8) ?_
      refine pu_ 8 11 (fl_ 34 9) ?_
      refine pu_ 9 12 (fl_ 34 10) ?_
      refine pu_ 10 13 (fl_ 34 11) ?_
      refine ta_ 11 14 (fl_ 34 12) ?_
      refine on_ 12 15 (fl_ 34 13) fun K hK => ?_
      refine go_ Try.func90 #[.slice A0_0 l0_0.length c0_0] ?_
      with_reducible refine (spec_IsAscending.calls k _ _ l0_0 true _ ?side1 ?side2 A5.out).mono ?_
      (case side1 => exact cs_ HR0_0 HB)
      (case side2 => exact HC0_0.out)
      rintro e w' ⟨rfl, ⟨nd, rfl⟩⟩
      refine ⟨_, rfl, ?_⟩
      refine hK.out _ _ ((blk_cell BK199.out 0).trans rfl) (fun hHeld => ?_)
      clear hK K
      refine no_ 15 ?_
      refine pu_ 13 16 (fl_ 34 14) ?_
      refine pu_ 14 17 (fl_ 34 15) ?_
      refine pu_ 15 18 (fl_ 34 16) ?_
      refine ta_ 16 19 (fl_ 34 17) ?_
      refine on_ 17 20 (fl_ 34 18) fun K hK => ?_
      refine go_ Try.func101 #[.slice A0_0 l0_0.length c0_0] ?_
      with_reducible refine (spec_GcdOfList.calls k _ _ l0_0 t202 _ ?side1 ?side2 A7.out).mono ?_
      (case side1 => exact cs_ HR0_0 HB)
      (case side2 => exact HC0_0.out)
      rintro e w' ⟨rfl, ⟨nd, rfl⟩⟩
      refine ⟨_, rfl, ?_⟩
      refine hK.out _ _ ((blk_cell BK199.out 0).trans rfl) (fun hHeld => ?_)
      clear hK K
      refine no_ 20 ?_
      refine pu_ 18 21 (fl_ 34 19) ?_
      refine pu_ 19 22 (fl_ 34 20) ?_
      refine pu_ 20 23 (fl_ 34 21) ?_
      refine pu_ 21 24 (fl_ 34 22) ?_
      refine pu_ 24 27 (fm_ 34 20971519) ?_
      refine ta_ 22 25 (fm_ 34 25165823) ?_
      refine ta_ 25 28 (fm_ 34 58720255) ?_
      refine on_ 23 26 (fl_ 34 26) fun K hK => ?_
      refine go_ Try.func103 #[.slice A0_0 l0_0.length c0_0] ?_
      with_reducible refine (spec_l3Minimal.calls k _ _ l0_0 t203 _ ?side1 ?side2 A9.out).mono ?_
      (case side1 => exact cs_ HR0_0 HB)
      (case side2 => exact HC0_0.out)
      rintro e w15 ⟨v204, rfl, ho0, hb⟩
      refine ⟨_, rfl, ?_⟩
      have HO205 := rl_ ho0 HB
      replace BK199 := bb_ BK199 hb
      replace HB := bs_ HB hb
      (try clear hb)
      (try clear hb2)
      (try clear hk)
      (try clear hi)
      (try clear ho0)
      obtain ⟨Ao16, co16, eo16⟩ := Kd.R_slice HO205.out
      (first | subst eo16 | (injection eo16 with f1_ f2_ f3_; have f4_ := f1_.symm; have f5_ := f3_.symm; clear f1_ f2_ f3_; subst f4_; subst f5_))
      refine hK.out _ _ ((blk_cell BK199.out 0).trans rfl) (fun hHeld => ?_)
      clear hK K
      refine no_ 26 ?_
      refine on_ 26 29 (fl_ 34 27) fun K hK => ?_
      refine go_ Try.func102 #[.slice Ao16 t203.length co16, .slice A0_0 l0_0.length c0_0] ?_
      with_reducible refine (spec_l2Same.calls k _ _ t203 _ _ l0_0 true _ ?side1 ?side2 ?side3 ?side4 A10.out).mono ?_
      (case side1 => exact rs_ HO205)
      (case side2 => exact (Kd.R_reads' HO205.out).2.1)
      (case side3 => exact cs_ HR0_0 HB)
      (case side4 => exact HC0_0.out)
      rintro e w' ⟨rfl, ⟨nd, rfl⟩⟩
      refine ⟨_, rfl, ?_⟩
      refine hK.out _ _ ((blk_cell BK199.out 0).trans rfl) (fun hHeld => ?_)
      clear hK K
      refine no_ 29 ?_
      refine pu_ 27 30 (fl_ 34 28) ?_
      refine pu_ 28 31 (fl_ 34 29) ?_
      refine pu_ 29 32 (fl_ 34 30) ?_
      refine ta_ 30 33 (fl_ 34 31) ?_
      refine on_ 31 34 (fl_ 34 32) fun K hK => ?_
      refine go_ Try.func104 #[.slice A0_0 l0_0.length c0_0] ?_
      with_reducible refine (spec_l3Ends.calls k _ _ l0_0 t207 _ ?side1 ?side2 A12.out).mono ?_
      (case side1 => exact cs_ HR0_0 HB)
      (case side2 => exact HC0_0.out)
      rintro e w17 ⟨rfl, hb⟩
      refine ⟨_, rfl, ?_⟩
      replace HO205 := rb_ HO205 hb
      replace BK199 := bb_ BK199 hb
      replace HB := bs_ HB hb
      (try clear hb)
      (try clear hb2)
      (try clear hk)
      (try clear hi)
      refine hK.out _ _ ((blk_cell BK199.out 0).trans rfl) (fun hHeld => ?_)
      clear hK K
      refine no_ 34 ?_
      refine pu_ 32 35 (fl_ 34 33) ?_
      refine pu_ 33 2 (fl_ 34 34) ?_
      refine done_ (done_of HT_.out (by kernel_rfl)) ?_
      try go_wp2
      go_ret
      exact ⟨er_, bl_ HB.out⟩
     ·obtain rfl := Bool.eq_false_iff.mpr c11
      rw [if_neg nf_] at H
      obtain rfl := Option.some.inj H
      go_enter Try.func41, Try.ntmps41
      try go_wp2_with (first | ((with_reducible refine gate_dst (N := 1) rfl ?_); (try (refine gate_guard (by rfl) ?_; dsimp only)); refine be_ 1 #[.slice A0_0 l0_0.length c0_0] 41 fun gb199 hg w18 hbox hb => ?_; have BK199 := Aside0.mk (hbox); have GW199 := ge_ hg HB; have GE199 := ge_ hg HB; replace HB := bs_ HB hb; clear hb hbox hg))
      replace BK199 := Aside0.mk (blk_drew BK199.out)
      replace HB := Aside0.mk (below_drew1 HB.out)
      refine start_ (n := 34) (S := fun w' => w'.cell? ⟨gb199, 0, none⟩ = some (.slice A0_0 l0_0.length c0_0)) (ds := []) (fl_ 34 0) (by kernel_rfl) rfl rfl ((blk_cell BK199.out 0).trans rfl) (fun hHeld => ?_); refine with_tabW spec_IsSemigroup.tab1 spec_IsSemigroup.bits1 (fun HT_ HW_ => ?_)
      generalize w18.drew = w19 at BK199 HB hHeld ⊢
      refine pu_ 0 3 (fl_ 34 1) ?_
      refine ta_ 1 4 (fl_ 34 2) ?_
      refine on_ 2 5 (fl_ 34 3) fun K hK => ?_
      refine go_ Try.func100 #[.slice A0_0 l0_0.length c0_0] ?_
      with_reducible refine (spec_l3Gens.calls k _ _ l0_0 true _ ?side1 ?side2 A2.out).mono ?_
      (case side1 => exact cs_ HR0_0 HB)
      (case side2 => exact HC0_0.out)
      rintro e w' ⟨rfl, ⟨nd, rfl⟩⟩
      refine ⟨_, rfl, ?_⟩
      refine hK.out _ _ ((blk_cell BK199.out 0).trans rfl) (fun hHeld => ?_)
      clear hK K
      refine no_ 5 ?_
      refine pu_ 3 6 (fl_ 34 4) ?_
      refine pu_ 4 7 (fl_ 34 5) ?_
      refine ta_ 5 8 (fl_ 34 6) ?_
      refine pu_ 6 9 (fl_ 34 7) ?_
      refine pu_ 7 10 (fl_ 34 8) ?_
      refine pu_ 8 11 (fl_ 34 9) ?_
      refine pu_ 9 12 (fl_ 34 10) ?_
      refine pu_ 10 13 (fl_ 34 11) ?_
      refine ta_ 11 14 (fl_ 34 12) ?_
      refine on_ 12 15 (fl_ 34 13) fun K hK => ?_
      refine go_ Try.func90 #[.slice A0_0 l0_0.length c0_0] ?_
      with_reducible refine (spec_IsAscending.calls k _ _ l0_0 true _ ?side1 ?side2 A5.out).mono ?_
      (case side1 => exact cs_ HR0_0 HB)
      (case side2 => exact HC0_0.out)
      rintro e w' ⟨rfl, ⟨nd, rfl⟩⟩
      refine ⟨_, rfl, ?_⟩
      refine hK.out _ _ ((blk_cell BK199.out 0).trans rfl) (fun hHeld => ?_)
      clear hK K
      refine no_ 15 ?_
      refine pu_ 13 16 (fl_ 34 14) ?_
      refine pu_ 14 17 (fl_ 34 15) ?_
      refine pu_ 15 18 (fl_ 34 16) ?_
      refine ta_ 16 19 (fl_ 34 17) ?_
      refine on_ 17 20 (fl_ 34 18) fun K hK => ?_
      refine go_ Try.func101 #[.slice A0_0 l0_0.length c0_0] ?_
      with_reducible refine (spec_GcdOfList.calls k _ _ l0_0 t202 _ ?side1 ?side2 A7.out).mono ?_
      (case side1 => exact cs_ HR0_0 HB)
      (case side2 => exact HC0_0.out)
      rintro e w' ⟨rfl, ⟨nd, rfl⟩⟩
      refine ⟨_, rfl, ?_⟩
      refine hK.out _ _ ((blk_cell BK199.out 0).trans rfl) (fun hHeld => ?_)
      clear hK K
      refine no_ 20 ?_
      refine pu_ 18 21 (fl_ 34 19) ?_
      refine pu_ 19 22 (fl_ 34 20) ?_
      refine pu_ 20 23 (fl_ 34 21) ?_
      refine pu_ 21 24 (fl_ 34 22) ?_
      refine pu_ 24 27 (fm_ 34 20971519) ?_
      refine ta_ 22 25 (fm_ 34 25165823) ?_
      refine ta_ 25 28 (fm_ 34 58720255) ?_
      refine on_ 23 26 (fl_ 34 26) fun K hK => ?_
      refine go_ Try.func103 #[.slice A0_0 l0_0.length c0_0] ?_
      with_reducible refine (spec_l3Minimal.calls k _ _ l0_0 t203 _ ?side1 ?side2 A9.out).mono ?_
      (case side1 => exact cs_ HR0_0 HB)
      (case side2 => exact HC0_0.out)
      rintro e w20 ⟨v204, rfl, ho0, hb⟩
      refine ⟨_, rfl, ?_⟩
      have HO205 := rl_ ho0 HB
      replace BK199 := bb_ BK199 hb
      replace HB := bs_ HB hb
      (try clear hb)
      (try clear hb2)
      (try clear hk)
      (try clear hi)
      (try clear ho0)
      obtain ⟨Ao21, co21, eo21⟩ := Kd.R_slice HO205.out
      (first | subst eo21 | (injection eo21 with f1_ f2_ f3_; have f4_ := f1_.symm; have f5_ := f3_.symm; clear f1_ f2_ f3_; subst f4_; subst f5_))
      refine hK.out _ _ ((blk_cell BK199.out 0).trans rfl) (fun hHeld => ?_)
      clear hK K
      refine no_ 26 ?_
      refine on_ 26 29 (fl_ 34 27) fun K hK => ?_
      refine go_ Try.func102 #[.slice Ao21 t203.length co21, .slice A0_0 l0_0.length c0_0] ?_
      with_reducible refine (spec_l2Same.calls k _ _ t203 _ _ l0_0 false _ ?side1 ?side2 ?side3 ?side4 A10.out).mono ?_
      (case side1 => exact rs_ HO205)
      (case side2 => exact (Kd.R_reads' HO205.out).2.1)
      (case side3 => exact cs_ HR0_0 HB)
      (case side4 => exact HC0_0.out)
      rintro e w' ⟨rfl, ⟨nd, rfl⟩⟩
      refine ⟨_, rfl, ?_⟩
      refine hK.out _ _ ((blk_cell BK199.out 0).trans rfl) (fun hHeld => ?_)
      clear hK K
      refine no_ 29 ?_
      refine pu_ 27 30 (fl_ 34 28) ?_
      refine pu_ 28 31 (fl_ 34 29) ?_
      refine un_ 29 32 (fl_ 34 30) ?_
      refine un_ 30 33 (fl_ 34 31) ?_
      refine un_ 31 34 (fl_ 34 32) ?_
      refine pu_ 32 35 (fl_ 34 33) ?_
      refine pu_ 33 2 (fl_ 34 34) ?_
      refine done_ (done_of HT_.out (by kernel_rfl)) ?_
      try go_wp2
      go_ret
      exact ⟨er_, bl_ HB.out⟩
    ·rw [if_neg c8] at H
     have c8b0 : (t202 == 1) = false := beq_eq_false_iff_ne.mpr c8
     have c8b1 : (t202 != 1) = true := bne_iff_ne.mpr c8
     obtain rfl := Option.some.inj H
     go_enter Try.func41, Try.ntmps41
     try go_wp2_with (first | ((with_reducible refine gate_dst (N := 1) rfl ?_); (try (refine gate_guard (by rfl) ?_; dsimp only)); refine be_ 1 #[.slice A0_0 l0_0.length c0_0] 41 fun gb199 hg w22 hbox hb => ?_; have BK199 := Aside0.mk (hbox); have GW199 := ge_ hg HB; have GE199 := ge_ hg HB; replace HB := bs_ HB hb; clear hb hbox hg))
     replace BK199 := Aside0.mk (blk_drew BK199.out)
     replace HB := Aside0.mk (below_drew1 HB.out)
     refine start_ (n := 34) (S := fun w' => w'.cell? ⟨gb199, 0, none⟩ = some (.slice A0_0 l0_0.length c0_0)) (ds := []) (fl_ 34 0) (by kernel_rfl) rfl rfl ((blk_cell BK199.out 0).trans rfl) (fun hHeld => ?_); refine with_tabW spec_IsSemigroup.tab1 spec_IsSemigroup.bits1 (fun HT_ HW_ => ?_)
     generalize w22.drew = w23 at BK199 HB hHeld ⊢
     refine pu_ 0 3 (fl_ 34 1) ?_
     refine ta_ 1 4 (fl_ 34 2) ?_
     refine on_ 2 5 (fl_ 34 3) fun K hK => ?_
     refine go_ Try.func100 #[.slice A0_0 l0_0.length c0_0] ?_
     with_reducible refine (spec_l3Gens.calls k _ _ l0_0 true _ ?side1 ?side2 A2.out).mono ?_
     (case side1 => exact cs_ HR0_0 HB)
     (case side2 => exact HC0_0.out)
     rintro e w' ⟨rfl, ⟨nd, rfl⟩⟩
     refine ⟨_, rfl, ?_⟩
     refine hK.out _ _ ((blk_cell BK199.out 0).trans rfl) (fun hHeld => ?_)
     clear hK K
     refine no_ 5 ?_
     refine pu_ 3 6 (fl_ 34 4) ?_
     refine pu_ 4 7 (fl_ 34 5) ?_
     refine ta_ 5 8 (fl_ 34 6) ?_
     refine pu_ 6 9 (fl_ 34 7) ?_
     refine pu_ 7 10 (fl_ 34 8) ?_
     refine pu_ 8 11 (fl_ 34 9) ?_
     refine pu_ 9 12 (fl_ 34 10) ?_
     refine pu_ 10 13 (fl_ 34 11) ?_
     refine ta_ 11 14 (fl_ 34 12) ?_
     refine on_ 12 15 (fl_ 34 13) fun K hK => ?_
     refine go_ Try.func90 #[.slice A0_0 l0_0.length c0_0] ?_
     with_reducible refine (spec_IsAscending.calls k _ _ l0_0 true _ ?side1 ?side2 A5.out).mono ?_
     (case side1 => exact cs_ HR0_0 HB)
     (case side2 => exact HC0_0.out)
     rintro e w' ⟨rfl, ⟨nd, rfl⟩⟩
     refine ⟨_, rfl, ?_⟩
     refine hK.out _ _ ((blk_cell BK199.out 0).trans rfl) (fun hHeld => ?_)
     clear hK K
     refine no_ 15 ?_
     refine pu_ 13 16 (fl_ 34 14) ?_
     refine pu_ 14 17 (fl_ 34 15) ?_
     refine pu_ 15 18 (fl_ 34 16) ?_
     refine ta_ 16 19 (fl_ 34 17) ?_
     refine on_ 17 20 (fl_ 34 18) fun K hK => ?_
     refine go_ Try.func101 #[.slice A0_0 l0_0.length c0_0] ?_
     with_reducible refine (spec_GcdOfList.calls k _ _ l0_0 t202 _ ?side1 ?side2 A7.out).mono ?_
     (case side1 => exact cs_ HR0_0 HB)
     (case side2 => exact HC0_0.out)
     rintro e w' ⟨rfl, ⟨nd, rfl⟩⟩
     refine ⟨_, rfl, ?_⟩
     refine hK.out _ _ ((blk_cell BK199.out 0).trans rfl) (fun hHeld => ?_)
     clear hK K
     refine no_ 20 ?_
     refine pu_ 18 21 (fl_ 34 19) ?_
     refine pu_ 19 22 (fl_ 34 20) ?_
     refine pu_ 20 23 (fl_ 34 21) ?_
     refine un_ 21 24 (fl_ 34 22) ?_
     refine un_ 22 25 (fl_ 34 23) ?_
     refine un_ 23 26 (fl_ 34 24) ?_
     refine un_ 24 27 (fl_ 34 25) ?_
     refine un_ 25 28 (fl_ 34 26) ?_
     refine un_ 26 29 (fl_ 34 27) ?_
     refine pu_ 27 30 (fl_ 34 28) ?_
     refine pu_ 28 31 (fl_ 34 29) ?_
     refine un_ 29 32 (fl_ 34 30) ?_
     refine un_ 30 33 (fl_ 34 31) ?_
     refine un_ 31 34 (fl_ 34 32) ?_
     refine pu_ 32 35 (fl_ 34 33) ?_
     refine pu_ 33 2 (fl_ 34 34) ?_
     refine done_ (done_of HT_.out (by kernel_rfl)) ?_
     try go_wp2
     go_ret
     exact ⟨er_, bl_ HB.out⟩
   ·obtain rfl := Bool.eq_false_iff.mpr c6
    rw [if_neg nf_] at H
    obtain rfl := Option.some.inj H
    go_enter Try.func41, Try.ntmps41
    try go_wp2_with (first | ((with_reducible refine gate_dst (N := 1) rfl ?_); (try (refine gate_guard (by rfl) ?_; dsimp only)); refine be_ 1 #[.slice A0_0 l0_0.length c0_0] 41 fun gb199 hg w24 hbox hb => ?_; have BK199 := Aside0.mk (hbox); have GW199 := ge_ hg HB; have GE199 := ge_ hg HB; replace HB := bs_ HB hb; clear hb hbox hg))
    replace BK199 := Aside0.mk (blk_drew BK199.out)
    replace HB := Aside0.mk (below_drew1 HB.out)
    refine start_ (n := 34) (S := fun w' => w'.cell? ⟨gb199, 0, none⟩ = some (.slice A0_0 l0_0.length c0_0)) (ds := []) (fl_ 34 0) (by kernel_rfl) rfl rfl ((blk_cell BK199.out 0).trans rfl) (fun hHeld => ?_); refine with_tabW spec_IsSemigroup.tab1 spec_IsSemigroup.bits1 (fun HT_ HW_ => ?_)
    generalize w24.drew = w25 at BK199 HB hHeld ⊢
    refine pu_ 0 3 (fl_ 34 1) ?_
    refine ta_ 1 4 (fl_ 34 2) ?_
    refine on_ 2 5 (fl_ 34 3) fun K hK => ?_
    refine go_ Try.func100 #[.slice A0_0 l0_0.length c0_0] ?_
    with_reducible refine (spec_l3Gens.calls k _ _ l0_0 true _ ?side1 ?side2 A2.out).mono ?_
    (case side1 => exact cs_ HR0_0 HB)
    (case side2 => exact HC0_0.out)
    rintro e w' ⟨rfl, ⟨nd, rfl⟩⟩
    refine ⟨_, rfl, ?_⟩
    refine hK.out _ _ ((blk_cell BK199.out 0).trans rfl) (fun hHeld => ?_)
    clear hK K
    refine no_ 5 ?_
    refine pu_ 3 6 (fl_ 34 4) ?_
    refine pu_ 4 7 (fl_ 34 5) ?_
    refine ta_ 5 8 (fl_ 34 6) ?_
    refine pu_ 6 9 (fl_ 34 7) ?_
    refine pu_ 7 10 (fl_ 34 8) ?_
    refine pu_ 8 11 (fl_ 34 9) ?_
    refine pu_ 9 12 (fl_ 34 10) ?_
    refine pu_ 10 13 (fl_ 34 11) ?_
    refine ta_ 11 14 (fl_ 34 12) ?_
    refine on_ 12 15 (fl_ 34 13) fun K hK => ?_
    refine go_ Try.func90 #[.slice A0_0 l0_0.length c0_0] ?_
    with_reducible refine (spec_IsAscending.calls k _ _ l0_0 false _ ?side1 ?side2 A5.out).mono ?_
    (case side1 => exact cs_ HR0_0 HB)
    (case side2 => exact HC0_0.out)
    rintro e w' ⟨rfl, ⟨nd, rfl⟩⟩
    refine ⟨_, rfl, ?_⟩
    refine hK.out _ _ ((blk_cell BK199.out 0).trans rfl) (fun hHeld => ?_)
    clear hK K
    refine no_ 15 ?_
    refine pu_ 13 16 (fl_ 34 14) ?_
    refine pu_ 14 17 (fl_ 34 15) ?_
    refine un_ 15 18 (fl_ 34 16) ?_
    refine un_ 16 19 (fl_ 34 17) ?_
    refine un_ 17 20 (fl_ 34 18) ?_
    refine un_ 18 21 (fl_ 34 19) ?_
    refine pu_ 19 22 (fl_ 34 20) ?_
    refine pu_ 20 23 (fl_ 34 21) ?_
    refine un_ 21 24 (fl_ 34 22) ?_
    refine un_ 22 25 (fl_ 34 23) ?_
    refine un_ 23 26 (fl_ 34 24) ?_
    refine un_ 24 27 (fl_ 34 25) ?_
    refine un_ 25 28 (fl_ 34 26) ?_
    refine un_ 26 29 (fl_ 34 27) ?_
    refine pu_ 27 30 (fl_ 34 28) ?_
    refine pu_ 28 31 (fl_ 34 29) ?_
    refine un_ 29 32 (fl_ 34 30) ?_
    refine un_ 30 33 (fl_ 34 31) ?_
    refine un_ 31 34 (fl_ 34 32) ?_
    refine pu_ 32 35 (fl_ 34 33) ?_
    refine pu_ 33 2 (fl_ 34 34) ?_
    refine done_ (done_of HT_.out (by kernel_rfl)) ?_
    try go_wp2
    go_ret
    exact ⟨er_, bl_ HB.out⟩
  ·rw [if_neg c4] at H
   have c4b0 : decide ((l0_0.length : Int) ≤ 12) = false := decide_eq_false c4
   have c4b1 : decide (l0_0.length ≤ 12) = false := decide_eq_false (by omega)
   clear c4
   obtain rfl := Option.some.inj H
   go_enter Try.func41, Try.ntmps41
   try go_wp2_with (first | ((with_reducible refine gate_dst (N := 1) rfl ?_); (try (refine gate_guard (by rfl) ?_; dsimp only)); refine be_ 1 #[.slice A0_0 l0_0.length c0_0] 41 fun gb199 hg w26 hbox hb => ?_; have BK199 := Aside0.mk (hbox); have GW199 := ge_ hg HB; have GE199 := ge_ hg HB; replace HB := bs_ HB hb; clear hb hbox hg))
   replace BK199 := Aside0.mk (blk_drew BK199.out)
   replace HB := Aside0.mk (below_drew1 HB.out)
   refine start_ (n := 34) (S := fun w' => w'.cell? ⟨gb199, 0, none⟩ = some (.slice A0_0 l0_0.length c0_0)) (ds := []) (fl_ 34 0) (by kernel_rfl) rfl rfl ((blk_cell BK199.out 0).trans rfl) (fun hHeld => ?_); refine with_tabW spec_IsSemigroup.tab1 spec_IsSemigroup.bits1 (fun HT_ HW_ => ?_)
   generalize w26.drew = w27 at BK199 HB hHeld ⊢
   refine pu_ 0 3 (fl_ 34 1) ?_
   refine ta_ 1 4 (fl_ 34 2) ?_
   refine on_ 2 5 (fl_ 34 3) fun K hK => ?_
   refine go_ Try.func100 #[.slice A0_0 l0_0.length c0_0] ?_
   with_reducible refine (spec_l3Gens.calls k _ _ l0_0 true _ ?side1 ?side2 A2.out).mono ?_
   (case side1 => exact cs_ HR0_0 HB)
   (case side2 => exact HC0_0.out)
   rintro e w' ⟨rfl, ⟨nd, rfl⟩⟩
   refine ⟨_, rfl, ?_⟩
   refine hK.out _ _ ((blk_cell BK199.out 0).trans rfl) (fun hHeld => ?_)
   clear hK K
   refine no_ 5 ?_
   refine pu_ 3 6 (fl_ 34 4) ?_
   refine pu_ 4 7 (fl_ 34 5) ?_
   refine ta_ 5 8 (fl_ 34 6) ?_
   refine pu_ 6 9 (fl_ 34 7) ?_
   refine pu_ 7 10 (fl_ 34 8) ?_
   refine pu_ 8 11 (fl_ 34 9) ?_
   refine pu_ 9 12 (fl_ 34 10) ?_
   refine un_ 10 13 (fl_ 34 11) ?_
   refine un_ 11 14 (fl_ 34 12) ?_
   refine un_ 12 15 (fl_ 34 13) ?_
   refine pu_ 13 16 (fl_ 34 14) ?_
   refine pu_ 14 17 (fl_ 34 15) ?_
   refine un_ 15 18 (fl_ 34 16) ?_
   refine un_ 16 19 (fl_ 34 17) ?_
   refine un_ 17 20 (fl_ 34 18) ?_
   refine un_ 18 21 (fl_ 34 19) ?_
   refine pu_ 19 22 (fl_ 34 20) ?_
   refine pu_ 20 23 (fl_ 34 21) ?_
   refine un_ 21 24 (fl_ 34 22) ?_
   refine un_ 22 25 (fl_ 34 23) ?_
   refine un_ 23 26 (fl_ 34 24) ?_
   refine un_ 24 27 (fl_ 34 25) ?_
   refine un_ 25 28 (fl_ 34 26) ?_
   refine un_ 26 29 (fl_ 34 27) ?_
   refine pu_ 27 30 (fl_ 34 28) ?_
   refine pu_ 28 31 (fl_ 34 29) ?_
   refine un_ 29 32 (fl_ 34 30) ?_
   refine un_ 30 33 (fl_ 34 31) ?_
   refine un_ 31 34 (fl_ 34 32) ?_
   refine pu_ 32 35 (fl_ 34 33) ?_
   refine pu_ 33 2 (fl_ 34 34) ?_
   refine done_ (done_of HT_.out (by kernel_rfl)) ?_
   try go_wp2
   go_ret
   exact ⟨er_, bl_ HB.out⟩
 ·obtain rfl := Bool.eq_false_iff.mpr c3
  rw [if_neg nf_] at H
  obtain rfl := Option.some.inj H
  go_enter Try.func41, Try.ntmps41
  try go_wp2_with (first | ((with_reducible refine gate_dst (N := 1) rfl ?_); (try (refine gate_guard (by rfl) ?_; dsimp only)); refine be_ 1 #[.slice A0_0 l0_0.length c0_0] 41 fun gb199 hg w28 hbox hb => ?_; have BK199 := Aside0.mk (hbox); have GW199 := ge_ hg HB; have GE199 := ge_ hg HB; replace HB := bs_ HB hb; clear hb hbox hg))
  replace BK199 := Aside0.mk (blk_drew BK199.out)
  replace HB := Aside0.mk (below_drew1 HB.out)
  refine start_ (n := 34) (S := fun w' => w'.cell? ⟨gb199, 0, none⟩ = some (.slice A0_0 l0_0.length c0_0)) (ds := []) (fl_ 34 0) (by kernel_rfl) rfl rfl ((blk_cell BK199.out 0).trans rfl) (fun hHeld => ?_); refine with_tabW spec_IsSemigroup.tab1 spec_IsSemigroup.bits1 (fun HT_ HW_ => ?_)
  generalize w28.drew = w29 at BK199 HB hHeld ⊢
  refine pu_ 0 3 (fl_ 34 1) ?_
  refine ta_ 1 4 (fl_ 34 2) ?_
  refine on_ 2 5 (fl_ 34 3) fun K hK => ?_
  refine go_ Try.func100 #[.slice A0_0 l0_0.length c0_0] ?_
  with_reducible refine (spec_l3Gens.calls k _ _ l0_0 false _ ?side1 ?side2 A2.out).mono ?_
  (case side1 => exact cs_ HR0_0 HB)
  (case side2 => exact HC0_0.out)
  rintro e w' ⟨rfl, ⟨nd, rfl⟩⟩
  refine ⟨_, rfl, ?_⟩
  refine hK.out _ _ ((blk_cell BK199.out 0).trans rfl) (fun hHeld => ?_)
  clear hK K
  refine no_ 5 ?_
  refine pu_ 3 6 (fl_ 34 4) ?_
  refine un_ 4 7 (fl_ 34 5) ?_
  refine un_ 5 8 (fl_ 34 6) ?_
  refine un_ 6 9 (fl_ 34 7) ?_
  refine un_ 7 10 (fl_ 34 8) ?_
  refine pu_ 8 11 (fl_ 34 9) ?_
  refine pu_ 9 12 (fl_ 34 10) ?_
  refine un_ 10 13 (fl_ 34 11) ?_
  refine un_ 11 14 (fl_ 34 12) ?_
  refine un_ 12 15 (fl_ 34 13) ?_
  refine pu_ 13 16 (fl_ 34 14) ?_
  refine pu_ 14 17 (fl_ 34 15) ?_
  refine un_ 15 18 (fl_ 34 16) ?_
  refine un_ 16 19 (fl_ 34 17) ?_
  refine un_ 17 20 (fl_ 34 18) ?_
  refine un_ 18 21 (fl_ 34 19) ?_
  refine pu_ 19 22 (fl_ 34 20) ?_
  refine pu_ 20 23 (fl_ 34 21) ?_
  refine un_ 21 24 (fl_ 34 22) ?_
  refine un_ 22 25 (fl_ 34 23) ?_
  refine un_ 23 26 (fl_ 34 24) ?_
  refine un_ 24 27 (fl_ 34 25) ?_
  refine un_ 25 28 (fl_ 34 26) ?_
  refine un_ 26 29 (fl_ 34 27) ?_
  refine pu_ 27 30 (fl_ 34 28) ?_
  refine pu_ 28 31 (fl_ 34 29) ?_
  refine un_ 29 32 (fl_ 34 30) ?_
  refine un_ 30 33 (fl_ 34 31) ?_
  refine un_ 31 34 (fl_ 34 32) ?_
  refine pu_ 32 35 (fl_ 34 33) ?_
  refine pu_ 33 2 (fl_ 34 34) ?_
  refine done_ (done_of HT_.out (by kernel_rfl)) ?_
  try go_wp2
  go_ret
  exact ⟨er_, bl_ HB.out⟩
def spec_FromGens.f (k : Nat) (l0 : List Int) : Option (List Int × Bool) := (spec_l3Gens.f k l0).bind fun t209 => (if t209 = true then ((spec_l3Minimal.f k l0).bind fun t210 => ((spec_IsSemigroup.f k t210).bind fun t214 => (if t214 = true then (some (t210, true)) else (some (([] : List Int), false))))) else (some (([] : List Int), false)))
theorem spec_FromGens.calls (k : Nat) (A0 : Option Addr) (c0 : Nat) (l0 : List Int) (r1 : List Int) (r2 : Bool) (w : World) (hr0 : Kd.C (Kd.int .i64) w A0 l0.length l0) (hc0 : l0.length ≤ c0) (h : spec_FromGens.f k l0 = some (r1, r2)) :
 Calls Try.prog 74 #[.slice A0 l0.length c0] w fun e w' => ∃ v0_ : Value, e = .returned (.tuple #[.agg #[v0_], .bool r2]) ∧ Kd.R (Kd.int .i64) 3 w' w.heap.size (fun _ => True) v0_ r1 ∧ Below w.heap.size w w' := by
 have hu41 := Try.underlying41
 have HR0 := Aside0.mk hr0
 have HC0 := Aside0.mk hc0
 clear hr0 hc0
 have HB := Aside0.mk (Below.refl w.heap.size w)
 have H := h
 clear h
 unfold spec_FromGens.f at H
 obtain ⟨t209, A2, H⟩ := ob_ H
 (try dsimp only at H)
 by_cases c3 : t209 = true
 ·subst c3
  rw [if_pos rfl] at H
  obtain ⟨t210, A4, H⟩ := ob_ H
  (try dsimp only at H)
  obtain ⟨t214, A5, H⟩ := ob_ H
  (try dsimp only at H)
  by_cases c6 : t214 = true
  ·subst c6
   rw [if_pos rfl] at H
   simp only [Option.some.injEq, Prod.mk.injEq] at H
   obtain ⟨rfl, rfl⟩ := H
   go_enter Try.func74, Try.ntmps74
   go_wp2_with (first | ((with_reducible refine gate_dst (N := 2) rfl ?_); refine be_ 2 #[.slice none 0 0] 41 fun gb208 hg w7 hbox hb => ?_; have BK208 := Aside0.mk (hbox); have GW208 := ge_ hg HB; have GE208 := ge_ hg HB; replace HB := bs_ HB hb; clear hb hbox hg) | ((with_reducible refine gate_callee (f := 100) rfl ?_); refine gl_ 6 Try.func100 #[.slice A0 l0.length c0] ?_; (with_reducible refine (spec_l3Gens.calls k _ _ l0 true _ ?side1 ?side2 A2.out).mono ?_); (case side1 => exact cs_ HR0 HB); (case side2 => exact HC0.out); rintro e w' ⟨rfl, ⟨nd, rfl⟩⟩; refine ⟨_, rfl, ?_⟩; (try (rw [drewN_self w7]; generalize hq_ : World.drewN w7 _ = w7; have n0_ : Aside0 (w7.heap[gb208]? = some (.cells #[.slice none 0 0] 41 (0, 0))) := ⟨by rw [← hq_]; exact (bk_ BK208.out)⟩; have n1_ : Aside0 (Below w.heap.size w w7) := ⟨by rw [← hq_]; exact (bl_ HB.out)⟩; clear BK208 HB hq_; have BK208 := n0_; have HB := n1_; clear n0_ n1_))) | ((with_reducible refine gate_callee (f := 103) rfl ?_); refine gl_ 10 Try.func103 #[.slice A0 l0.length c0] ?_; (with_reducible refine (spec_l3Minimal.calls k _ _ l0 t210 _ ?side1 ?side2 A4.out).mono ?_); (case side1 => exact cs_ HR0 HB); (case side2 => exact HC0.out); rintro e w8 ⟨v211, rfl, ho0, hb⟩; refine ⟨_, rfl, ?_⟩; have HO212 := rl_ ho0 HB; replace BK208 := bb_ BK208 hb; replace HB := bs_ HB hb; (try clear hb); (try clear hb2); (try clear hk); (try clear hi); (try clear ho0); obtain ⟨Ao9, co9, eo9⟩ := Kd.R_slice HO212.out; subst eo9) | ((with_reducible refine gate_dst (N := 4) rfl ?_); refine be_ 4 #[.slice none 0 0] 41 fun gb213 hg w10 hbox hb => ?_; replace HO212 := rb_ HO212 hb; have BK213 := Aside0.mk (hbox); have GW213 := ge_ hg HB; have GE213 := ge_ hg HB; replace HB := bs_ HB hb; have NB208_213 := nl_ hg BK208; have NB213_208 := ng_ hg BK208; replace BK208 := bb_ BK208 hb; clear hb hbox hg; have hnb11 := NB213_208.out; have hnc11 := NB208_213.out; have hcz12_0 := bc_ BK213; have hfz12_0 := blk_frozen BK213.out 0) | ((with_reducible refine gate_callee (f := 41) rfl ?_); refine gl_ 13 Try.func41 #[.agg #[.slice Ao9 t210.length co9]] ?_; (with_reducible refine (spec_IsSemigroup.calls k _ _ t210 true _ ?side1 ?side2 A5.out).mono ?_); (case side1 => refine (Kd.R_reads' (e := 3) (base := w.heap.size) (ok := fun k_ => True) (n := t210.length) (c := co9) ?_).2.2; exact (kr_ ((Kd.R_mono (Kd.R_far (p := ⟨gb213, 0, none⟩) (Kd.R_types HO212.out BK213.out (by decide)) (fun _ hk => hk.2) (.slice Ao9 t210.length co9)) (fun _ h_ => h_.1))))); (case side2 => exact (Kd.R_reads' HO212.out).2.1); rintro e w13 ⟨rfl, hb⟩; refine ⟨_, rfl, ?_⟩; replace HO212 := Aside0.mk (Kd.R_below (kr_ ((Kd.R_mono (Kd.R_far (p := ⟨gb213, 0, none⟩) (Kd.R_types HO212.out BK213.out (by decide)) (fun _ hk => hk.2) (.slice Ao9 t210.length co9)) (fun _ h_ => h_.1)))) hb); replace BK208 := Aside0.mk (blk_below (g := gb208) (o := .cells #[.slice none 0 0] 41 (0, 0)) (bf_ BK208.out) hb); replace BK213 := Aside0.mk (blk_below (g := gb213) (o := .cells #[.slice Ao9 t210.length co9] 41 (0, 0)) (by (with_reducible repeat (first | refine blk_drewN ?_ _ | refine blk_drew ?_ | refine blk_alloc ?_ _)); refine blk_put (cs := #[.slice none 0 0]) ?_ 0 _ rfl; (with_reducible repeat (first | refine blk_drewN ?_ _ | refine blk_drew ?_ | refine blk_alloc ?_ _)); exact BK213.out) hb); replace HB := bs_ HB hb; (try clear hb); (try clear hb2); (try clear hk); (try clear hi); have hcz14_0 := bc_ BK213; have hfz14_0 := blk_frozen BK213.out 0; have hcz15_0 := bc_ BK208; have hfz15_0 := blk_frozen BK208.out 0))
   refine bodyPost_ret (results_ct rfl _ _ gb208 41 #[.slice Ao9 t210.length co9] (0, 0) _ rfl (by (with_reducible repeat (first | refine blk_drewN ?_ _ | refine blk_drew ?_ | refine blk_alloc ?_ _)); refine blk_put (cs := #[.slice none 0 0]) ?_ 0 _ rfl; (with_reducible repeat (first | refine blk_drewN ?_ _ | refine blk_drew ?_ | refine blk_alloc ?_ _)); exact BK208.out) Try.underlying41 rfl (by kernel_rfl)) rfl ?_
   exact ⟨_, er_, kr_ (Kd.R_mono (Kd.R_far (p := ⟨gb208, 0, none⟩) (Kd.R_types HO212.out BK208.out (by decide)) (fun _ hk => hk.2) (.slice Ao9 t210.length co9)) (fun _ hk => trivial)), bl_ HB.out⟩
  ·obtain rfl := Bool.eq_false_iff.mpr c6
   rw [if_neg nf_] at H
   simp only [Option.some.injEq, Prod.mk.injEq] at H
   obtain ⟨rfl, rfl⟩ := H
   go_enter Try.func74, Try.ntmps74
   go_wp2_with (first | ((with_reducible refine gate_dst (N := 2) rfl ?_); refine be_ 2 #[.slice none 0 0] 41 fun gb208 hg w16 hbox hb => ?_; have BK208 := Aside0.mk (hbox); have GW208 := ge_ hg HB; have GE208 := ge_ hg HB; replace HB := bs_ HB hb; clear hb hbox hg) | ((with_reducible refine gate_callee (f := 100) rfl ?_); refine gl_ 6 Try.func100 #[.slice A0 l0.length c0] ?_; (with_reducible refine (spec_l3Gens.calls k _ _ l0 true _ ?side1 ?side2 A2.out).mono ?_); (case side1 => exact cs_ HR0 HB); (case side2 => exact HC0.out); rintro e w' ⟨rfl, ⟨nd, rfl⟩⟩; refine ⟨_, rfl, ?_⟩; (try (rw [drewN_self w16]; generalize hq_ : World.drewN w16 _ = w16; have n0_ : Aside0 (w16.heap[gb208]? = some (.cells #[.slice none 0 0] 41 (0, 0))) := ⟨by rw [← hq_]; exact (bk_ BK208.out)⟩; have n1_ : Aside0 (Below w.heap.size w w16) := ⟨by rw [← hq_]; exact (bl_ HB.out)⟩; clear BK208 HB hq_; have BK208 := n0_; have HB := n1_; clear n0_ n1_))) | ((with_reducible refine gate_callee (f := 103) rfl ?_); refine gl_ 10 Try.func103 #[.slice A0 l0.length c0] ?_; (with_reducible refine (spec_l3Minimal.calls k _ _ l0 t210 _ ?side1 ?side2 A4.out).mono ?_); (case side1 => exact cs_ HR0 HB); (case side2 => exact HC0.out); rintro e w17 ⟨v211, rfl, ho0, hb⟩; refine ⟨_, rfl, ?_⟩; have HO212 := rl_ ho0 HB; replace BK208 := bb_ BK208 hb; replace HB := bs_ HB hb; (try clear hb); (try clear hb2); (try clear hk); (try clear hi); (try clear ho0); obtain ⟨Ao18, co18, eo18⟩ := Kd.R_slice HO212.out; subst eo18) | ((with_reducible refine gate_dst (N := 4) rfl ?_); refine be_ 4 #[.slice none 0 0] 41 fun gb213 hg w19 hbox hb => ?_; replace HO212 := rb_ HO212 hb; have BK213 := Aside0.mk (hbox); have GW213 := ge_ hg HB; have GE213 := ge_ hg HB; replace HB := bs_ HB hb; have NB208_213 := nl_ hg BK208; have NB213_208 := ng_ hg BK208; replace BK208 := bb_ BK208 hb; clear hb hbox hg; have hnb20 := NB213_208.out; have hnc20 := NB208_213.out; have hcz21_0 := bc_ BK213; have hfz21_0 := blk_frozen BK213.out 0) | ((with_reducible refine gate_callee (f := 41) rfl ?_); refine gl_ 13 Try.func41 #[.agg #[.slice Ao18 t210.length co18]] ?_; (with_reducible refine (spec_IsSemigroup.calls k _ _ t210 false _ ?side1 ?side2 A5.out).mono ?_); (case side1 => refine (Kd.R_reads' (e := 3) (base := w.heap.size) (ok := fun k_ => True) (n := t210.length) (c := co18) ?_).2.2; exact (kr_ ((Kd.R_mono (Kd.R_far (p := ⟨gb213, 0, none⟩) (Kd.R_types HO212.out BK213.out (by decide)) (fun _ hk => hk.2) (.slice Ao18 t210.length co18)) (fun _ h_ => h_.1))))); (case side2 => exact (Kd.R_reads' HO212.out).2.1); rintro e w22 ⟨rfl, hb⟩; refine ⟨_, rfl, ?_⟩; replace HO212 := Aside0.mk (Kd.R_below (kr_ ((Kd.R_mono (Kd.R_far (p := ⟨gb213, 0, none⟩) (Kd.R_types HO212.out BK213.out (by decide)) (fun _ hk => hk.2) (.slice Ao18 t210.length co18)) (fun _ h_ => h_.1)))) hb); replace BK208 := Aside0.mk (blk_below (g := gb208) (o := .cells #[.slice none 0 0] 41 (0, 0)) (bf_ BK208.out) hb); replace BK213 := Aside0.mk (blk_below (g := gb213) (o := .cells #[.slice Ao18 t210.length co18] 41 (0, 0)) (by (with_reducible repeat (first | refine blk_drewN ?_ _ | refine blk_drew ?_ | refine blk_alloc ?_ _)); refine blk_put (cs := #[.slice none 0 0]) ?_ 0 _ rfl; (with_reducible repeat (first | refine blk_drewN ?_ _ | refine blk_drew ?_ | refine blk_alloc ?_ _)); exact BK213.out) hb); replace HB := bs_ HB hb; (try clear hb); (try clear hb2); (try clear hk); (try clear hi); have hcz23_0 := bc_ BK208; have hfz23_0 := blk_frozen BK208.out 0))
   refine bodyPost_ret (results_ct rfl _ _ gb208 41 #[.slice none 0 0] (0, 0) _ rfl (by (with_reducible repeat (first | refine blk_drewN ?_ _ | refine blk_drew ?_ | refine blk_alloc ?_ _)); refine blk_put (cs := #[.slice none 0 0]) ?_ 0 _ rfl; (with_reducible repeat (first | refine blk_drewN ?_ _ | refine blk_drew ?_ | refine blk_alloc ?_ _)); exact BK208.out) Try.underlying41 rfl (by kernel_rfl)) rfl ?_
   exact ⟨_, er_, by first | exact Kd.R_nil _ _ _ _ _ | exact Kd.N_nil _ _ _ _ _ | exact Kd.V_nil _ _ _ _ _ | exact Kd.Q_nil _ _ _ _ _ | exact Kd.S_nil _ _ _ _ _, bl_ HB.out⟩
 ·obtain rfl := Bool.eq_false_iff.mpr c3
  rw [if_neg nf_] at H
  simp only [Option.some.injEq, Prod.mk.injEq] at H
  obtain ⟨rfl, rfl⟩ := H
  go_enter Try.func74, Try.ntmps74
  go_wp2_with (first | ((with_reducible refine gate_dst (N := 2) rfl ?_); refine be_ 2 #[.slice none 0 0] 41 fun gb208 hg w24 hbox hb => ?_; have BK208 := Aside0.mk (hbox); have GW208 := ge_ hg HB; have GE208 := ge_ hg HB; replace HB := bs_ HB hb; clear hb hbox hg) | ((with_reducible refine gate_callee (f := 100) rfl ?_); refine gl_ 6 Try.func100 #[.slice A0 l0.length c0] ?_; (with_reducible refine (spec_l3Gens.calls k _ _ l0 false _ ?side1 ?side2 A2.out).mono ?_); (case side1 => exact cs_ HR0 HB); (case side2 => exact HC0.out); rintro e w' ⟨rfl, ⟨nd, rfl⟩⟩; refine ⟨_, rfl, ?_⟩; (try (rw [drewN_self w24]; generalize hq_ : World.drewN w24 _ = w24; have n0_ : Aside0 (w24.heap[gb208]? = some (.cells #[.slice none 0 0] 41 (0, 0))) := ⟨by rw [← hq_]; exact (bk_ BK208.out)⟩; have n1_ : Aside0 (Below w.heap.size w w24) := ⟨by rw [← hq_]; exact (bl_ HB.out)⟩; clear BK208 HB hq_; have BK208 := n0_; have HB := n1_; clear n0_ n1_)); have hcz25_0 := bc_ BK208; have hfz25_0 := blk_frozen BK208.out 0))
  refine bodyPost_ret (results_ct rfl _ _ gb208 41 #[.slice none 0 0] (0, 0) _ rfl (by (with_reducible repeat (first | refine blk_drewN ?_ _ | refine blk_drew ?_ | refine blk_alloc ?_ _)); refine blk_put (cs := #[.slice none 0 0]) ?_ 0 _ rfl; (with_reducible repeat (first | refine blk_drewN ?_ _ | refine blk_drew ?_ | refine blk_alloc ?_ _)); exact BK208.out) Try.underlying41 rfl (by kernel_rfl)) rfl ?_
  exact ⟨_, er_, by first | exact Kd.R_nil _ _ _ _ _ | exact Kd.N_nil _ _ _ _ _ | exact Kd.V_nil _ _ _ _ _ | exact Kd.Q_nil _ _ _ _ _ | exact Kd.S_nil _ _ _ _ _, bl_ HB.out⟩
def spec_l3Has.f (k : Nat) (l0_0 : List Int) (a1 : Int) : Option (Bool) := if a1 < 0 then (some (decide (a1 > 0))) else (if a1 ≥ 200 then (some (decide (a1 > 0))) else ((spec_l3Table.f k l0_0 a1).bind fun t216 => (if 0 ≤ a1 then (if a1 < (t216.length : Int) then (some (rdOf false t216 a1)) else (none)) else (none))))
theorem spec_l3Has.calls (k : Nat) (A0_0 : Option Addr) (c0_0 : Nat) (l0_0 : List Int) (a1 : Int) (r : Bool) (w : World) (hr0_0 : Kd.C (Kd.int .i64) w A0_0 l0_0.length l0_0) (hc0_0 : l0_0.length ≤ c0_0) (h : spec_l3Has.f k l0_0 a1 = some r) :
 Calls Try.prog 142 #[.agg #[.slice A0_0 l0_0.length c0_0], .int .i64 a1] w fun e w' => e = .returned (.bool r) ∧ Below w.heap.size w w' := by
 have hu41 := Try.underlying41
 have HR0_0 := Aside0.mk hr0_0
 have HC0_0 := Aside0.mk hc0_0
 clear hr0_0 hc0_0
 have HB := Aside0.mk (Below.refl w.heap.size w)
 have H := h
 clear h
 unfold spec_l3Has.f at H
 by_cases c3 : a1 < 0
 ·rw [if_pos c3] at H
  have c3b0 : decide (a1 < 0) = true := decide_eq_true c3
  clear c3
  obtain rfl := Option.some.inj H
  go_enter Try.func142, Try.ntmps142
  go_wp2_with (first | ((with_reducible refine gate_dst (N := 2) rfl ?_); refine be_ 2 #[.slice A0_0 l0_0.length c0_0] 41 fun gb215 hg w4 hbox hb => ?_; have BK215 := Aside0.mk (hbox); have GW215 := ge_ hg HB; have GE215 := ge_ hg HB; replace HB := bs_ HB hb; clear hb hbox hg))
  go_ret
  exact ⟨er_, bl_ HB.out⟩
 ·rw [if_neg c3] at H
  have c3b0 : decide (a1 < 0) = false := decide_eq_false c3
  clear c3
  by_cases c5 : a1 ≥ 200
  ·rw [if_pos c5] at H
   have c5b0 : decide (200 ≤ a1) = true := decide_eq_true c5
   clear c5
   obtain rfl := Option.some.inj H
   go_enter Try.func142, Try.ntmps142
   go_wp2_with (first | ((with_reducible refine gate_dst (N := 2) rfl ?_); refine be_ 2 #[.slice A0_0 l0_0.length c0_0] 41 fun gb215 hg w6 hbox hb => ?_; have BK215 := Aside0.mk (hbox); have GW215 := ge_ hg HB; have GE215 := ge_ hg HB; replace HB := bs_ HB hb; clear hb hbox hg))
   go_ret
   exact ⟨er_, bl_ HB.out⟩
  ·rw [if_neg c5] at H
   have c5b0 : decide (200 ≤ a1) = false := decide_eq_false c5
   clear c5
   obtain ⟨t216, A7, H⟩ := ob_ H
   (try dsimp only at H)
   by_cases c8 : 0 ≤ a1
   ·rw [if_pos c8] at H
    have c8b0 : decide (0 ≤ a1) = true := decide_eq_true c8
    clear c8
    by_cases c9 : a1 < (t216.length : Int)
    ·rw [if_pos c9] at H
     have c9b0 : decide (a1 < (t216.length : Int)) = true := decide_eq_true c9
     clear c9
     obtain rfl := Option.some.inj H
     go_enter Try.func142, Try.ntmps142
     go_wp2_with (first | ((with_reducible refine gate_dst (N := 2) rfl ?_); refine be_ 2 #[.slice A0_0 l0_0.length c0_0] 41 fun gb215 hg w10 hbox hb => ?_; have BK215 := Aside0.mk (hbox); have GW215 := ge_ hg HB; have GE215 := ge_ hg HB; replace HB := bs_ HB hb; clear hb hbox hg; have hcz11_0 := bc_ BK215; have hfz11_0 := blk_frozen BK215.out 0) | ((with_reducible refine gate_callee (f := 140) rfl ?_); refine gl_ 16 Try.func140 #[.slice A0_0 l0_0.length c0_0, .int .i64 a1] ?_; (with_reducible refine (spec_l3Table.calls k _ _ l0_0 a1 t216 _ ?side1 ?side2 A7.out).mono ?_); (case side1 => exact cs_ HR0_0 HB); (case side2 => exact HC0_0.out); rintro e w12 ⟨v217, rfl, ho0, hb⟩; refine ⟨_, rfl, ?_⟩; have HO218 := rl_ ho0 HB; replace BK215 := bb_ BK215 hb; replace HB := bs_ HB hb; (try clear hb); (try clear hb2); (try clear hk); (try clear hi); (try clear ho0); obtain ⟨Ao13, co13, eo13⟩ := Kd.R_slice HO218.out; subst eo13; have p219 : 0 ≤ (a1 : Int) := od_; have q219 : a1 < (t216.length : Int) := od_; obtain ⟨ad219, e219, hx219_0⟩ := Kd.at_bool (Kd.R_reads' HO218.out).2.2 a1 p219 q219; cases e219; replace p219 := eq_true p219; replace q219 := eq_true q219))
     go_ret
     exact ⟨er_, bl_ HB.out⟩
    ·rw [if_neg c9] at H
     exact absurd H (by simp)
   ·rw [if_neg c8] at H
    exact absurd H (by simp)
def spec_Contains.f (k : Nat) (l0_0 : List Int) (a1 : Int) : Option (Bool) := (spec_IsSemigroup.f k l0_0).bind fun t221 => (if t221 = true then ((spec_l3Has.f k l0_0 a1).bind fun t222 => (some t222)) else (some false))
theorem spec_Contains.calls (k : Nat) (A0_0 : Option Addr) (c0_0 : Nat) (l0_0 : List Int) (a1 : Int) (r : Bool) (w : World) (hr0_0 : Kd.C (Kd.int .i64) w A0_0 l0_0.length l0_0) (hc0_0 : l0_0.length ≤ c0_0) (h : spec_Contains.f k l0_0 a1 = some r) :
 Calls Try.prog 109 #[.agg #[.slice A0_0 l0_0.length c0_0], .int .i64 a1] w fun e w' => e = .returned (.bool r) ∧ Below w.heap.size w w' := by
 have hu41 := Try.underlying41
 have HR0_0 := Aside0.mk hr0_0
 have HC0_0 := Aside0.mk hc0_0
 clear hr0_0 hc0_0
 have HB := Aside0.mk (Below.refl w.heap.size w)
 have H := h
 clear h
 unfold spec_Contains.f at H
 obtain ⟨t221, A3, H⟩ := ob_ H
 (try dsimp only at H)
 by_cases c4 : t221 = true
 ·subst c4
  rw [if_pos rfl] at H
  obtain ⟨t222, A5, H⟩ := ob_ H
  (try dsimp only at H)
  obtain rfl := Option.some.inj H
  go_enter Try.func109, Try.ntmps109
  go_wp2_with (first | ((with_reducible refine gate_dst (N := 2) rfl ?_); refine be_ 2 #[.slice A0_0 l0_0.length c0_0] 41 fun gb220 hg w6 hbox hb => ?_; have BK220 := Aside0.mk (hbox); have GW220 := ge_ hg HB; have GE220 := ge_ hg HB; replace HB := bs_ HB hb; clear hb hbox hg; have hcz7_0 := bc_ BK220; have hfz7_0 := blk_frozen BK220.out 0) | ((with_reducible refine gate_callee (f := 41) rfl ?_); refine gl_ 6 Try.func41 #[.agg #[.slice A0_0 l0_0.length c0_0]] ?_; (with_reducible refine (spec_IsSemigroup.calls k _ _ l0_0 true _ ?side1 ?side2 A3.out).mono ?_); (case side1 => exact cs_ HR0_0 HB); (case side2 => exact HC0_0.out); rintro e w8 ⟨rfl, hb⟩; refine ⟨_, rfl, ?_⟩; replace BK220 := bb_ BK220 hb; replace HB := bs_ HB hb; (try clear hb); (try clear hb2); (try clear hk); (try clear hi); have hcz9_0 := bc_ BK220; have hfz9_0 := blk_frozen BK220.out 0) | (go_at_call 142; (with_reducible refine (spec_l3Has.calls k _ _ l0_0 a1 t222 _ ?side1 ?side2 A5.out).mono ?_); (case side1 => exact cs_ HR0_0 HB); (case side2 => exact HC0_0.out); rintro e w10 ⟨rfl, hb⟩; replace BK220 := bb_ BK220 hb; replace HB := bs_ HB hb; (try clear hb); (try clear hb2); (try clear hk); (try clear hi)))
  go_ret
  exact ⟨er_, bl_ HB.out⟩
 ·obtain rfl := Bool.eq_false_iff.mpr c4
  rw [if_neg nf_] at H
  obtain rfl := Option.some.inj H
  go_enter Try.func109, Try.ntmps109
  go_wp2_with (first | ((with_reducible refine gate_dst (N := 2) rfl ?_); refine be_ 2 #[.slice A0_0 l0_0.length c0_0] 41 fun gb220 hg w11 hbox hb => ?_; have BK220 := Aside0.mk (hbox); have GW220 := ge_ hg HB; have GE220 := ge_ hg HB; replace HB := bs_ HB hb; clear hb hbox hg; have hcz12_0 := bc_ BK220; have hfz12_0 := blk_frozen BK220.out 0) | ((with_reducible refine gate_callee (f := 41) rfl ?_); refine gl_ 6 Try.func41 #[.agg #[.slice A0_0 l0_0.length c0_0]] ?_; (with_reducible refine (spec_IsSemigroup.calls k _ _ l0_0 false _ ?side1 ?side2 A3.out).mono ?_); (case side1 => exact cs_ HR0_0 HB); (case side2 => exact HC0_0.out); rintro e w13 ⟨rfl, hb⟩; refine ⟨_, rfl, ?_⟩; replace BK220 := bb_ BK220 hb; replace HB := bs_ HB hb; (try clear hb); (try clear hb2); (try clear hk); (try clear hi)))
  go_ret
  exact ⟨er_, bl_ HB.out⟩
def spec_HasNumber.l0 : Nat → List Int → Int → Int → Option (Bool)
 | 0, _, _, _ => none
 | k + 1, x0, x1, x5 => if x5 < (x0.length : Int) then (if 0 ≤ x5 then (if (rd x0 x5) = x1 then (some true) else (spec_HasNumber.l0 k x0 x1 (wrap64 (x5 + 1)))) else (none)) else (some false)
def spec_HasNumber.f (k : Nat) (l0 : List Int) (a1 : Int) : Option (Bool) := spec_HasNumber.l0 k l0 a1 0
theorem spec_HasNumber.calls (k : Nat) (A0 : Option Addr) (c0 : Nat) (l0 : List Int) (a1 : Int) (r : Bool) (w : World) (hr0 : Kd.C (Kd.int .i64) w A0 l0.length l0) (hc0 : l0.length ≤ c0) (h : spec_HasNumber.f k l0 a1 = some r) :
 Calls Try.prog 110 #[.slice A0 l0.length c0, .int .i64 a1] w fun e w' => e = .returned (.bool r) ∧ Drawn0 w w' := by
 have HR0 := Aside0.mk hr0
 have HC0 := Aside0.mk hc0
 clear hr0 hc0
 have H := h
 clear h
 unfold spec_HasNumber.f at H
 have H' := Aside0.mk H
 clear H
 go_enter Try.func110, Try.ntmps110
 go_wp2
 go_loopg [5] k (fun kq v5 w' => ∃ (x5_1 : Int), v5 = .int .i64 x5_1 ∧ Aside0 (spec_HasNumber.l0 kq l0 a1 x5_1 = some r) ∧ Aside0 (kq ≤ k) ∧ Drawn0 w w')
 case atStart => exact ⟨(0), sd_, H', ⟨Nat.le_refl _⟩, dr_⟩
 case round =>
  clear H'
  try clear c1
  try clear p2
  obtain ⟨x5_1, rfl, HA, HK1, ⟨m1, rfl⟩⟩ := hrel
  cases gk with
  | zero => exact absurd HA.out (by simp [spec_HasNumber.l0])
  | succ k1 =>
   have H := HA.out
   clear HA
   simp only [spec_HasNumber.l0] at H
   by_cases c3 : x5_1 < (l0.length : Int)
   ·rw [if_pos c3] at H
    have c3b0 : decide (x5_1 < (l0.length : Int)) = true := decide_eq_true c3
    clear c3
    by_cases c4 : 0 ≤ x5_1
    ·rw [if_pos c4] at H
     have c4b0 : decide (0 ≤ x5_1) = true := decide_eq_true c4
     clear c4
     by_cases c5 : (rd l0 x5_1) = a1
     ·rw [if_pos c5] at H
      have c5b0 : ((rd l0 x5_1) == a1) = true := beq_iff_eq.mpr c5
      have c5b1 : ((rd l0 x5_1) != a1) = false := bne_eq_false_iff_eq.mpr c5
      clear c5
      obtain rfl := Option.some.inj H
      have p223 : 0 ≤ (x5_1 : Int) := od_
      have q223 : x5_1 < (l0.length : Int) := od_
      obtain ⟨ad223, e223, hx223_0⟩ := Kd.at_int HR0.out x5_1 p223 q223
      cases e223
      replace p223 := eq_true p223
      replace q223 := eq_true q223
      go_wp2
      go_ret
      exact ⟨sd_, dr_⟩
     ·rw [if_neg c5] at H
      have c5b0 : ((rd l0 x5_1) == a1) = false := beq_eq_false_iff_ne.mpr c5
      have c5b1 : ((rd l0 x5_1) != a1) = true := bne_iff_ne.mpr c5
      have H' := Aside0.mk H
      clear H
      have p223 : 0 ≤ (x5_1 : Int) := od_
      have q223 : x5_1 < (l0.length : Int) := od_
      obtain ⟨ad223, e223, hx223_0⟩ := Kd.at_int HR0.out x5_1 p223 q223
      cases e223
      replace p223 := eq_true p223
      replace q223 := eq_true q223
      go_wp2
      go_roundg k1
      case measure => have := HK1.out; omega
      case rel => exact ⟨(wrap64 (x5_1 + 1)), sd_, H', ⟨by have := HK1.out; omega⟩, dr_⟩
    ·rw [if_neg c4] at H
     exact absurd H (by simp)
   ·rw [if_neg c3] at H
    have c3b0 : decide (x5_1 < (l0.length : Int)) = false := decide_eq_false c3
    clear c3
    obtain rfl := Option.some.inj H
    go_wp2
    go_ret
    exact ⟨sd_, dr_⟩
def spec_l22Times.l0 : Nat → List Int → Int → List Int → Int → Option (List Int)
 | 0, _, _, _, _ => none
 | k + 1, x0, x1, x5, x6 => if x6 < (x0.length : Int) then (if 0 ≤ x6 then (if x5.length < 17592186044416 then (spec_l22Times.l0 k x0 x1 (x5 ++ [wrap64 ((rd x0 x6) * x1)]) (wrap64 (x6 + 1))) else (none)) else (none)) else (some x5)
def spec_l22Times.f (k : Nat) (l0 : List Int) (a1 : Int) : Option (List Int) := spec_l22Times.l0 k l0 a1 (([] : List Int)) 0
theorem spec_l22Times.calls (k : Nat) (A0 : Option Addr) (c0 : Nat) (l0 : List Int) (a1 : Int) (r : List Int) (w : World) (hr0 : Kd.C (Kd.int .i64) w A0 l0.length l0) (hc0 : l0.length ≤ c0) (h : spec_l22Times.f k l0 a1 = some r) :
 Calls Try.prog 111 #[.slice A0 l0.length c0, .int .i64 a1] w fun e w' => ∃ v0_ : Value, e = .returned (v0_) ∧ Kd.R (Kd.int .i64) 3 w' w.heap.size (fun _ => True) v0_ r ∧ Below w.heap.size w w' := by
 have HR0 := Aside0.mk hr0
 have HC0 := Aside0.mk hc0
 clear hr0 hc0
 have HB := Aside0.mk (Below.refl w.heap.size w)
 have H := h
 clear h
 unfold spec_l22Times.f at H
 obtain ⟨y224, hy224⟩ : ∃ y_ : List Int, y_ = (([] : List Int)) := ⟨_, rfl⟩
 replace H : (spec_l22Times.l0 k l0 a1 y224 0) = some r := hr_ hy224 H
 have Ny224 := Aside0.mk hy224
 clear hy224
 have H' := Aside0.mk H
 clear H
 go_enter Try.func111, Try.ntmps111
 go_wp2_with (first | ((with_reducible refine gate_dst (N := 7) rfl ?_); refine Kd.R_lit (Kd.int .i64) _ 3 ?hg (N := 7) ?hd (xs := ([] : List Int)) (inner := []) (ok := fun _ => True) (okp := fun _ => True) ?hr ?hp (fun _ hk => hk) trivial (Below.refl _ _) (Nat.le_refl _) (by simp) ?_; (case hd => rfl); (case hg => rfl); (case hr => first | (go_simp; done) | (go_simp; rfl)); (case hp => exact (Reps.none _ _)); intro v225 w3 ho4 hb hg_ hnew_; clear hg_ hnew_; (first | rw [← Ny224.out] at ho4 | (simp only [Int.reduceToNat] at ho4; rw [← Ny224.out] at ho4)); have HO226 := rl_ ho4 HB; replace HB := bs_ HB hb; clear hb ho4))
 go_loopg [5, 6] k (fun kq v5 v6 w' => ∃ (x5_1 : List Int) (x6_1 : Int), v6 = .int .i64 x6_1 ∧ Aside0 (spec_l22Times.l0 kq l0 a1 x5_1 x6_1 = some r) ∧ Aside0 (kq ≤ k) ∧ Aside0 (Kd.R (Kd.int .i64) 3 w' w.heap.size (fun _ => True) v5 x5_1) ∧ Aside0 (Below w.heap.size w w'))
 case atStart => exact ⟨(y224), (0), sd_, H', ⟨Nat.le_refl _⟩, ⟨kr_ HO226.out⟩, ⟨bl_ HB.out⟩⟩
 case round =>
  clear H'
  try clear c1
  try clear p2
  obtain ⟨x5_1, x6_1, rfl, HA, HK1, HO_5, HB⟩ := hrel
  cases gk with
  | zero => exact absurd HA.out (by simp [spec_l22Times.l0])
  | succ k1 =>
   have H := HA.out
   clear HA
   simp only [spec_l22Times.l0] at H
   by_cases c5 : x6_1 < (l0.length : Int)
   ·rw [if_pos c5] at H
    have c5b0 : decide (x6_1 < (l0.length : Int)) = true := decide_eq_true c5
    clear c5
    by_cases c6 : 0 ≤ x6_1
    ·rw [if_pos c6] at H
     have c6b0 : decide (0 ≤ x6_1) = true := decide_eq_true c6
     clear c6
     by_cases c7 : x5_1.length < 17592186044416
     ·rw [if_pos c7] at H
      have LMc7 := Aside0.mk c7
      clear c7
      obtain ⟨y228, hy228⟩ : ∃ y_ : List Int, y_ = (x5_1 ++ [wrap64 ((rd l0 x6_1) * a1)]) := ⟨_, rfl⟩
      replace H : (spec_l22Times.l0 k1 l0 a1 y228 (wrap64 (x6_1 + 1))) = some r := hr_ hy228 H
      have Ny228 := Aside0.mk hy228
      clear hy228
      have H' := Aside0.mk H
      clear H
      have p227 : 0 ≤ (x6_1 : Int) := od_
      have q227 : x6_1 < (l0.length : Int) := od_
      obtain ⟨ad227, e227, hx227_0⟩ := Kd.at_int HR0.out x6_1 p227 q227
      cases e227
      replace hx227_0 := (HB.out.cell (World.block_lt_of_cell? w _ hx227_0)).trans hx227_0
      replace p227 := eq_true p227
      replace q227 := eq_true q227
      go_wp2_with (first | ((with_reducible refine gate_builtin (b := .append) (xs := #[.tmp 14, .tmp 21]) rfl ?_); at_builtin; refine Kd.R_append (Kd.int .i64) (w0 := w) w.heap.size rfl (.tmp 14) (.tmp 21) 22 3 (.int .i64 0) 8 rfl Try.underlying22 info3 rfl (by decide) (by omega) u5 x5_1 (wrap64 ((rd l0 x6_1) * a1)) [.int .i64 (wrap64 ((rd l0 x6_1) * a1))] (fun _ => True) (fun _ => False) rfl rfl ?aP (fun _ hk => hk.elim) ?aF ?aO ?aB ?aS ?aL ?_; (case aP => exact rfl); (case aB => exact (bl_ HB.out)); (case aF => exact (fun _ _ => trivial)); (case aO => exact (kr_ HO_5.out)); (case aS => exact (below_size (bl_ HB.out))); (case aL => have := LMc7.out; omega); intro v229 w8 ho hb hg hat; rw [← Ny228.out] at ho; have n0_ := Aside0.mk (hb); have n1_ := Aside0.mk (ho); clear HB; clear HO_5; have HB := n0_; have HO230 := n1_; clear n0_ n1_; clear ho hb hg hat))
      go_roundg k1
      case measure => have := HK1.out; omega
      case rel => exact ⟨(y228), (wrap64 (x6_1 + 1)), sd_, H', ⟨by have := HK1.out; omega⟩, ⟨kr_ HO230.out⟩, ⟨bl_ HB.out⟩⟩
     ·rw [if_neg c7] at H
      exact absurd H (by simp)
    ·rw [if_neg c6] at H
     exact absurd H (by simp)
   ·rw [if_neg c5] at H
    have c5b0 : decide (x6_1 < (l0.length : Int)) = false := decide_eq_false c5
    clear c5
    obtain rfl := Option.some.inj H
    go_wp2
    go_ret
    exact ⟨_, er_, kr_ HO_5.out, bl_ HB.out⟩
end Go.Proofs.Ytbjbolblahlhcaa.PFnGlued
end
