/- Part 3 of the claim for FnArf, of the chain from the printed contracts and the plain laws to the row. It has no condition of its own. -/
import Derived.Test.YtddgegejeoihaaaG1ZFnArf
import Derived.Test.YtddgegejeoihaaaG2ZFnArf
section
namespace Go.Proofs.Ytddgegejeoihaaa.PFnArf
open Go.RowKit Go.Proofs.YtddgegejeoihaaaW.PrintWords Go.Proofs.YtddgegejeoihaaaW.PrintLast Go.Proofs.YtddgegejeoihaaaW.PrintMore
open Go.Proofs.Ytddgegejeoihaaa.SortW (bk_ kr_ t_ f_)
open Go.Proofs.Ytddgegejeoihaaa.SqW
attribute [local go_sem] max2_int min2_int max_two min_two max_three min_three max_four min_four
set_option maxHeartbeats 8000000
set_option maxRecDepth 100000
set_option linter.unusedVariables false
set_option linter.unusedSimpArgs false
def spec_l3Minimal.l0 : Nat → List Int → List Int → Int → Option (List Int)
 | 0, _, _, _ => none
 | k + 1, x3, x4, x5 => if x5 < (x4.length : Int) then (if x5 = 0 then (if 0 ≤ x5 then (if x3.length < 17592186044416 then (spec_l3Minimal.l0 k (x3 ++ [rd x4 x5]) x4 (wrap64 (x5 + 1))) else (none)) else (none)) else (if 0 ≤ x5 then (if x5 ≤ (x4.length : Int) then ((spec_l3Table.f k (x4.take (x5 : Int).toNat) (rd x4 x5)).bind fun t204 => (if 0 ≤ (rd x4 x5) then (if (rd x4 x5) < (t204.length : Int) then (if (rdOf false t204 (rd x4 x5) = true) then (spec_l3Minimal.l0 k x3 x4 (wrap64 (x5 + 1))) else (if x3.length < 17592186044416 then (spec_l3Minimal.l0 k (x3 ++ [rd x4 x5]) x4 (wrap64 (x5 + 1))) else (none))) else (none)) else (none))) else (none)) else (none))) else (some x3)
def spec_l3Minimal.f (k : Nat) (l0 : List Int) : Option (List Int) := (spec_SortList.f k l0).bind fun t192 => (spec_l3Minimal.l0 k (([] : List Int)) t192 0)
def spec_l3Minimal.T6 : Bool × List (List Nat × List Nat) := (true, [([], []), ([0], [0]), ([1], [1]), ([2], [2]), ([2], [2]), ([3, 4, 2], [2, 3, 4]), ([2], [2]), ([2], [2]), ([6, 7, 2], [2, 6, 7]), ([8, 2], [2, 8]), ([5, 9, 2, 2], [2, 5, 9]), ([2], [2]), ([2], [2]), ([11, 12, 2], [2, 11, 12]), ([13, 2], [2, 13]), ([10, 14, 2], [2, 10, 14]), ([15, 2], [2, 15]), ([16, 2], [2, 16]), ([2, 17], [2, 17])])
def spec_l3Minimal.B6 : List Nat := [0, 1, 3, 7, 7, 31, 7, 7, 199, 455, 1023, 7, 7, 6151, 14343, 32767, 65535, 131071, 262143]
theorem spec_l3Minimal.tab6 : rtab .any (opsOf Try.f97 6) = spec_l3Minimal.T6 := by kernel_rfl
theorem spec_l3Minimal.bits6 : waitsOk spec_l3Minimal.T6.2 spec_l3Minimal.B6 = true := by kernel_rfl
theorem spec_l3Minimal.calls (k : Nat) (A0 : Option Addr) (c0 : Nat) (l0 : List Int) (r : List Int) (w : World) (hr0 : Kd.C (Kd.int .i64) w A0 l0.length l0) (hc0 : l0.length ≤ c0) (h : spec_l3Minimal.f k l0 = some r) :
 Calls Try.prog 97 #[.slice A0 l0.length c0] w fun e w' => ∃ v0_ : Value, e = .returned (v0_) ∧ Kd.R (Kd.int .i64) 3 w' w.heap.size (fun _ => True) v0_ r ∧ Below w.heap.size w w' := by
 have HR0 := am_ hr0
 have HC0 := am_ hc0
 clear hr0 hc0
 have HB := am_ (Below.refl w.heap.size w)
 have H := h
 clear h
 unfold spec_l3Minimal.f at H
 obtain ⟨y189, hy189⟩ : ∃ y_ : List Int, y_ = (([] : List Int)) := ⟨_, rfl⟩
 replace H : ((spec_SortList.f k l0).bind fun t192 => (spec_l3Minimal.l0 k y189 t192 0)) = some r := hr_ hy189 H
 have Ny189 := am_ hy189
 clear hy189
 obtain ⟨t192, A2, H⟩ := ob_ H
 (try dsimp only at H)
 have H' := am_ H
 clear H
 go_enter Try.func97, Try.ntmps97
 go_wp2_with (first | ((with_reducible refine gate_dst (N := 6) rfl ?_); refine Kd.R_lit (Kd.int .i64) _ 3 ?hg (N := 6) ?hd (xs := ([] : List Int)) (inner := []) (ok := fun _ => True) (okp := fun _ => True) ?hr ?hp (fun _ hk => hk) trivial (Below.refl _ _) (Nat.le_refl _) (by simp) ?_; (case hd => rfl); (case hg => rfl); (case hr => first | (go_simp; done) | (go_simp; rfl)); (case hp => exact (Reps.none _ _)); intro v190 w3 ho4 hb hg_ hnew_; clear hg_ hnew_; (first | rw [← Ny189.out] at ho4 | (simp only [Int.reduceToNat] at ho4; rw [← Ny189.out] at ho4)); have HO191 := rl_ ho4 HB; replace HB := bs_ HB hb; clear hb ho4) | ((with_reducible refine gate_callee (f := 124) rfl ?_); refine gl_ 8 Try.func124 #[.slice A0 l0.length c0] ?_; (with_reducible refine (spec_SortList.calls k _ _ l0 t192 _ ?side1 ?side2 A2.out).mono ?_); (case side1 => exact cs_ HR0 HB); (case side2 => exact HC0.out); rintro e w5 ⟨v193, rfl, ho0, hb⟩; refine ⟨_, rfl, ?_⟩; have HO194 := am_ (Kd.R_lower (Kd.R_new' ho0 (Kd.R_lt (kr_ HO191.out))) (below_size (bl_ HB.out))); replace HO191 := am_ (Kd.R_elder' (kr_ HO191.out) (Kd.R_base ho0) hb); replace HB := bs_ HB hb; (try clear hb); (try clear hb2); (try clear hk); (try clear hi); (try clear ho0)))
 go_loopg [3, 5] k (fun kq v3 v5 w' => ∃ (x3_1 : List Int) (x5_1 : Int), v5 = .int .i64 x5_1 ∧ Aside0 (spec_l3Minimal.l0 kq x3_1 t192 x5_1 = some r) ∧ Aside0 (kq ≤ k) ∧ Aside0 (Kd.R (Kd.int .i64) 3 w' w.heap.size (fun k_ => some k_ ≠ (v193 : Value).ownBlock) v3 x3_1) ∧ Aside0 (Kd.R (Kd.int .i64) 3 w' w.heap.size (fun k_ => some k_ ≠ (v3 : Value).ownBlock) v193 t192) ∧ Aside0 (Below w.heap.size w w'))
 case atStart => exact ⟨(y189), (0), sd_, H', ⟨Nat.le_refl _⟩, ⟨kr_ (Kd.R_mono HO191.out (fun _ hk => hk.2))⟩, ⟨kr_ (Kd.R_mono HO194.out (fun _ hk => hk.2))⟩, ⟨bl_ HB.out⟩⟩
 case round =>
  clear H'
  try clear c1
  try clear p2
  obtain ⟨x3_1, x5_1, rfl, HA, HK1, HO_3, HO_4, HB⟩ := hrel
  cases gk with
  | zero => exact absurd HA.out (by simp [spec_l3Minimal.l0])
  | succ k1 =>
   have H := HA.out
   clear HA
   simp only [spec_l3Minimal.l0] at H
   by_cases c6 : x5_1 < (t192.length : Int)
   rotate_left
   ·rw [if_neg c6] at H
    have c6b0 : decide (x5_1 < (t192.length : Int)) = false := decide_eq_false c6
    clear c6
    obtain rfl := Option.some.inj H
    obtain ⟨Ao32, co32, eo32⟩ := Kd.R_slice HO_4.out
    subst eo32
    go_wp2
    go_ret
    exact ⟨_, er_, kr_ (Kd.R_mono HO_3.out (fun _ hk => trivial)), bl_ HB.out⟩
   rw [if_pos c6] at H
   have c6b0 := decide_eq_true c6
   clear c6
   by_cases c7 : x5_1 = 0
   ·rw [if_pos c7] at H
    have c7b0 : (x5_1 == 0) = true := beq_iff_eq.mpr c7
    have c7b1 : (x5_1 != 0) = false := bne_eq_false_iff_eq.mpr c7
    clear c7
    obtain ⟨c8, H⟩ := in_ H
    have c8b0 := decide_eq_true c8
    clear c8
    obtain ⟨c9, H⟩ := in_ H
    have LMc9 := am_ c9
    clear c9
    obtain ⟨y196, hy196⟩ : ∃ y_ : List Int, y_ = (x3_1 ++ [rd t192 x5_1]) := ⟨_, rfl⟩
    replace H : (spec_l3Minimal.l0 k1 y196 t192 (wrap64 (x5_1 + 1))) = some r := hr_ hy196 H
    have Ny196 := am_ hy196
    clear hy196
    have H' := am_ H
    clear H
    obtain ⟨Ao10, co10, eo10⟩ := Kd.R_slice HO_4.out
    subst eo10
    try go_wp2
    replace HO_3 := am_ (Kd.R_drew HO_3.out)
    replace HO_4 := am_ (Kd.R_drew HO_4.out)
    replace HB := am_ (below_drew1 HB.out)
    refine start_ (n := 19) (S := fun w' => True) (ds := []) (fl_ 19 0) (by kernel_rfl) rfl rfl trivial (fun hHeld => ?_); refine with_tabW spec_l3Minimal.tab6 spec_l3Minimal.bits6 (fun HT_ HW_ => ?_)
    generalize wr.drew = w11 at HO_3 HO_4 HB hHeld ⊢
    refine pu_ 0 15 (fl_ 19 1) ?_
    refine pu_ 1 16 (fl_ 19 2) ?_
    refine pu_ 2 17 (fl_ 19 3) ?_
    refine un_ 3 18 (fl_ 19 4) ?_
    refine un_ 4 19 (fl_ 19 5) ?_
    refine un_ 5 20 (fl_ 19 6) ?_
    refine un_ 6 21 (fl_ 19 7) ?_
    refine un_ 7 22 (fl_ 19 8) ?_
    refine un_ 8 23 (fl_ 19 9) ?_
    refine un_ 9 24 (fl_ 19 10) ?_
    refine un_ 10 25 (fl_ 19 11) ?_
    refine un_ 11 26 (fl_ 19 12) ?_
    refine un_ 12 27 (fl_ 19 13) ?_
    refine un_ 13 28 (fl_ 19 14) ?_
    refine un_ 14 29 (fl_ 19 15) ?_
    refine un_ 15 30 (fl_ 19 16) ?_
    refine un_ 16 31 (fl_ 19 17) ?_
    refine un_ 17 32 (fl_ 19 18) ?_
    refine pu_ 18 33 (fl_ 19 19) ?_
    refine done_ (done_of HT_.out (by kernel_rfl)) ?_
    obtain ⟨p195, q195, ad195, e195, hx195_0⟩ := ri_ (Kd.at_int (Kd.R_reads' HO_4.out).2.2 x5_1)
    cases e195
    try go_wp2_with (first | ((with_reducible refine gate_builtin (b := .append) (xs := #[.tmp 34, .tmp 39]) rfl ?_); at_builtin; refine Kd.R_append (Kd.int .i64) (w0 := w) w.heap.size rfl (.tmp 34) (.tmp 39) 22 3 (.int .i64 0) 8 rfl Try.underlying22 info3 rfl (by decide) (by omega) u3 x3_1 (rd t192 x5_1) [.int .i64 (rd t192 x5_1)] (fun k_ => some k_ ≠ (.slice (some ad195) t192.length co10 : Value).ownBlock) (fun _ => False) rfl rfl ?aP (fun _ hk => hk.elim) ?aF ?aO ?aB ?aS ?aL ?_; (case aP => exact rfl); (case aB => exact (bl_ HB.out)); (case aF => exact (fun k_ hk => Kd.fresh' (Kd.R_lt (kr_ HO_4.out)) k_ hk)); (case aO => exact (kr_ HO_3.out)); (case aS => exact (below_size (bl_ HB.out))); (case aL => have := LMc9.out; omega); intro v197 w12 ho hb hg hat; rw [← Ny196.out] at ho; have n0_ := am_ (Kd.R_after (ok := (fun _ => True)) (kr_ (Kd.R_mono HO_4.out (fun _ hk => ⟨trivial, by first | exact hk | exact SortW.own_len hk⟩))) hg hat); have n1_ := am_ (hb); have n2_ := am_ (ho); clear HO_4; clear HB; clear HO_3; have HO_4 := n0_; have HB := n1_; have HO198 := n2_; clear n0_ n1_ n2_; clear ho hb hg hat))
    go_roundg k1
    case measure => have := HK1.out; omega
    case rel => exact ⟨(y196), (wrap64 (x5_1 + 1)), sd_, H', ⟨by have := HK1.out; omega⟩, ⟨kr_ HO198.out⟩, ⟨kr_ (Kd.R_mono HO_4.out (fun _ hk => hk.2))⟩, ⟨bl_ HB.out⟩⟩
   rw [if_neg c7] at H
   have c7b0 : (x5_1 == 0) = false := beq_eq_false_iff_ne.mpr c7
   have c7b1 : (x5_1 != 0) = true := bne_iff_ne.mpr c7
   obtain ⟨c13, H⟩ := in_ H
   have c13b0 := eq_true c13
   have c13b1 := decide_eq_true c13
   clear c13
   obtain ⟨c14, H⟩ := in_ H
   have c14b0 := eq_true c14
   have c14b1 := decide_eq_true c14
   clear c14
   obtain ⟨y199, hy199⟩ : ∃ y_ : List Int, y_ = (t192.take (x5_1 : Int).toNat) := ⟨_, rfl⟩
   replace H : ((spec_l3Table.f k1 y199 (rd t192 x5_1)).bind fun t204 => (if 0 ≤ (rd t192 x5_1) then (if (rd t192 x5_1) < (t204.length : Int) then (if (rdOf false t204 (rd t192 x5_1) = true) then (spec_l3Minimal.l0 k1 x3_1 t192 (wrap64 (x5_1 + 1))) else (if x3_1.length < 17592186044416 then (spec_l3Minimal.l0 k1 (x3_1 ++ [rd t192 x5_1]) t192 (wrap64 (x5_1 + 1))) else (none))) else (none)) else (none))) = some r := hr_ hy199 H
   have Ny199 := am_ hy199
   clear hy199
   obtain ⟨t204, A15, H⟩ := ob_ H
   (try dsimp only at H)
   obtain ⟨c16, H⟩ := in_ H
   have c16b0 := decide_eq_true c16
   clear c16
   obtain ⟨c17, H⟩ := in_ H
   have c17b0 := decide_eq_true c17
   clear c17
   obtain ⟨bq18, hbq18⟩ : ∃ b_ : Bool, b_ = (rdOf false t204 (rd t192 x5_1)) := ⟨_, rfl⟩
   replace H : (if (bq18 = true) then (spec_l3Minimal.l0 k1 x3_1 t192 (wrap64 (x5_1 + 1))) else (if x3_1.length < 17592186044416 then (spec_l3Minimal.l0 k1 (x3_1 ++ [rd t192 x5_1]) t192 (wrap64 (x5_1 + 1))) else (none))) = some r := by rw [← hbq18] at H; exact H
   have Nbq18 := am_ hbq18
   clear hbq18
   by_cases c19 : (bq18 = true)
   ·subst c19
    rw [if_pos rfl] at H
    have H' := am_ H
    clear H
    obtain ⟨Ao20, co20, eo20⟩ := Kd.R_slice HO_4.out
    subst eo20
    try go_wp2
    replace HO_3 := am_ (Kd.R_drew HO_3.out)
    replace HO_4 := am_ (Kd.R_drew HO_4.out)
    replace HB := am_ (below_drew1 HB.out)
    have q22 : (x5_1 : Int) ≤ ((t192.length : Int) : Int) := od_
    obtain ⟨i022, hi022, _, hsz22, _⟩ := info_parts info3
    have hroom22 : t192.length ≤ co20 := (Kd.R_reads' HO_4.out).2.1
    have hC22 : Kd.C (Kd.int .i64) _ Ao20 t192.length t192 := (Kd.R_reads' HO_4.out).2.2
    have hcut22 := cut_to (P := Try.prog) 22 3 .i64 Try.underlying22 hi022 Ao20 t192.length co20 x5_1 (od_) q22 hroom22
    have hr22 := Kd.C_take (m := (x5_1 : Int).toNat) hC22 (by omega)
    have hy22 : y199.length = (x5_1 : Int).toNat := (by rw [Ny199.out, List.length_take]; omega)
    rw [← Ny199.out] at hr22
    rw [← hy22] at hcut22
    have HR202 := am_ hr22
    have HC202 := am_ (show y199.length ≤ co20 from by omega)
    clear hr22 hC22 hroom22 hi022 hsz22
    have KY22 := am_ hy22
    clear hy22
    have KL22 := am_ (show (x5_1 : Int).toNat ≤ t192.length from by omega)
    replace q22 := eq_true q22
    obtain ⟨p203, q203, ad203, e203, hx203_0⟩ := ri_ (Kd.at_int (Kd.R_reads' HO_4.out).2.2 x5_1)
    cases e203
    obtain ⟨p207, q207, ad207, e207, hx207_0⟩ := ri_ (Kd.at_int (Kd.R_reads' HO_4.out).2.2 x5_1)
    obtain rfl : ad203 = ad207 := (by injection e207)
    refine start_ (n := 19) (S := fun w' => w'.cell? (ad203.add (x5_1).toNat) = some (.int .i64 (rd t192 x5_1)) ∧ w'.cell? (ad203.add (x5_1).toNat) = some (.int .i64 (rd t192 x5_1))) (ds := []) (fl_ 19 0) (by kernel_rfl) rfl rfl ⟨hx203_0, hx207_0⟩ (fun hHeld => ?_); refine with_tabW spec_l3Minimal.tab6 spec_l3Minimal.bits6 (fun HT_ HW_ => ?_)
    generalize wr.drew = w21 at HO_3 HO_4 HB HR202 hx203_0 hx207_0 hHeld ⊢
    refine pu_ 0 15 (fl_ 19 1) ?_
    refine pu_ 1 16 (fl_ 19 2) ?_
    refine pu_ 2 17 (fl_ 19 3) ?_
    refine pu_ 3 18 (fl_ 19 4) ?_
    refine pu_ 4 19 (fl_ 19 5) ?_
    refine pu_ 5 20 (fl_ 19 6) ?_
    refine pu_ 6 21 (fl_ 19 7) ?_
    refine pu_ 7 22 (fl_ 19 8) ?_
    refine pu_ 8 23 (fl_ 19 9) ?_
    refine pu_ 11 26 (fm_ 19 2559) ?_
    refine pu_ 12 27 (fm_ 19 6655) ?_
    refine pu_ 13 28 (fm_ 19 14847) ?_
    refine ta_ 9 24 (fm_ 19 15359) ?_
    refine ta_ 14 29 (fm_ 19 31743) ?_
    refine on_ 10 25 (fl_ 19 15) fun K hK => ?_
    refine go_ Try.func99 #[.slice (some ad203) y199.length co20, .int .i64 (rd t192 x5_1)] ?_
    with_reducible refine (spec_l3Table.calls k1 _ _ y199 (rd t192 x5_1) t204 _ ?side1 ?side2 A15.out).mono ?_
    (case side1 => repeat (first | exact (by repeat (first | (with_reducible exact HR202.out) | (with_reducible refine Kd.C_alloc ?_ _) | (with_reducible refine Kd.C_drewN ?_ _) | (with_reducible refine Kd.C_drew ?_) | exact HR202.out)) | (with_reducible refine Kd.C_alloc ?_ _) | (with_reducible refine Kd.C_drewN ?_ _) | (with_reducible refine Kd.C_drew ?_)))
    (case side2 => exact HC202.out)
    rintro e w23 ⟨v205, rfl, ho0, hb⟩
    have HS0_ := (hb.cell (World.block_lt_of_cell? _ _ (hHeld.1))).trans (hHeld.1)
    have HS1_ := (hb.cell (World.block_lt_of_cell? _ _ (hHeld.2))).trans (hHeld.2)
    refine ⟨_, rfl, ?_⟩
    replace HO_3 := rb_ HO_3 hb
    replace HO_4 := rb_ HO_4 hb
    have HO206 := rl_ ho0 HB
    replace HR202 := am_ (Kd.C_below (by repeat (first | (with_reducible exact HR202.out) | (with_reducible refine Kd.C_alloc ?_ _) | (with_reducible refine Kd.C_drewN ?_ _) | (with_reducible refine Kd.C_drew ?_) | exact HR202.out)) hb)
    replace HB := bs_ HB hb
    (try clear hb)
    (try clear hb2)
    (try clear hk)
    (try clear hi)
    (try clear ho0)
    obtain ⟨Ao24, co24, eo24⟩ := Kd.R_slice HO206.out
    (first | subst eo24 | (injection eo24 with f1_ f2_ f3_; have f4_ := f1_.symm; have f5_ := f3_.symm; clear f1_ f2_ f3_; subst f4_; subst f5_))
    obtain ⟨p208, q208, ad208, e208, hx208_0⟩ := ri_ (Kd.at_bool (Kd.R_reads' HO206.out).2.2 (rd t192 x5_1))
    (try rw [← Nbq18.out] at hx208_0)
    cases e208
    refine hK.out _ _ ⟨HS0_, HS1_⟩ (fun hHeld => ?_)
    clear hK K
    refine no_ 25 ?_
    refine pu_ 15 30 (fl_ 19 16) ?_
    have HSall_ := hHeld
    refine on_ 16 31 (fl_ 19 17) fun K hK => ?_
    refine value_ (w1 := ?_) (v := ?_) (by rfl) rfl ?_ ?_
    rotate_left 2
    ·go_simp
     constructor
     ·rfl
     rfl
    refine hK.out _ _ HSall_ (fun hHeld => ?_)
    clear hK K HSall_
    refine no_ 31 ?_
    refine pu_ 17 32 (fl_ 19 18) ?_
    refine pu_ 18 33 (fl_ 19 19) ?_
    refine done_ (done_of HT_.out (by kernel_rfl)) ?_
    try go_wp2
    go_roundg k1
    case measure => have := HK1.out; omega
    case rel => exact ⟨(x3_1), (wrap64 (x5_1 + 1)), sd_, H', ⟨by have := HK1.out; omega⟩, ⟨kr_ HO_3.out⟩, ⟨kr_ HO_4.out⟩, ⟨bl_ HB.out⟩⟩
   obtain rfl := Bool.eq_false_iff.mpr c19
   rw [if_neg nf_] at H
   obtain ⟨c25, H⟩ := in_ H
   have LMc25 := am_ c25
   clear c25
   obtain ⟨y210, hy210⟩ : ∃ y_ : List Int, y_ = (x3_1 ++ [rd t192 x5_1]) := ⟨_, rfl⟩
   replace H : (spec_l3Minimal.l0 k1 y210 t192 (wrap64 (x5_1 + 1))) = some r := hr_ hy210 H
   have Ny210 := am_ hy210
   clear hy210
   have H' := am_ H
   clear H
   obtain ⟨Ao26, co26, eo26⟩ := Kd.R_slice HO_4.out
   subst eo26
   try go_wp2
   replace HO_3 := am_ (Kd.R_drew HO_3.out)
   replace HO_4 := am_ (Kd.R_drew HO_4.out)
   replace HB := am_ (below_drew1 HB.out)
   have q28 : (x5_1 : Int) ≤ ((t192.length : Int) : Int) := od_
   obtain ⟨i028, hi028, _, hsz28, _⟩ := info_parts info3
   have hroom28 : t192.length ≤ co26 := (Kd.R_reads' HO_4.out).2.1
   have hC28 : Kd.C (Kd.int .i64) _ Ao26 t192.length t192 := (Kd.R_reads' HO_4.out).2.2
   have hcut28 := cut_to (P := Try.prog) 22 3 .i64 Try.underlying22 hi028 Ao26 t192.length co26 x5_1 (od_) q28 hroom28
   have hr28 := Kd.C_take (m := (x5_1 : Int).toNat) hC28 (by omega)
   have hy28 : y199.length = (x5_1 : Int).toNat := (by rw [Ny199.out, List.length_take]; omega)
   rw [← Ny199.out] at hr28
   rw [← hy28] at hcut28
   have HR202 := am_ hr28
   have HC202 := am_ (show y199.length ≤ co26 from by omega)
   clear hr28 hC28 hroom28 hi028 hsz28
   have KY28 := am_ hy28
   clear hy28
   have KL28 := am_ (show (x5_1 : Int).toNat ≤ t192.length from by omega)
   replace q28 := eq_true q28
   obtain ⟨p203, q203, ad203, e203, hx203_0⟩ := ri_ (Kd.at_int (Kd.R_reads' HO_4.out).2.2 x5_1)
   cases e203
   obtain ⟨p207, q207, ad207, e207, hx207_0⟩ := ri_ (Kd.at_int (Kd.R_reads' HO_4.out).2.2 x5_1)
   obtain rfl : ad203 = ad207 := (by injection e207)
   refine start_ (n := 19) (S := fun w' => w'.cell? (ad203.add (x5_1).toNat) = some (.int .i64 (rd t192 x5_1)) ∧ w'.cell? (ad203.add (x5_1).toNat) = some (.int .i64 (rd t192 x5_1))) (ds := []) (fl_ 19 0) (by kernel_rfl) rfl rfl ⟨hx203_0, hx207_0⟩ (fun hHeld => ?_); refine with_tabW spec_l3Minimal.tab6 spec_l3Minimal.bits6 (fun HT_ HW_ => ?_)
   generalize wr.drew = w27 at HO_3 HO_4 HB HR202 hx203_0 hx207_0 hHeld ⊢
   refine pu_ 0 15 (fl_ 19 1) ?_
   refine pu_ 1 16 (fl_ 19 2) ?_
   refine pu_ 2 17 (fl_ 19 3) ?_
   refine pu_ 3 18 (fl_ 19 4) ?_
   refine pu_ 4 19 (fl_ 19 5) ?_
   refine pu_ 5 20 (fl_ 19 6) ?_
   refine pu_ 6 21 (fl_ 19 7) ?_
   refine pu_ 7 22 (fl_ 19 8) ?_
   refine pu_ 8 23 (fl_ 19 9) ?_
   refine pu_ 11 26 (fm_ 19 2559) ?_
   refine pu_ 12 27 (fm_ 19 6655) ?_
   refine pu_ 13 28 (fm_ 19 14847) ?_
   refine ta_ 9 24 (fm_ 19 15359) ?_
   refine ta_ 14 29 (fm_ 19 31743) ?_
   refine on_ 10 25 (fl_ 19 15) fun K hK => ?_
   refine go_ Try.func99 #[.slice (some ad203) y199.length co26, .int .i64 (rd t192 x5_1)] ?_
   with_reducible refine (spec_l3Table.calls k1 _ _ y199 (rd t192 x5_1) t204 _ ?side1 ?side2 A15.out).mono ?_
   (case side1 => repeat (first | exact (by repeat (first | (with_reducible exact HR202.out) | (with_reducible refine Kd.C_alloc ?_ _) | (with_reducible refine Kd.C_drewN ?_ _) | (with_reducible refine Kd.C_drew ?_) | exact HR202.out)) | (with_reducible refine Kd.C_alloc ?_ _) | (with_reducible refine Kd.C_drewN ?_ _) | (with_reducible refine Kd.C_drew ?_)))
   (case side2 => exact HC202.out)
   rintro e w29 ⟨v205, rfl, ho0, hb⟩
   have HS0_ := (hb.cell (World.block_lt_of_cell? _ _ (hHeld.1))).trans (hHeld.1)
   have HS1_ := (hb.cell (World.block_lt_of_cell? _ _ (hHeld.2))).trans (hHeld.2)
   refine ⟨_, rfl, ?_⟩
   replace HO_3 := rb_ HO_3 hb
   replace HO_4 := rb_ HO_4 hb
   have HO206 := rl_ ho0 HB
   replace HR202 := am_ (Kd.C_below (by repeat (first | (with_reducible exact HR202.out) | (with_reducible refine Kd.C_alloc ?_ _) | (with_reducible refine Kd.C_drewN ?_ _) | (with_reducible refine Kd.C_drew ?_) | exact HR202.out)) hb)
   replace HB := bs_ HB hb
   (try clear hb)
   (try clear hb2)
   (try clear hk)
   (try clear hi)
   (try clear ho0)
   obtain ⟨Ao30, co30, eo30⟩ := Kd.R_slice HO206.out
   (first | subst eo30 | (injection eo30 with f1_ f2_ f3_; have f4_ := f1_.symm; have f5_ := f3_.symm; clear f1_ f2_ f3_; subst f4_; subst f5_))
   obtain ⟨p208, q208, ad208, e208, hx208_0⟩ := ri_ (Kd.at_bool (Kd.R_reads' HO206.out).2.2 (rd t192 x5_1))
   (try rw [← Nbq18.out] at hx208_0)
   cases e208
   refine hK.out _ _ ⟨HS0_, HS1_⟩ (fun hHeld => ?_)
   clear hK K
   refine no_ 25 ?_
   refine pu_ 15 30 (fl_ 19 16) ?_
   have HSall_ := hHeld
   refine on_ 16 31 (fl_ 19 17) fun K hK => ?_
   refine value_ (w1 := ?_) (v := ?_) (by rfl) rfl ?_ ?_
   rotate_left 2
   ·go_simp
    constructor
    ·rfl
    rfl
   refine hK.out _ _ HSall_ (fun hHeld => ?_)
   clear hK K HSall_
   refine no_ 31 ?_
   refine pu_ 17 32 (fl_ 19 18) ?_
   refine pu_ 18 33 (fl_ 19 19) ?_
   refine done_ (done_of HT_.out (by kernel_rfl)) ?_
   obtain ⟨p209, q209, ad209, e209, hx209_0⟩ := ri_ (Kd.at_int (Kd.R_reads' HO_4.out).2.2 x5_1)
   obtain rfl : ad203 = ad209 := (by injection e209)
   try go_wp2_with (first | ((with_reducible refine gate_builtin (b := .append) (xs := #[.tmp 34, .tmp 39]) rfl ?_); at_builtin; refine Kd.R_append (Kd.int .i64) (w0 := w) w.heap.size rfl (.tmp 34) (.tmp 39) 22 3 (.int .i64 0) 8 rfl Try.underlying22 info3 rfl (by decide) (by omega) u3 x3_1 (rd t192 x5_1) [.int .i64 (rd t192 x5_1)] (fun k_ => some k_ ≠ (.slice (some ad203) t192.length co26 : Value).ownBlock) (fun _ => False) rfl rfl ?aP (fun _ hk => hk.elim) ?aF ?aO ?aB ?aS ?aL ?_; (case aP => exact rfl); (case aB => exact (bl_ HB.out)); (case aF => exact (fun k_ hk => Kd.fresh' (Kd.R_lt (kr_ HO_4.out)) k_ hk)); (case aO => exact (kr_ HO_3.out)); (case aS => exact (below_size (bl_ HB.out))); (case aL => have := LMc25.out; omega); intro v211 w31 ho hb hg hat; rw [← Ny210.out] at ho; have n0_ := am_ (Kd.R_after (ok := (fun _ => True)) (kr_ (Kd.R_mono HO_4.out (fun _ hk => ⟨trivial, by first | exact hk | exact SortW.own_len hk⟩))) hg hat); have n1_ := am_ (Kd.R_over' (kr_ HO206.out) (Kd.R_typed (kr_ HO_3.out)) (by decide) hg); have n2_ := am_ (hb); have n3_ := am_ ((show Kd.C (Kd.int .i64) w31 (some ad203) y199.length y199 from by rw [Ny199.out]; exact Kd.C_take (m := (x5_1 : Int).toNat) ((Kd.R_reads' (Kd.R_after (ok := (fun _ => True)) (kr_ (Kd.R_mono HO_4.out (fun _ hk => ⟨trivial, by first | exact hk | exact SortW.own_len hk⟩))) hg hat)).2.2) KL28.out)); have n4_ := am_ (ho); clear HO_4; clear HO206; clear HB; clear HR202; clear HO_3; have HO_4 := n0_; have HO206 := n1_; have HB := n2_; have HR202 := n3_; have HO212 := n4_; clear n0_ n1_ n2_ n3_ n4_; clear ho hb hg hat))
   go_roundg k1
   case measure => have := HK1.out; omega
   case rel => exact ⟨(y210), (wrap64 (x5_1 + 1)), sd_, H', ⟨by have := HK1.out; omega⟩, ⟨kr_ HO212.out⟩, ⟨kr_ (Kd.R_mono HO_4.out (fun _ hk => hk.2))⟩, ⟨bl_ HB.out⟩⟩
def spec_l3Ends.l0 : Nat → List Int → List Bool → Int → Option (Bool)
 | 0, _, _, _ => none
 | k + 1, x0, x3, x4 => if 0 < (x0.length : Int) then (if x4 < (wrap64 (200 + (rd x0 0))) then (if 0 ≤ x4 then (if x4 < (x3.length : Int) then (if rdOf false x3 x4 = true then (spec_l3Ends.l0 k x0 x3 (wrap64 (x4 + 1))) else (some false)) else (none)) else (none)) else (some true)) else (none)
def spec_l3Ends.f (k : Nat) (l0 : List Int) : Option (Bool) := (spec_l3Table.f k l0 260).bind fun t213 => (spec_l3Ends.l0 k l0 t213 200)
theorem spec_l3Ends.calls (k : Nat) (A0 : Option Addr) (c0 : Nat) (l0 : List Int) (r : Bool) (w : World) (hr0 : Kd.C (Kd.int .i64) w A0 l0.length l0) (hc0 : l0.length ≤ c0) (h : spec_l3Ends.f k l0 = some r) :
 Calls Try.prog 98 #[.slice A0 l0.length c0] w fun e w' => e = .returned (.bool r) ∧ Below w.heap.size w w' := by
 have HR0 := am_ hr0
 have HC0 := am_ hc0
 clear hr0 hc0
 have HB := am_ (Below.refl w.heap.size w)
 have H := h
 clear h
 unfold spec_l3Ends.f at H
 obtain ⟨t213, A2, H⟩ := ob_ H
 (try dsimp only at H)
 have H' := am_ H
 clear H
 go_enter Try.func98, Try.ntmps98
 go_wp2_with (first | ((with_reducible refine gate_callee (f := 99) rfl ?_); refine gl_ 6 Try.func99 #[.slice A0 l0.length c0, .int .i64 260] ?_; (with_reducible refine (spec_l3Table.calls k _ _ l0 260 t213 _ ?side1 ?side2 A2.out).mono ?_); (case side1 => repeat (first | exact HR0.out | (with_reducible refine Kd.C_alloc ?_ _) | (with_reducible refine Kd.C_drewN ?_ _) | (with_reducible refine Kd.C_drew ?_))); (case side2 => exact HC0.out); rintro e w3 ⟨v214, rfl, ho0, hb⟩; refine ⟨_, rfl, ?_⟩; have HO215 := rl_ ho0 HB; replace HB := bs_ HB hb; (try clear hb); (try clear hb2); (try clear hk); (try clear hi); (try clear ho0)))
 go_loopg [4] k (fun kq v4 w' => ∃ (x4_1 : Int), v4 = .int .i64 x4_1 ∧ Aside0 (spec_l3Ends.l0 kq l0 t213 x4_1 = some r) ∧ Aside0 (kq ≤ k) ∧ Aside0 (Kd.R Kd.bool 4 w' w.heap.size (fun _ => True) v214 t213) ∧ Aside0 (Below w.heap.size w w'))
 case atStart => exact ⟨(200), sd_, H', ⟨Nat.le_refl _⟩, ⟨kr_ HO215.out⟩, ⟨bl_ HB.out⟩⟩
 case round =>
  clear H'
  try clear p2
  obtain ⟨x4_1, rfl, HA, HK1, HO_3, HB⟩ := hrel
  cases gk with
  | zero => exact absurd HA.out (by simp [spec_l3Ends.l0])
  | succ k1 =>
   have H := HA.out
   clear HA
   simp only [spec_l3Ends.l0] at H
   obtain ⟨c4, H⟩ := in_ H
   have c4b0 := decide_eq_true c4
   have c4b1 : decide (0 < l0.length) = true := decide_eq_true (by omega)
   (try have c4b1t := of_decide_eq_true c4b1)
   clear c4
   by_cases c5 : x4_1 < (wrap64 (200 + (rd l0 0)))
   rotate_left
   ·rw [if_neg c5] at H
    have c5b0 : decide (x4_1 < (wrap64 (200 + (rd l0 0)))) = false := decide_eq_false c5
    clear c5
    obtain rfl := Option.some.inj H
    have p216 : 0 ≤ (0 : Int) := (by omega)
    have q216 : 0 < (l0.length : Int) := od_
    obtain ⟨ad216, e216, hx216_0⟩ := Kd.at_int HR0.out 0 p216 q216
    cases e216
    have qi216 : (0 < l0.length) = True := eq_true (by omega)
    (try rw [show ((0 : Int)).toNat = 0 from rfl] at hx216_0)
    (try rw [Addr.add_zero'] at hx216_0)
    replace hx216_0 := (HB.out.cell (World.block_lt_of_cell? w _ hx216_0)).trans hx216_0
    replace p216 := eq_true p216
    replace q216 := eq_true q216
    go_wp2
    go_ret
    exact ⟨er_, bl_ HB.out⟩
   rw [if_pos c5] at H
   have c5b0 := decide_eq_true c5
   clear c5
   obtain ⟨c6, H⟩ := in_ H
   have c6b0 := decide_eq_true c6
   clear c6
   obtain ⟨c7, H⟩ := in_ H
   have c7b0 := decide_eq_true c7
   clear c7
   obtain ⟨bq8, hbq8⟩ : ∃ b_ : Bool, b_ = (rdOf false t213 x4_1) := ⟨_, rfl⟩
   replace H : (if bq8 = true then (spec_l3Ends.l0 k1 l0 t213 (wrap64 (x4_1 + 1))) else (some false)) = some r := by rw [← hbq8] at H; exact H
   have Nbq8 := am_ hbq8
   clear hbq8
   by_cases c9 : bq8 = true
   ·subst c9
    rw [if_pos rfl] at H
    have H' := am_ H
    clear H
    have p216 : 0 ≤ (0 : Int) := (by omega)
    have q216 : 0 < (l0.length : Int) := od_
    obtain ⟨ad216, e216, hx216_0⟩ := Kd.at_int HR0.out 0 p216 q216
    cases e216
    have qi216 : (0 < l0.length) = True := eq_true (by omega)
    (try rw [show ((0 : Int)).toNat = 0 from rfl] at hx216_0)
    (try rw [Addr.add_zero'] at hx216_0)
    replace hx216_0 := (HB.out.cell (World.block_lt_of_cell? w _ hx216_0)).trans hx216_0
    replace p216 := eq_true p216
    replace q216 := eq_true q216
    obtain ⟨Ao10, co10, eo10⟩ := Kd.R_slice HO_3.out
    subst eo10
    obtain ⟨p217, q217, ad217, e217, hx217_0⟩ := ri_ (Kd.at_bool (Kd.R_reads' HO_3.out).2.2 x4_1)
    (try rw [← Nbq8.out] at hx217_0)
    cases e217
    go_wp2
    go_roundg k1
    case measure => have := HK1.out; omega
    case rel => exact ⟨(wrap64 (x4_1 + 1)), sd_, H', ⟨by have := HK1.out; omega⟩, ⟨kr_ HO_3.out⟩, ⟨bl_ HB.out⟩⟩
   obtain rfl := Bool.eq_false_iff.mpr c9
   rw [if_neg nf_] at H
   obtain rfl := Option.some.inj H
   have p216 : 0 ≤ (0 : Int) := (by omega)
   have q216 : 0 < (l0.length : Int) := od_
   obtain ⟨ad216, e216, hx216_0⟩ := Kd.at_int HR0.out 0 p216 q216
   cases e216
   have qi216 : (0 < l0.length) = True := eq_true (by omega)
   (try rw [show ((0 : Int)).toNat = 0 from rfl] at hx216_0)
   (try rw [Addr.add_zero'] at hx216_0)
   replace hx216_0 := (HB.out.cell (World.block_lt_of_cell? w _ hx216_0)).trans hx216_0
   replace p216 := eq_true p216
   replace q216 := eq_true q216
   obtain ⟨Ao11, co11, eo11⟩ := Kd.R_slice HO_3.out
   subst eo11
   obtain ⟨p217, q217, ad217, e217, hx217_0⟩ := ri_ (Kd.at_bool (Kd.R_reads' HO_3.out).2.2 x4_1)
   (try rw [← Nbq8.out] at hx217_0)
   cases e217
   go_wp2
   go_ret
   exact ⟨er_, bl_ HB.out⟩
def spec_IsSemigroup.f (k : Nat) (l0_0 : List Int) : Option (Bool) := (spec_l3Gens.f k l0_0).bind fun t219 => (if t219 = true then (if (l0_0.length : Int) ≤ 12 then ((spec_IsAscending.f k l0_0).bind fun t220 => (if t220 = true then ((spec_GcdOfList.f k l0_0).bind fun t221 => (if t221 = 1 then ((spec_l3Minimal.f k l0_0).bind fun t222 => ((spec_l2Same.f k t222 l0_0).bind fun t225 => (if t225 = true then ((spec_l3Ends.f k l0_0).bind fun t226 => (some t226)) else (some false)))) else (some false))) else (some false))) else (some false)) else (some false))
def spec_IsSemigroup.T1 : Bool × List (List Nat × List Nat) := (true, [([], []), ([0], [0]), ([1], [1]), ([2, 2], [2]), ([3], [3]), ([4, 3], [3, 4]), ([5, 3], [3, 5]), ([6, 3], [3, 6]), ([3, 7], [3, 7]), ([8, 3], [8]), ([9], [9]), ([10, 9], [9, 10]), ([11, 9, 9], [9, 11]), ([9, 12], [9, 12]), ([13, 12], [13]), ([14], [14]), ([15, 14], [14, 15]), ([16, 14, 14], [14, 16]), ([17, 14], [14, 17]), ([14, 18], [14, 18]), ([19, 17], [19]), ([20], [20]), ([21, 20], [20, 21]), ([22, 20, 20], [20, 22]), ([20], [20]), ([24, 20], [20, 24]), ([23, 25, 23, 20], [20, 23, 25]), ([20, 26], [20, 26]), ([27, 26], [27]), ([28], [28]), ([29, 28], [28, 29]), ([30, 28, 28], [28, 30]), ([28, 31], [28, 31]), ([32, 31, 0, 1, 2, 3, 4, 5, 6, 7, 8, 9, 10, 11, 12, 13, 14, 15, 16, 17, 18, 19, 20, 21, 22, 23, 24, 25, 26, 27, 28, 29, 30, 31, 32], [32])])
def spec_IsSemigroup.B1 : List Nat := [0, 1, 3, 7, 15, 31, 63, 127, 255, 511, 1023, 2047, 4095, 8191, 16383, 32767, 65535, 131071, 262143, 524287, 1048575, 2097151, 4194303, 8388607, 2097151, 18874367, 67108863, 134217727, 268435455, 536870911, 1073741823, 2147483647, 4294967295, 8589934591]
theorem spec_IsSemigroup.tab1 : rtab .any (opsOf Try.f52 1) = spec_IsSemigroup.T1 := by kernel_rfl
theorem spec_IsSemigroup.bits1 : waitsOk spec_IsSemigroup.T1.2 spec_IsSemigroup.B1 = true := by kernel_rfl
theorem spec_IsSemigroup.calls (k : Nat) (A0_0 : Option Addr) (c0_0 : Nat) (l0_0 : List Int) (r : Bool) (w : World) (hr0_0 : Kd.C (Kd.int .i64) w A0_0 l0_0.length l0_0) (hc0_0 : l0_0.length ≤ c0_0) (h : spec_IsSemigroup.f k l0_0 = some r) :
 Calls Try.prog 52 #[.agg #[.slice A0_0 l0_0.length c0_0]] w fun e w' => e = .returned (.bool r) ∧ Below w.heap.size w w' := by
 have hu29 := Try.underlying29
 have HR0_0 := am_ hr0_0
 have HC0_0 := am_ hc0_0
 clear hr0_0 hc0_0
 have HB := am_ (Below.refl w.heap.size w)
 have H := h
 clear h
 unfold spec_IsSemigroup.f at H
 obtain ⟨t219, A2, H⟩ := ob_ H
 (try dsimp only at H)
 by_cases c3 : t219 = true
 rotate_left
 ·obtain rfl := Bool.eq_false_iff.mpr c3
  rw [if_neg nf_] at H
  obtain rfl := Option.some.inj H
  go_enter Try.func52, Try.ntmps52
  try go_wp2_with (first | ((with_reducible refine gate_dst (N := 1) rfl ?_); (try (refine gate_guard (by rfl) ?_; dsimp only)); refine be_ 1 #[.slice A0_0 l0_0.length c0_0] 29 fun gb218 hg w28 hbox hb => ?_; have BK218 := am_ (hbox); have GW218 := ge_ hg HB; have GE218 := ge_ hg HB; replace HB := bs_ HB hb; clear hb hbox hg))
  replace BK218 := am_ (blk_drew BK218.out)
  replace HB := am_ (below_drew1 HB.out)
  refine start_ (n := 34) (S := fun w' => w'.cell? ⟨gb218, 0, none⟩ = some (.slice A0_0 l0_0.length c0_0)) (ds := []) (fl_ 34 0) (by kernel_rfl) rfl rfl ((blk_cell BK218.out 0).trans rfl) (fun hHeld => ?_); refine with_tabW spec_IsSemigroup.tab1 spec_IsSemigroup.bits1 (fun HT_ HW_ => ?_)
  generalize w28.drew = w29 at BK218 HB hHeld ⊢
  refine pu_ 0 3 (fl_ 34 1) ?_
  refine ta_ 1 4 (fl_ 34 2) ?_
  refine on_ 2 5 (fl_ 34 3) fun K hK => ?_
  refine go_ Try.func94 #[.slice A0_0 l0_0.length c0_0] ?_
  with_reducible refine (spec_l3Gens.calls k _ _ l0_0 false _ ?side1 ?side2 A2.out).mono ?_
  (case side1 => exact cs_ HR0_0 HB)
  (case side2 => exact HC0_0.out)
  rintro e w' ⟨rfl, ⟨nd, rfl⟩⟩
  refine ⟨_, rfl, ?_⟩
  refine hK.out _ _ ((blk_cell BK218.out 0).trans rfl) (fun hHeld => ?_)
  clear hK K
  refine no_ 5 ?_
  refine pu_ 3 6 (fl_ 34 4) ?_
  refine un_ 4 7 (fl_ 34 5) ?_
  refine un_ 5 8 (fl_ 34 6) ?_
  refine un_ 6 9 (fl_ 34 7) ?_
  refine un_ 7 10 (fl_ 34 8) ?_
  refine pu_ 8 11 (fl_ 34 9) ?_
  refine pu_ 9 12 (fl_ 34 10) ?_
  refine un_ 10 13 (fl_ 34 11) ?_
  refine un_ 11 14 (fl_ 34 12) ?_
  refine un_ 12 15 (fl_ 34 13) ?_
  refine pu_ 13 16 (fl_ 34 14) ?_
  refine pu_ 14 17 (fl_ 34 15) ?_
  refine un_ 15 18 (fl_ 34 16) ?_
  refine un_ 16 19 (fl_ 34 17) ?_
  refine un_ 17 20 (fl_ 34 18) ?_
  refine un_ 18 21 (fl_ 34 19) ?_
  refine pu_ 19 22 (fl_ 34 20) ?_
  refine pu_ 20 23 (fl_ 34 21) ?_
  refine un_ 21 24 (fl_ 34 22) ?_
  refine un_ 22 25 (fl_ 34 23) ?_
  refine un_ 23 26 (fl_ 34 24) ?_
  refine un_ 24 27 (fl_ 34 25) ?_
  refine un_ 25 28 (fl_ 34 26) ?_
  refine un_ 26 29 (fl_ 34 27) ?_
  refine pu_ 27 30 (fl_ 34 28) ?_
  refine pu_ 28 31 (fl_ 34 29) ?_
  refine un_ 29 32 (fl_ 34 30) ?_
  refine un_ 30 33 (fl_ 34 31) ?_
  refine un_ 31 34 (fl_ 34 32) ?_
  refine pu_ 32 35 (fl_ 34 33) ?_
  refine pu_ 33 2 (fl_ 34 34) ?_
  refine done_ (done_of HT_.out (by kernel_rfl)) ?_
  try go_wp2
  go_ret
  exact ⟨er_, bl_ HB.out⟩
 subst c3
 rw [if_pos rfl] at H
 by_cases c4 : (l0_0.length : Int) ≤ 12
 rotate_left
 ·rw [if_neg c4] at H
  have c4b0 : decide ((l0_0.length : Int) ≤ 12) = false := decide_eq_false c4
  have c4b1 : decide (l0_0.length ≤ 12) = false := decide_eq_false (by omega)
  clear c4
  obtain rfl := Option.some.inj H
  go_enter Try.func52, Try.ntmps52
  try go_wp2_with (first | ((with_reducible refine gate_dst (N := 1) rfl ?_); (try (refine gate_guard (by rfl) ?_; dsimp only)); refine be_ 1 #[.slice A0_0 l0_0.length c0_0] 29 fun gb218 hg w26 hbox hb => ?_; have BK218 := am_ (hbox); have GW218 := ge_ hg HB; have GE218 := ge_ hg HB; replace HB := bs_ HB hb; clear hb hbox hg))
  replace BK218 := am_ (blk_drew BK218.out)
  replace HB := am_ (below_drew1 HB.out)
  refine start_ (n := 34) (S := fun w' => w'.cell? ⟨gb218, 0, none⟩ = some (.slice A0_0 l0_0.length c0_0)) (ds := []) (fl_ 34 0) (by kernel_rfl) rfl rfl ((blk_cell BK218.out 0).trans rfl) (fun hHeld => ?_); refine with_tabW spec_IsSemigroup.tab1 spec_IsSemigroup.bits1 (fun HT_ HW_ => ?_)
  generalize w26.drew = w27 at BK218 HB hHeld ⊢
  refine pu_ 0 3 (fl_ 34 1) ?_
  refine ta_ 1 4 (fl_ 34 2) ?_
  refine on_ 2 5 (fl_ 34 3) fun K hK => ?_
  refine go_ Try.func94 #[.slice A0_0 l0_0.length c0_0] ?_
  with_reducible refine (spec_l3Gens.calls k _ _ l0_0 true _ ?side1 ?side2 A2.out).mono ?_
  (case side1 => exact cs_ HR0_0 HB)
  (case side2 => exact HC0_0.out)
  rintro e w' ⟨rfl, ⟨nd, rfl⟩⟩
  refine ⟨_, rfl, ?_⟩
  refine hK.out _ _ ((blk_cell BK218.out 0).trans rfl) (fun hHeld => ?_)
  clear hK K
  refine no_ 5 ?_
  refine pu_ 3 6 (fl_ 34 4) ?_
  refine pu_ 4 7 (fl_ 34 5) ?_
  refine ta_ 5 8 (fl_ 34 6) ?_
  refine pu_ 6 9 (fl_ 34 7) ?_
  refine pu_ 7 10 (fl_ 34 8) ?_
  refine pu_ 8 11 (fl_ 34 9) ?_
  refine pu_ 9 12 (fl_ 34 10) ?_
  refine un_ 10 13 (fl_ 34 11) ?_
  refine un_ 11 14 (fl_ 34 12) ?_
  refine un_ 12 15 (fl_ 34 13) ?_
  refine pu_ 13 16 (fl_ 34 14) ?_
  refine pu_ 14 17 (fl_ 34 15) ?_
  refine un_ 15 18 (fl_ 34 16) ?_
  refine un_ 16 19 (fl_ 34 17) ?_
  refine un_ 17 20 (fl_ 34 18) ?_
  refine un_ 18 21 (fl_ 34 19) ?_
  refine pu_ 19 22 (fl_ 34 20) ?_
  refine pu_ 20 23 (fl_ 34 21) ?_
  refine un_ 21 24 (fl_ 34 22) ?_
  refine un_ 22 25 (fl_ 34 23) ?_
  refine un_ 23 26 (fl_ 34 24) ?_
  refine un_ 24 27 (fl_ 34 25) ?_
  refine un_ 25 28 (fl_ 34 26) ?_
  refine un_ 26 29 (fl_ 34 27) ?_
  refine pu_ 27 30 (fl_ 34 28) ?_
  refine pu_ 28 31 (fl_ 34 29) ?_
  refine un_ 29 32 (fl_ 34 30) ?_
  refine un_ 30 33 (fl_ 34 31) ?_
  refine un_ 31 34 (fl_ 34 32) ?_
  refine pu_ 32 35 (fl_ 34 33) ?_
  refine pu_ 33 2 (fl_ 34 34) ?_
  refine done_ (done_of HT_.out (by kernel_rfl)) ?_
  try go_wp2
  go_ret
  exact ⟨er_, bl_ HB.out⟩
 rw [if_pos c4] at H
 have c4b0 := decide_eq_true c4
 have c4b1 : decide (l0_0.length ≤ 12) = true := decide_eq_true (by omega)
 clear c4
 obtain ⟨t220, A5, H⟩ := ob_ H
 (try dsimp only at H)
 by_cases c6 : t220 = true
 rotate_left
 ·obtain rfl := Bool.eq_false_iff.mpr c6
  rw [if_neg nf_] at H
  obtain rfl := Option.some.inj H
  go_enter Try.func52, Try.ntmps52
  try go_wp2_with (first | ((with_reducible refine gate_dst (N := 1) rfl ?_); (try (refine gate_guard (by rfl) ?_; dsimp only)); refine be_ 1 #[.slice A0_0 l0_0.length c0_0] 29 fun gb218 hg w24 hbox hb => ?_; have BK218 := am_ (hbox); have GW218 := ge_ hg HB; have GE218 := ge_ hg HB; replace HB := bs_ HB hb; clear hb hbox hg))
  replace BK218 := am_ (blk_drew BK218.out)
  replace HB := am_ (below_drew1 HB.out)
  refine start_ (n := 34) (S := fun w' => w'.cell? ⟨gb218, 0, none⟩ = some (.slice A0_0 l0_0.length c0_0)) (ds := []) (fl_ 34 0) (by kernel_rfl) rfl rfl ((blk_cell BK218.out 0).trans rfl) (fun hHeld => ?_); refine with_tabW spec_IsSemigroup.tab1 spec_IsSemigroup.bits1 (fun HT_ HW_ => ?_)
  generalize w24.drew = w25 at BK218 HB hHeld ⊢
  refine pu_ 0 3 (fl_ 34 1) ?_
  refine ta_ 1 4 (fl_ 34 2) ?_
  refine on_ 2 5 (fl_ 34 3) fun K hK => ?_
  refine go_ Try.func94 #[.slice A0_0 l0_0.length c0_0] ?_
  with_reducible refine (spec_l3Gens.calls k _ _ l0_0 true _ ?side1 ?side2 A2.out).mono ?_
  (case side1 => exact cs_ HR0_0 HB)
  (case side2 => exact HC0_0.out)
  rintro e w' ⟨rfl, ⟨nd, rfl⟩⟩
  refine ⟨_, rfl, ?_⟩
  refine hK.out _ _ ((blk_cell BK218.out 0).trans rfl) (fun hHeld => ?_)
  clear hK K
  refine no_ 5 ?_
  refine pu_ 3 6 (fl_ 34 4) ?_
  refine pu_ 4 7 (fl_ 34 5) ?_
  refine ta_ 5 8 (fl_ 34 6) ?_
  refine pu_ 6 9 (fl_ 34 7) ?_
  refine pu_ 7 10 (fl_ 34 8) ?_
  refine pu_ 8 11 (fl_ 34 9) ?_
  refine pu_ 9 12 (fl_ 34 10) ?_
  refine pu_ 10 13 (fl_ 34 11) ?_
  refine ta_ 11 14 (fl_ 34 12) ?_
  refine on_ 12 15 (fl_ 34 13) fun K hK => ?_
  refine go_ Try.func95 #[.slice A0_0 l0_0.length c0_0] ?_
  with_reducible refine (spec_IsAscending.calls k _ _ l0_0 false _ ?side1 ?side2 A5.out).mono ?_
  (case side1 => exact cs_ HR0_0 HB)
  (case side2 => exact HC0_0.out)
  rintro e w' ⟨rfl, ⟨nd, rfl⟩⟩
  refine ⟨_, rfl, ?_⟩
  refine hK.out _ _ ((blk_cell BK218.out 0).trans rfl) (fun hHeld => ?_)
  clear hK K
  refine no_ 15 ?_
  refine pu_ 13 16 (fl_ 34 14) ?_
  refine pu_ 14 17 (fl_ 34 15) ?_
  refine un_ 15 18 (fl_ 34 16) ?_
  refine un_ 16 19 (fl_ 34 17) ?_
  refine un_ 17 20 (fl_ 34 18) ?_
  refine un_ 18 21 (fl_ 34 19) ?_
  refine pu_ 19 22 (fl_ 34 20) ?_
  refine pu_ 20 23 (fl_ 34 21) ?_
  refine un_ 21 24 (fl_ 34 22) ?_
  refine un_ 22 25 (fl_ 34 23) ?_
  refine un_ 23 26 (fl_ 34 24) ?_
  refine un_ 24 27 (fl_ 34 25) ?_
  refine un_ 25 28 (fl_ 34 26) ?_
  refine un_ 26 29 (fl_ 34 27) ?_
  refine pu_ 27 30 (fl_ 34 28) ?_
  refine pu_ 28 31 (fl_ 34 29) ?_
  refine un_ 29 32 (fl_ 34 30) ?_
  refine un_ 30 33 (fl_ 34 31) ?_
  refine un_ 31 34 (fl_ 34 32) ?_
  refine pu_ 32 35 (fl_ 34 33) ?_
  refine pu_ 33 2 (fl_ 34 34) ?_
  refine done_ (done_of HT_.out (by kernel_rfl)) ?_
  try go_wp2
  go_ret
  exact ⟨er_, bl_ HB.out⟩
 subst c6
 rw [if_pos rfl] at H
 obtain ⟨t221, A7, H⟩ := ob_ H
 (try dsimp only at H)
 by_cases c8 : t221 = 1
 rotate_left
 ·rw [if_neg c8] at H
  have c8b0 : (t221 == 1) = false := beq_eq_false_iff_ne.mpr c8
  have c8b1 : (t221 != 1) = true := bne_iff_ne.mpr c8
  obtain rfl := Option.some.inj H
  go_enter Try.func52, Try.ntmps52
  try go_wp2_with (first | ((with_reducible refine gate_dst (N := 1) rfl ?_); (try (refine gate_guard (by rfl) ?_; dsimp only)); refine be_ 1 #[.slice A0_0 l0_0.length c0_0] 29 fun gb218 hg w22 hbox hb => ?_; have BK218 := am_ (hbox); have GW218 := ge_ hg HB; have GE218 := ge_ hg HB; replace HB := bs_ HB hb; clear hb hbox hg))
  replace BK218 := am_ (blk_drew BK218.out)
  replace HB := am_ (below_drew1 HB.out)
  refine start_ (n := 34) (S := fun w' => w'.cell? ⟨gb218, 0, none⟩ = some (.slice A0_0 l0_0.length c0_0)) (ds := []) (fl_ 34 0) (by kernel_rfl) rfl rfl ((blk_cell BK218.out 0).trans rfl) (fun hHeld => ?_); refine with_tabW spec_IsSemigroup.tab1 spec_IsSemigroup.bits1 (fun HT_ HW_ => ?_)
  generalize w22.drew = w23 at BK218 HB hHeld ⊢
  refine pu_ 0 3 (fl_ 34 1) ?_
  refine ta_ 1 4 (fl_ 34 2) ?_
  refine on_ 2 5 (fl_ 34 3) fun K hK => ?_
  refine go_ Try.func94 #[.slice A0_0 l0_0.length c0_0] ?_
  with_reducible refine (spec_l3Gens.calls k _ _ l0_0 true _ ?side1 ?side2 A2.out).mono ?_
  (case side1 => exact cs_ HR0_0 HB)
  (case side2 => exact HC0_0.out)
  rintro e w' ⟨rfl, ⟨nd, rfl⟩⟩
  refine ⟨_, rfl, ?_⟩
  refine hK.out _ _ ((blk_cell BK218.out 0).trans rfl) (fun hHeld => ?_)
  clear hK K
  refine no_ 5 ?_
  refine pu_ 3 6 (fl_ 34 4) ?_
  refine pu_ 4 7 (fl_ 34 5) ?_
  refine ta_ 5 8 (fl_ 34 6) ?_
  refine pu_ 6 9 (fl_ 34 7) ?_
  refine pu_ 7 10 (fl_ 34 8) ?_
  refine pu_ 8 11 (fl_ 34 9) ?_
  refine pu_ 9 12 (fl_ 34 10) ?_
  refine pu_ 10 13 (fl_ 34 11) ?_
  refine ta_ 11 14 (fl_ 34 12) ?_
  refine on_ 12 15 (fl_ 34 13) fun K hK => ?_
  refine go_ Try.func95 #[.slice A0_0 l0_0.length c0_0] ?_
  with_reducible refine (spec_IsAscending.calls k _ _ l0_0 true _ ?side1 ?side2 A5.out).mono ?_
  (case side1 => exact cs_ HR0_0 HB)
  (case side2 => exact HC0_0.out)
  rintro e w' ⟨rfl, ⟨nd, rfl⟩⟩
  refine ⟨_, rfl, ?_⟩
  refine hK.out _ _ ((blk_cell BK218.out 0).trans rfl) (fun hHeld => ?_)
  clear hK K
  refine no_ 15 ?_
  refine pu_ 13 16 (fl_ 34 14) ?_
  refine pu_ 14 17 (fl_ 34 15) ?_
  refine pu_ 15 18 (fl_ 34 16) ?_
  refine ta_ 16 19 (fl_ 34 17) ?_
  refine on_ 17 20 (fl_ 34 18) fun K hK => ?_
  refine go_ Try.func96 #[.slice A0_0 l0_0.length c0_0] ?_
  with_reducible refine (spec_GcdOfList.calls k _ _ l0_0 t221 _ ?side1 ?side2 A7.out).mono ?_
  (case side1 => exact cs_ HR0_0 HB)
  (case side2 => exact HC0_0.out)
  rintro e w' ⟨rfl, ⟨nd, rfl⟩⟩
  refine ⟨_, rfl, ?_⟩
  refine hK.out _ _ ((blk_cell BK218.out 0).trans rfl) (fun hHeld => ?_)
  clear hK K
  refine no_ 20 ?_
  refine pu_ 18 21 (fl_ 34 19) ?_
  refine pu_ 19 22 (fl_ 34 20) ?_
  refine pu_ 20 23 (fl_ 34 21) ?_
  refine un_ 21 24 (fl_ 34 22) ?_
  refine un_ 22 25 (fl_ 34 23) ?_
  refine un_ 23 26 (fl_ 34 24) ?_
  refine un_ 24 27 (fl_ 34 25) ?_
  refine un_ 25 28 (fl_ 34 26) ?_
  refine un_ 26 29 (fl_ 34 27) ?_
  refine pu_ 27 30 (fl_ 34 28) ?_
  refine pu_ 28 31 (fl_ 34 29) ?_
  refine un_ 29 32 (fl_ 34 30) ?_
  refine un_ 30 33 (fl_ 34 31) ?_
  refine un_ 31 34 (fl_ 34 32) ?_
  refine pu_ 32 35 (fl_ 34 33) ?_
  refine pu_ 33 2 (fl_ 34 34) ?_
  refine done_ (done_of HT_.out (by kernel_rfl)) ?_
  try go_wp2
  go_ret
  exact ⟨er_, bl_ HB.out⟩
 rw [if_pos c8] at H
 have c8b0 : (t221 == 1) = true := beq_iff_eq.mpr c8
 have c8b1 : (t221 != 1) = false := bne_eq_false_iff_eq.mpr c8
 clear c8
 obtain ⟨t222, A9, H⟩ := ob_ H
 (try dsimp only at H)
 obtain ⟨t225, A10, H⟩ := ob_ H
 (try dsimp only at H)
 by_cases c11 : t225 = true
 rotate_left
 ·obtain rfl := Bool.eq_false_iff.mpr c11
  rw [if_neg nf_] at H
  obtain rfl := Option.some.inj H
  go_enter Try.func52, Try.ntmps52
  try go_wp2_with (first | ((with_reducible refine gate_dst (N := 1) rfl ?_); (try (refine gate_guard (by rfl) ?_; dsimp only)); refine be_ 1 #[.slice A0_0 l0_0.length c0_0] 29 fun gb218 hg w18 hbox hb => ?_; have BK218 := am_ (hbox); have GW218 := ge_ hg HB; have GE218 := ge_ hg HB; replace HB := bs_ HB hb; clear hb hbox hg))
  replace BK218 := am_ (blk_drew BK218.out)
  replace HB := am_ (below_drew1 HB.out)
  refine start_ (n := 34) (S := fun w' => w'.cell? ⟨gb218, 0, none⟩ = some (.slice A0_0 l0_0.length c0_0)) (ds := []) (fl_ 34 0) (by kernel_rfl) rfl rfl ((blk_cell BK218.out 0).trans rfl) (fun hHeld => ?_); refine with_tabW spec_IsSemigroup.tab1 spec_IsSemigroup.bits1 (fun HT_ HW_ => ?_)
  generalize w18.drew = w19 at BK218 HB hHeld ⊢
  refine pu_ 0 3 (fl_ 34 1) ?_
  refine ta_ 1 4 (fl_ 34 2) ?_
  refine on_ 2 5 (fl_ 34 3) fun K hK => ?_
  refine go_ Try.func94 #[.slice A0_0 l0_0.length c0_0] ?_
  with_reducible refine (spec_l3Gens.calls k _ _ l0_0 true _ ?side1 ?side2 A2.out).mono ?_
  (case side1 => exact cs_ HR0_0 HB)
  (case side2 => exact HC0_0.out)
  rintro e w' ⟨rfl, ⟨nd, rfl⟩⟩
  refine ⟨_, rfl, ?_⟩
  refine hK.out _ _ ((blk_cell BK218.out 0).trans rfl) (fun hHeld => ?_)
  clear hK K
  refine no_ 5 ?_
  refine pu_ 3 6 (fl_ 34 4) ?_
  refine pu_ 4 7 (fl_ 34 5) ?_
  refine ta_ 5 8 (fl_ 34 6) ?_
  refine pu_ 6 9 (fl_ 34 7) ?_
  refine pu_ 7 10 (fl_ 34 8) ?_
  refine pu_ 8 11 (fl_ 34 9) ?_
  refine pu_ 9 12 (fl_ 34 10) ?_
  refine pu_ 10 13 (fl_ 34 11) ?_
  refine ta_ 11 14 (fl_ 34 12) ?_
  refine on_ 12 15 (fl_ 34 13) fun K hK => ?_
  refine go_ Try.func95 #[.slice A0_0 l0_0.length c0_0] ?_
  with_reducible refine (spec_IsAscending.calls k _ _ l0_0 true _ ?side1 ?side2 A5.out).mono ?_
  (case side1 => exact cs_ HR0_0 HB)
  (case side2 => exact HC0_0.out)
  rintro e w' ⟨rfl, ⟨nd, rfl⟩⟩
  refine ⟨_, rfl, ?_⟩
  refine hK.out _ _ ((blk_cell BK218.out 0).trans rfl) (fun hHeld => ?_)
  clear hK K
  refine no_ 15 ?_
  refine pu_ 13 16 (fl_ 34 14) ?_
  refine pu_ 14 17 (fl_ 34 15) ?_
  refine pu_ 15 18 (fl_ 34 16) ?_
  refine ta_ 16 19 (fl_ 34 17) ?_
  refine on_ 17 20 (fl_ 34 18) fun K hK => ?_
  refine go_ Try.func96 #[.slice A0_0 l0_0.length c0_0] ?_
  with_reducible refine (spec_GcdOfList.calls k _ _ l0_0 t221 _ ?side1 ?side2 A7.out).mono ?_
  (case side1 => exact cs_ HR0_0 HB)
  (case side2 => exact HC0_0.out)
  rintro e w' ⟨rfl, ⟨nd, rfl⟩⟩
  refine ⟨_, rfl, ?_⟩
  refine hK.out _ _ ((blk_cell BK218.out 0).trans rfl) (fun hHeld => ?_)
  clear hK K
  refine no_ 20 ?_
  refine pu_ 18 21 (fl_ 34 19) ?_
  refine pu_ 19 22 (fl_ 34 20) ?_
  refine pu_ 20 23 (fl_ 34 21) ?_
  refine pu_ 21 24 (fl_ 34 22) ?_
  refine pu_ 24 27 (fm_ 34 20971519) ?_
  refine ta_ 22 25 (fm_ 34 25165823) ?_
  refine ta_ 25 28 (fm_ 34 58720255) ?_
  refine on_ 23 26 (fl_ 34 26) fun K hK => ?_
  refine go_ Try.func97 #[.slice A0_0 l0_0.length c0_0] ?_
  with_reducible refine (spec_l3Minimal.calls k _ _ l0_0 t222 _ ?side1 ?side2 A9.out).mono ?_
  (case side1 => exact cs_ HR0_0 HB)
  (case side2 => exact HC0_0.out)
  rintro e w20 ⟨v223, rfl, ho0, hb⟩
  refine ⟨_, rfl, ?_⟩
  have HO224 := rl_ ho0 HB
  replace BK218 := bb_ BK218 hb
  replace HB := bs_ HB hb
  (try clear hb)
  (try clear hb2)
  (try clear hk)
  (try clear hi)
  (try clear ho0)
  obtain ⟨Ao21, co21, eo21⟩ := Kd.R_slice HO224.out
  (first | subst eo21 | (injection eo21 with f1_ f2_ f3_; have f4_ := f1_.symm; have f5_ := f3_.symm; clear f1_ f2_ f3_; subst f4_; subst f5_))
  refine hK.out _ _ ((blk_cell BK218.out 0).trans rfl) (fun hHeld => ?_)
  clear hK K
  refine no_ 26 ?_
  refine on_ 26 29 (fl_ 34 27) fun K hK => ?_
  refine go_ Try.func64 #[.slice Ao21 t222.length co21, .slice A0_0 l0_0.length c0_0] ?_
  with_reducible refine (spec_l2Same.calls k _ _ t222 _ _ l0_0 false _ ?side1 ?side2 ?side3 ?side4 A10.out).mono ?_
  (case side1 => exact rs_ HO224)
  (case side2 => exact (Kd.R_reads' HO224.out).2.1)
  (case side3 => exact cs_ HR0_0 HB)
  (case side4 => exact HC0_0.out)
  rintro e w' ⟨rfl, ⟨nd, rfl⟩⟩
  refine ⟨_, rfl, ?_⟩
  refine hK.out _ _ ((blk_cell BK218.out 0).trans rfl) (fun hHeld => ?_)
  clear hK K
  refine no_ 29 ?_
  refine pu_ 27 30 (fl_ 34 28) ?_
  refine pu_ 28 31 (fl_ 34 29) ?_
  refine un_ 29 32 (fl_ 34 30) ?_
  refine un_ 30 33 (fl_ 34 31) ?_
  refine un_ 31 34 (fl_ 34 32) ?_
  refine pu_ 32 35 (fl_ 34 33) ?_
  refine pu_ 33 2 (fl_ 34 34) ?_
  refine done_ (done_of HT_.out (by kernel_rfl)) ?_
  try go_wp2
  go_ret
  exact ⟨er_, bl_ HB.out⟩
 subst c11
 rw [if_pos rfl] at H
 obtain ⟨t226, A12, H⟩ := ob_ H
 (try dsimp only at H)
 obtain rfl := Option.some.inj H
 go_enter Try.func52, Try.ntmps52
 try go_wp2_with (first | ((with_reducible refine gate_dst (N := 1) rfl ?_); (try (refine gate_guard (by rfl) ?_; dsimp only)); refine be_ 1 #[.slice A0_0 l0_0.length c0_0] 29 fun gb218 hg w13 hbox hb => ?_; have BK218 := am_ (hbox); have GW218 := ge_ hg HB; have GE218 := ge_ hg HB; replace HB := bs_ HB hb; clear hb hbox hg))
 replace BK218 := am_ (blk_drew BK218.out)
 replace HB := am_ (below_drew1 HB.out)
 refine start_ (n := 34) (S := fun w' => w'.cell? ⟨gb218, 0, none⟩ = some (.slice A0_0 l0_0.length c0_0)) (ds := []) (fl_ 34 0) (by kernel_rfl) rfl rfl ((blk_cell BK218.out 0).trans rfl) (fun hHeld => ?_); refine with_tabW spec_IsSemigroup.tab1 spec_IsSemigroup.bits1 (fun HT_ HW_ => ?_)
 generalize w13.drew = w14 at BK218 HB hHeld ⊢
 refine pu_ 0 3 (fl_ 34 1) ?_
 refine ta_ 1 4 (fl_ 34 2) ?_
 refine on_ 2 5 (fl_ 34 3) fun K hK => ?_
 refine go_ Try.func94 #[.slice A0_0 l0_0.length c0_0] ?_
 with_reducible refine (spec_l3Gens.calls k _ _ l0_0 true _ ?side1 ?side2 A2.out).mono ?_
 (case side1 => exact cs_ HR0_0 HB)
 (case side2 => exact HC0_0.out)
 rintro e w' ⟨rfl, ⟨nd, rfl⟩⟩
 refine ⟨_, rfl, ?_⟩
 refine hK.out _ _ ((blk_cell BK218.out 0).trans rfl) (fun hHeld => ?_)
 clear hK K
 refine no_ 5 ?_
 refine pu_ 3 6 (fl_ 34 4) ?_
 refine pu_ 4 7 (fl_ 34 5) ?_
 refine ta_ 5 8 (fl_ 34 6) ?_
 refine pu_ 6 9 (fl_ 34 7) ?_
 refine pu_ 7 10 (fl_ 34 8) ?_
 refine pu_ 8 11 (fl_ 34 9) ?_
 refine pu_ 9 12 (fl_ 34 10) ?_
 refine pu_ 10 13 (fl_ 34 11) ?_
 refine ta_ 11 14 (fl_ 34 12) ?_
 refine on_ 12 15 (fl_ 34 13) fun K hK => ?_
 refine go_ Try.func95 #[.slice A0_0 l0_0.length c0_0] ?_
 with_reducible refine (spec_IsAscending.calls k _ _ l0_0 true _ ?side1 ?side2 A5.out).mono ?_
 (case side1 => exact cs_ HR0_0 HB)
 (case side2 => exact HC0_0.out)
 rintro e w' ⟨rfl, ⟨nd, rfl⟩⟩
 refine ⟨_, rfl, ?_⟩
 refine hK.out _ _ ((blk_cell BK218.out 0).trans rfl) (fun hHeld => ?_)
 clear hK K
 refine no_ 15 ?_
 refine pu_ 13 16 (fl_ 34 14) ?_
 refine pu_ 14 17 (fl_ 34 15) ?_
 refine pu_ 15 18 (fl_ 34 16) ?_
 refine ta_ 16 19 (fl_ 34 17) ?_
 refine on_ 17 20 (fl_ 34 18) fun K hK => ?_
 refine go_ Try.func96 #[.slice A0_0 l0_0.length c0_0] ?_
 with_reducible refine (spec_GcdOfList.calls k _ _ l0_0 t221 _ ?side1 ?side2 A7.out).mono ?_
 (case side1 => exact cs_ HR0_0 HB)
 (case side2 => exact HC0_0.out)
 rintro e w' ⟨rfl, ⟨nd, rfl⟩⟩
 refine ⟨_, rfl, ?_⟩
 refine hK.out _ _ ((blk_cell BK218.out 0).trans rfl) (fun hHeld => ?_)
 clear hK K
 refine no_ 20 ?_
 refine pu_ 18 21 (fl_ 34 19) ?_
 refine pu_ 19 22 (fl_ 34 20) ?_
 refine pu_ 20 23 (fl_ 34 21) ?_
 refine pu_ 21 24 (fl_ 34 22) ?_
 refine pu_ 24 27 (fm_ 34 20971519) ?_
 refine ta_ 22 25 (fm_ 34 25165823) ?_
 refine ta_ 25 28 (fm_ 34 58720255) ?_
 refine on_ 23 26 (fl_ 34 26) fun K hK => ?_
 refine go_ Try.func97 #[.slice A0_0 l0_0.length c0_0] ?_
 with_reducible refine (spec_l3Minimal.calls k _ _ l0_0 t222 _ ?side1 ?side2 A9.out).mono ?_
 (case side1 => exact cs_ HR0_0 HB)
 (case side2 => exact HC0_0.out)
 rintro e w15 ⟨v223, rfl, ho0, hb⟩
 refine ⟨_, rfl, ?_⟩
 have HO224 := rl_ ho0 HB
 replace BK218 := bb_ BK218 hb
 replace HB := bs_ HB hb
 (try clear hb)
 (try clear hb2)
 (try clear hk)
 (try clear hi)
 (try clear ho0)
 obtain ⟨Ao16, co16, eo16⟩ := Kd.R_slice HO224.out
 (first | subst eo16 | (injection eo16 with f1_ f2_ f3_; have f4_ := f1_.symm; have f5_ := f3_.symm; clear f1_ f2_ f3_; subst f4_; subst f5_))
 refine hK.out _ _ ((blk_cell BK218.out 0).trans rfl) (fun hHeld => ?_)
 clear hK K
 refine no_ 26 ?_
 refine on_ 26 29 (fl_ 34 27) fun K hK => ?_
 refine go_ Try.func64 #[.slice Ao16 t222.length co16, .slice A0_0 l0_0.length c0_0] ?_
 with_reducible refine (spec_l2Same.calls k _ _ t222 _ _ l0_0 true _ ?side1 ?side2 ?side3 ?side4 A10.out).mono ?_
 (case side1 => exact rs_ HO224)
 (case side2 => exact (Kd.R_reads' HO224.out).2.1)
 (case side3 => exact cs_ HR0_0 HB)
 (case side4 => exact HC0_0.out)
 rintro e w' ⟨rfl, ⟨nd, rfl⟩⟩
 refine ⟨_, rfl, ?_⟩
 refine hK.out _ _ ((blk_cell BK218.out 0).trans rfl) (fun hHeld => ?_)
 clear hK K
 refine no_ 29 ?_
 refine pu_ 27 30 (fl_ 34 28) ?_
 refine pu_ 28 31 (fl_ 34 29) ?_
 refine pu_ 29 32 (fl_ 34 30) ?_
 refine ta_ 30 33 (fl_ 34 31) ?_
 refine on_ 31 34 (fl_ 34 32) fun K hK => ?_
 refine go_ Try.func98 #[.slice A0_0 l0_0.length c0_0] ?_
 with_reducible refine (spec_l3Ends.calls k _ _ l0_0 t226 _ ?side1 ?side2 A12.out).mono ?_
 (case side1 => exact cs_ HR0_0 HB)
 (case side2 => exact HC0_0.out)
 rintro e w17 ⟨rfl, hb⟩
 refine ⟨_, rfl, ?_⟩
 replace HO224 := rb_ HO224 hb
 replace BK218 := bb_ BK218 hb
 replace HB := bs_ HB hb
 (try clear hb)
 (try clear hb2)
 (try clear hk)
 (try clear hi)
 refine hK.out _ _ ((blk_cell BK218.out 0).trans rfl) (fun hHeld => ?_)
 clear hK K
 refine no_ 34 ?_
 refine pu_ 32 35 (fl_ 34 33) ?_
 refine pu_ 33 2 (fl_ 34 34) ?_
 refine done_ (done_of HT_.out (by kernel_rfl)) ?_
 try go_wp2
 go_ret
 exact ⟨er_, bl_ HB.out⟩
end Go.Proofs.Ytddgegejeoihaaa.PFnArf
end
